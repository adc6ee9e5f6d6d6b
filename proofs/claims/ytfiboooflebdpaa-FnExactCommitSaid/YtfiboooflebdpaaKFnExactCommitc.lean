/- Texts of the claim on FnExactCommit, gathered by a program of this session: what the program's functions compute (proved by walks), and the plain part. -/
import Derived.Test.YtfiboooflebdpaaKFnExactCommitb
namespace Go.Proofs.Ytfiboooflebdpaa.Q
open Go.RowKit Go.Proofs.YtfiboooflebdpaaW.PrintWords Go.Proofs.YtfiboooflebdpaaW.PrintLast Go.Proofs.YtfiboooflebdpaaW.PrintMore
attribute [local go_sem] max2_int min2_int max_two min_two max_three min_three max_four min_four
set_option linter.unusedVariables false
set_option linter.unusedSimpArgs false

theorem q73zA {α : Type} (l : List α) (i : Nat) (a : α) : l.toArray.setIfInBounds i a = (l.set i a).toArray := qzA l i a
theorem q73zB {α : Type} {a b : α} {t : List α} : (a :: t).set 0 b = b :: t := rfl
theorem q73zC {α : Type} {a b : α} {t : List α} {n : Nat} : (a :: t).set (n + 1) b = a :: t.set n b := rfl
theorem q73bN {B : Nat} {w W : World} (h : Below B w W) (n : Nat) : Below B w (W.drewN n) := qbN h n
theorem q73bA {w W : World} (h : Below w.heap.size w W) (o : Obj) : Below w.heap.size w (W.alloc o) := qbA h o
theorem q73bD {base : Nat} {w W : World} (h : Below base w W) : Below base w W.drew := qbD h
theorem q73bS {w W : World} {g j : Nat} {v : Value} (h : Below w.heap.size w W) (hg : w.heap.size ≤ g) : Below w.heap.size w (W.setCell ⟨g, j, none⟩ v) := qbS h hg
theorem q73O {p : Prop} (h : p) : Aside0 p := ⟨h⟩
theorem q73T {p : Prop} [Decidable p] (h : decide p = true) : p := qT h
theorem q73L (w : World) (a : Addr) {v : Value} (h : w.cell? a = some v) : a.block < w.heap.size := qL w a h
theorem q73kN {w : World} {g : Nat} {o : Obj} (h : w.heap[g]? = some o) (n : Nat) : (w.drewN n).heap[g]? = some o := h
theorem q73kD {w : World} {g : Nat} {o : Obj} (h : w.heap[g]? = some o) : w.drew.heap[g]? = some o := h
theorem q73kA {w : World} {g : Nat} {o : Obj} (h : w.heap[g]? = some o) (o' : Obj) : (w.alloc o').heap[g]? = some o := qkA h o'
def spec_l06Write.l0 : Nat → List (S58) → Int → List (List (S43)) → Int → Option ((List (List (S43))) × Int)
 | 0, _, _, _, _ => none
 | k + 1, x1, x5, x102000, x102001 => if x5 < (x1.length : Int) then (if 0 ≤ x5 then (if 0 ≤ ((rd_T58 x1 x5).f0) then (if ((rd_T58 x1 x5).f0) < (x102000.length : Int) then (if ((rd_L4 x102000 ((rd_T58 x1 x5).f0)).length : Int) > 0 then (if 0 ≤ (wrap64 (((rd_L4 x102000 ((rd_T58 x1 x5).f0)).length : Int) - 1)) then (if (wrap64 (((rd_L4 x102000 ((rd_T58 x1 x5).f0)).length : Int) - 1)) < ((rd_L4 x102000 ((rd_T58 x1 x5).f0)).length : Int) then (if ((rd_T43 (rd_L4 x102000 ((rd_T58 x1 x5).f0)) (wrap64 (((rd_L4 x102000 ((rd_T58 x1 x5).f0)).length : Int) - 1))).f0) = x102001 then (if (wrap64 (((rd_L4 x102000 ((rd_T58 x1 x5).f0)).length : Int) - 1)) ≤ ((rd_L4 x102000 ((rd_T58 x1 x5).f0)).length : Int) then ((some ((rd_L4 x102000 ((rd_T58 x1 x5).f0)).take ((wrap64 (((rd_L4 x102000 ((rd_T58 x1 x5).f0)).length : Int) - 1)) : Int).toNat : List (S43))).bind fun y110 => ((some (([] : List (S43)) : List (S43))).bind fun y116 => (if y116.length + y110.length < 8796093022208 then ((some (y116 ++ y110 : List (S43))).bind fun y119 => ((some (([(⟨x102001, (rd_T58 x1 x5).f1⟩ : S43)] : List (S43)) : List (S43))).bind fun y123 => (if y119.length + y123.length < 8796093022208 then (spec_l06Write.l0 k x1 (wrap64 (x5 + 1)) (x102000.set (((rd_T58 x1 x5).f0) : Int).toNat (y119 ++ y123)) x102001) else (none)))) else (none)))) else (none)) else ((some (([] : List (S43)) : List (S43))).bind fun y131 => (if y131.length + (rd_L4 x102000 ((rd_T58 x1 x5).f0)).length < 8796093022208 then ((some (y131 ++ (rd_L4 x102000 ((rd_T58 x1 x5).f0)) : List (S43))).bind fun y134 => ((some (([(⟨x102001, (rd_T58 x1 x5).f1⟩ : S43)] : List (S43)) : List (S43))).bind fun y138 => (if y134.length + y138.length < 8796093022208 then (spec_l06Write.l0 k x1 (wrap64 (x5 + 1)) (x102000.set (((rd_T58 x1 x5).f0) : Int).toNat (y134 ++ y138)) x102001) else (none)))) else (none)))) else (none)) else (none)) else ((some (([] : List (S43)) : List (S43))).bind fun y146 => (if y146.length + (rd_L4 x102000 ((rd_T58 x1 x5).f0)).length < 8796093022208 then ((some (y146 ++ (rd_L4 x102000 ((rd_T58 x1 x5).f0)) : List (S43))).bind fun y149 => ((some (([(⟨x102001, (rd_T58 x1 x5).f1⟩ : S43)] : List (S43)) : List (S43))).bind fun y153 => (if y149.length + y153.length < 8796093022208 then (spec_l06Write.l0 k x1 (wrap64 (x5 + 1)) (x102000.set (((rd_T58 x1 x5).f0) : Int).toNat (y149 ++ y153)) x102001) else (none)))) else (none)))) else (none)) else (none)) else (none)) else (some (x102000, x102001))
def spec_l06Write.f (k : Nat) (l0_0 : List (List (S43))) (a0_1 : Int) (l1 : List (S58)) : Option ((List (List (S43))) × Int) := if (l1.length : Int) = 0 then (some (l0_0, a0_1)) else ((spec_l06Own.f k l0_0 a0_1).bind fun bt103 => (spec_l06Write.l0 k l1 0 bt103.1 (wrap64 (bt103.2 + 1))))
def spec_l06Write.T8 : Bool × List (List Nat × List Nat) := (true, [([], []), ([0], [0]), ([], []), ([], []), ([2, 3], [2, 3]), ([4], [4]), ([5], [5]), ([1, 6], [1, 6]), ([7], [7]), ([8, 0, 1, 2, 3, 4, 5, 6, 7, 8], [8])])
def spec_l06Write.B8 : List Nat := [0, 1, 0, 0, 12, 28, 60, 127, 255, 511]
theorem spec_l06Write.tab8 : rtab .any (opsOf Try.f73 8) = spec_l06Write.T8 := by kernel_rfl
theorem spec_l06Write.bits8 : waitsOk spec_l06Write.T8.2 spec_l06Write.B8 = true := by kernel_rfl
def spec_l06Write.T9 : Bool × List (List Nat × List Nat) := (true, [([], []), ([0], [0]), ([1], [1]), ([2], [2]), ([3], [3]), ([3], [3]), ([5, 3], [3, 5]), ([6, 3], [3, 6]), ([4, 7, 3], [3, 4, 7]), ([8, 3], [3, 8]), ([9, 3], [3, 9]), ([3], [3]), ([11, 3], [3, 11]), ([10, 12, 3], [3, 10, 12]), ([3, 13], [3, 13])])
def spec_l06Write.B9 : List Nat := [0, 1, 3, 7, 15, 15, 47, 111, 255, 511, 1023, 15, 2063, 8191, 16383]
theorem spec_l06Write.tab9 : rtab .any (opsOf Try.f73 9) = spec_l06Write.T9 := by kernel_rfl
theorem spec_l06Write.bits9 : waitsOk spec_l06Write.T9.2 spec_l06Write.B9 = true := by kernel_rfl
def spec_l06Write.T11 : Bool × List (List Nat × List Nat) := (true, [([], []), ([0], [0]), ([], []), ([], []), ([2, 3], [2, 3]), ([4], [4]), ([5], [5]), ([], []), ([], []), ([7, 8], [7, 8]), ([], []), ([10], [10]), ([], []), ([], []), ([12, 13], [12, 13]), ([14], [14]), ([15], [15]), ([11, 16], [11, 16]), ([17], [17]), ([9, 18, 9], [9, 18]), ([1, 6, 0, 1, 2, 3, 4, 5, 6, 7, 8, 9, 10, 11, 12, 13, 14, 15, 16, 17, 18, 19], [1, 6]), ([20, 19, 19, 0, 1, 2, 3, 4, 5, 6, 7, 8, 9, 10, 11, 12, 13, 14, 15, 16, 17, 18, 19], [19, 20])])
def spec_l06Write.B11 : List Nat := [0, 1, 0, 0, 12, 28, 60, 0, 0, 384, 0, 1024, 0, 0, 12288, 28672, 61440, 130048, 261120, 524160, 1048575, 2097151]
theorem spec_l06Write.tab11 : rtab .any (opsOf Try.f73 11) = spec_l06Write.T11 := by kernel_rfl
theorem spec_l06Write.bits11 : waitsOk spec_l06Write.T11.2 spec_l06Write.B11 = true := by kernel_rfl
def q73y0 : Array Bool := #[qf,qf,qf,qf,qf,qf,qf,qf,qf,qf]
def q73y1 : Array Bool := #[qt,qf,qf,qf,qf,qf,qf,qf,qf,qf]
def q73y2 : Array Bool := #[qt,qf,qt,qf,qf,qf,qf,qf,qf,qf]
def q73y3 : Array Bool := #[qt,qf,qt,qt,qf,qf,qf,qf,qf,qf]
def q73y4 : Array Bool := #[qt,qf,qt,qt,qt,qf,qf,qf,qf,qf]
def q73y5 : Array Bool := #[qt,qf,qt,qt,qt,qt,qf,qf,qf,qf]
def q73y6 : Array Bool := #[qt,qt,qt,qt,qt,qt,qf,qf,qf,qf]
def q73y7 : Array Bool := #[qt,qt,qt,qt,qt,qt,qt,qf,qf,qf]
def q73y8 : Array Bool := #[qt,qt,qt,qt,qt,qt,qt,qt,qf,qf]
def q73y9 : Array Bool := #[qt,qt,qt,qt,qt,qt,qt,qt,qt,qf]
def q73y10 : Array Bool := #[qt,qt,qt,qt,qt,qt,qt,qt,qt,qt]
def q73y11 : Array Bool := #[qf,qf,qf,qf,qf,qf,qf,qf,qf,qf,qf,qf,qf,qf,qf]
def q73y12 : Array Bool := #[qt,qf,qf,qf,qf,qf,qf,qf,qf,qf,qf,qf,qf,qf,qf]
def q73y13 : Array Bool := #[qt,qt,qf,qf,qf,qf,qf,qf,qf,qf,qf,qf,qf,qf,qf]
def q73y14 : Array Bool := #[qt,qt,qt,qf,qf,qf,qf,qf,qf,qf,qf,qf,qf,qf,qf]
def q73y15 : Array Bool := #[qt,qt,qt,qt,qf,qf,qf,qf,qf,qf,qf,qf,qf,qf,qf]
def q73y16 : Array Bool := #[qt,qt,qt,qt,qt,qf,qf,qf,qf,qf,qf,qf,qf,qf,qf]
def q73y17 : Array Bool := #[qt,qt,qt,qt,qt,qt,qf,qf,qf,qf,qf,qf,qf,qf,qf]
def q73y18 : Array Bool := #[qt,qt,qt,qt,qt,qt,qt,qf,qf,qf,qf,qf,qf,qf,qf]
def q73y19 : Array Bool := #[qt,qt,qt,qt,qt,qt,qt,qt,qf,qf,qf,qf,qf,qf,qf]
def q73y20 : Array Bool := #[qt,qt,qt,qt,qt,qt,qt,qt,qt,qf,qf,qf,qf,qf,qf]
def q73y21 : Array Bool := #[qt,qt,qt,qt,qt,qt,qt,qt,qt,qt,qf,qf,qf,qf,qf]
def q73y22 : Array Bool := #[qt,qt,qt,qt,qt,qt,qt,qt,qt,qt,qf,qt,qf,qf,qf]
def q73y23 : Array Bool := #[qt,qt,qt,qt,qt,qt,qt,qt,qt,qt,qt,qt,qf,qf,qf]
def q73y24 : Array Bool := #[qt,qt,qt,qt,qt,qt,qt,qt,qt,qt,qt,qt,qt,qf,qf]
def q73y25 : Array Bool := #[qt,qt,qt,qt,qt,qt,qt,qt,qt,qt,qt,qt,qt,qt,qf]
def q73y26 : Array Bool := #[qt,qt,qt,qt,qt,qt,qt,qt,qt,qt,qt,qt,qt,qt,qt]
def q73y27 : Array Bool := #[qf,qf,qf,qf,qf,qf,qf,qf,qf,qf,qf,qf,qf,qf,qf,qf,qf,qf,qf,qf,qf,qf]
def q73y28 : Array Bool := #[qt,qf,qf,qf,qf,qf,qf,qf,qf,qf,qf,qf,qf,qf,qf,qf,qf,qf,qf,qf,qf,qf]
def q73y29 : Array Bool := #[qt,qf,qt,qf,qf,qf,qf,qf,qf,qf,qf,qf,qf,qf,qf,qf,qf,qf,qf,qf,qf,qf]
def q73y30 : Array Bool := #[qt,qf,qt,qt,qf,qf,qf,qf,qf,qf,qf,qf,qf,qf,qf,qf,qf,qf,qf,qf,qf,qf]
def q73y31 : Array Bool := #[qt,qf,qt,qt,qt,qf,qf,qf,qf,qf,qf,qf,qf,qf,qf,qf,qf,qf,qf,qf,qf,qf]
def q73y32 : Array Bool := #[qt,qf,qt,qt,qt,qt,qf,qf,qf,qf,qf,qf,qf,qf,qf,qf,qf,qf,qf,qf,qf,qf]
def q73y33 : Array Bool := #[qt,qf,qt,qt,qt,qt,qf,qf,qt,qf,qf,qf,qf,qf,qf,qf,qf,qf,qf,qf,qf,qf]
def q73y34 : Array Bool := #[qt,qf,qt,qt,qt,qt,qf,qf,qt,qf,qt,qf,qf,qf,qf,qf,qf,qf,qf,qf,qf,qf]
def q73y35 : Array Bool := #[qt,qf,qt,qt,qt,qt,qf,qf,qt,qf,qt,qf,qt,qf,qf,qf,qf,qf,qf,qf,qf,qf]
def q73y36 : Array Bool := #[qt,qf,qt,qt,qt,qt,qf,qf,qt,qf,qt,qf,qt,qt,qf,qf,qf,qf,qf,qf,qf,qf]
def q73y37 : Array Bool := #[qt,qf,qt,qt,qt,qt,qf,qf,qt,qf,qt,qf,qt,qt,qt,qf,qf,qf,qf,qf,qf,qf]
def q73y38 : Array Bool := #[qt,qf,qt,qt,qt,qt,qf,qf,qt,qf,qt,qf,qt,qt,qt,qt,qf,qf,qf,qf,qf,qf]
def q73y39 : Array Bool := #[qt,qt,qt,qt,qt,qt,qf,qf,qt,qf,qt,qf,qt,qt,qt,qt,qf,qf,qf,qf,qf,qf]
def q73y40 : Array Bool := #[qt,qt,qt,qt,qt,qt,qt,qf,qt,qf,qt,qf,qt,qt,qt,qt,qf,qf,qf,qf,qf,qf]
def q73y41 : Array Bool := #[qt,qt,qt,qt,qt,qt,qt,qf,qt,qf,qt,qt,qt,qt,qt,qt,qf,qf,qf,qf,qf,qf]
def q73y42 : Array Bool := #[qt,qt,qt,qt,qt,qt,qt,qf,qt,qf,qt,qt,qt,qt,qt,qt,qt,qf,qf,qf,qf,qf]
def q73y43 : Array Bool := #[qt,qt,qt,qt,qt,qt,qt,qf,qt,qf,qt,qt,qt,qt,qt,qt,qt,qt,qf,qf,qf,qf]
def q73y44 : Array Bool := #[qt,qt,qt,qt,qt,qt,qt,qt,qt,qt,qt,qt,qt,qt,qt,qt,qt,qt,qt,qf,qf,qf]
def q73y45 : Array Bool := #[qt,qt,qt,qt,qt,qt,qt,qt,qt,qf,qt,qt,qt,qt,qt,qt,qt,qt,qf,qf,qf,qf]
def q73y46 : Array Bool := #[qt,qt,qt,qt,qt,qt,qt,qf,qt,qf,qt,qt,qt,qt,qt,qt,qt,qt,qt,qf,qf,qf]
def q73y47 : Array Bool := #[qt,qt,qt,qt,qt,qt,qt,qt,qt,qt,qt,qt,qt,qt,qt,qt,qt,qt,qf,qf,qf,qf]
def q73y48 : Array Bool := #[qt,qt,qt,qt,qt,qt,qt,qt,qt,qf,qt,qt,qt,qt,qt,qt,qt,qt,qt,qf,qf,qf]
def q73y49 : Array Bool := #[qt,qt,qt,qt,qt,qt,qt,qt,qt,qt,qt,qt,qt,qt,qt,qt,qt,qt,qt,qt,qf,qf]
def q73y50 : Array Bool := #[qt,qt,qt,qt,qt,qt,qt,qt,qt,qt,qt,qt,qt,qt,qt,qt,qt,qt,qt,qt,qt,qf]
def q73y51 : Array Bool := #[qt,qt,qt,qt,qt,qt,qt,qt,qt,qt,qt,qt,qt,qt,qt,qt,qt,qt,qt,qt,qt,qt]
def q73y52 : Array Bool := #[qt,qt,qt,qt,qt,qt,qt,qt,qt,qt,qt,qf,qf,qf,qf]
set_option maxHeartbeats 8000000 in
set_option maxRecDepth 100000 in
theorem spec_l06Write.calls (k : Nat) (P0_0_ : Nat → Prop) (A0_0 : Option Addr) (c0_0 : Nat) (l0_0 : List (List (S43))) (a0_1 : Int) (A1 : Option Addr) (c1 : Nat) (l1 : List (S58)) (r1 : List (List (S43))) (r2 : Int) (w : World) (hs0_0 : Kd.V (Kd.slice 43 k43) 41 w w.heap.size (fun k_ => P0_0_ k_) (.slice A0_0 l0_0.length c0_0) l0_0) (hr1 : Kd.C k58 w A1 l1.length l1) (hc1 : l1.length ≤ c1) (h : spec_l06Write.f k l0_0 a0_1 l1 = some (r1, r2)) :
  Calls Try.prog 73 #[.agg #[.slice A0_0 l0_0.length c0_0, .int .i64 a0_1], .slice A1 l1.length c1] w fun e w' => ∃ v0_ : Value, e = .returned (.agg #[v0_, .int .i64 r2]) ∧ Kd.V (Kd.slice 43 k43) 41 w' w.heap.size (fun k_ => (P0_0_ k_ ∨ w.heap.size ≤ k_)) v0_ r1 ∧ Below w.heap.size w w' := by
 have hu28 := Try.underlying28; have hu43 := Try.underlying43; have HO0_0 := q73O (show Kd.V (Kd.slice 43 k43) 41 w w.heap.size (fun k_ => (P0_0_ k_ ∨ w.heap.size ≤ k_)) (.slice A0_0 l0_0.length c0_0) l0_0 from Kd.V_mono hs0_0 (fun k_ hk => .inl hk)); have HR1 := q73O hr1; have HC1 := q73O hc1; clear hr1 hc1; have HB := q73O (Below.refl w.heap.size w); have H : (if (l1.length : Int) = 0 then (some (l0_0, a0_1)) else ((spec_l06Own.f k l0_0 a0_1).bind fun bt103 => (spec_l06Write.l0 k l1 0 bt103.1 (wrap64 (bt103.2 + 1))))) = some (r1, r2) := h; clear h
 by_cases c3 : (l1.length : Int) = 0
 ·rw [if_pos c3] at H
  have c3b0 : ((l1.length : Int) == 0) = true := beq_iff_eq.mpr c3; have c3b1 : ((l1.length : Int) != 0) = false := bne_eq_false_iff_eq.mpr c3; clear c3; simp only [Option.some.injEq, Prod.mk.injEq] at H; obtain ⟨rfl, rfl⟩ := H
  go_enter Try.func73, Try.ntmps73
  go_wp2_with (first | ((with_reducible refine gate_dst (N := 2) rfl ?_); (try (refine gate_guard (by rfl) ?_; dsimp only)); refine qX 2 #[.slice A0_0 l0_0.length c0_0, .int .i64 a0_1] 28 ?_; intro gb101 hg w4 hbox hb; have BK101 := q73O (hbox); have GW101 := q73O ((qa104 : w.heap.size ≤ gb101)); have GE101 := q73O ((qa104 : w.heap.size ≤ gb101)); replace HO0_0 := q73O (Kd.V_below (Kd.V_elderB qa31 gb101 (Nat.le_of_eq hg.symm)) hb); replace HB := q73O (below_step qa167 hb); clear hb hbox hg) | ((with_reducible refine gate_dst (N := 4) rfl ?_); (try (refine gate_guard (by rfl) ?_; dsimp only)); refine qX 4 #[.slice none 0 0, .int .i64 0] 28 ?_; intro gb102 hg w5 hbox hb; have BK102 := q73O (hbox); have GW102 := q73O ((qa82 : w.heap.size ≤ gb102)); have GE102 := q73O ((qa82 : w.heap.size ≤ gb102)); have NB101_102 := q73O ((qa118 : gb101 ≠ gb102)); have NB102_101 := q73O ((qa119 : gb102 ≠ gb101)); replace HO0_0 := q73O (Kd.V_below (Kd.V_elderB qa31 gb102 (Nat.le_of_eq hg.symm)) hb); replace BK101 := q73O (blk_below (g := gb101) (o := .cells #[.slice A0_0 l0_0.length c0_0, .int .i64 a0_1] 28 (0, 0)) qa21 hb); replace HB := q73O (below_step qa161 hb); clear hb hbox hg; have hnb6 := NB101_102.out; have hnc6 := NB102_101.out; obtain ⟨hcz7_0, hcz7_1, hfz7_0, hfz7_1⟩ := qb2 BK101.out; obtain ⟨hcz8_0, hcz8_1, hfz8_0, hfz8_1⟩ := qb2 BK102.out))
  refine bodyPost_ret (results_cell_row rfl _ _ gb102 28 #[.slice A0_0 l0_0.length c0_0, .int .i64 a0_1] (0, 0) _ rfl (by (with_reducible repeat (first | refine q73kN ?_ _ | refine q73kD ?_ | refine q73kA ?_ _)); refine blk_put (cs := #[.slice A0_0 l0_0.length c0_0, .int .i64 0]) ?_ 1 _ rfl; (with_reducible repeat (first | refine q73kN ?_ _ | refine q73kD ?_ | refine q73kA ?_ _)); refine blk_put (cs := #[.slice none 0 0, .int .i64 0]) ?_ 0 _ rfl; (with_reducible repeat (first | refine q73kN ?_ _ | refine q73kD ?_ | refine q73kA ?_ _)); exact BK102.out) Try.underlying28 rfl qa5) rfl ?_
  exact ⟨_, qa7, by (with_reducible repeat (first | apply Kd.V_alloc | apply Kd.V_drewN | apply Kd.V_drew)); exact Kd.V_mono (Kd.V_far (p := ⟨gb102, 1, none⟩) (Kd.V_far (p := ⟨gb102, 0, none⟩) (Kd.V_mono HO0_0.out (fun k_ hk => (⟨hk, hk.2⟩ : _ ∧ k_ ≠ gb102))) (fun _ hk => hk.2) (.slice A0_0 l0_0.length c0_0)) (fun _ hk => hk.2) (.int .i64 a0_1)) (fun _ hk => hk.1.1.1), qa6⟩
 ·rw [if_neg c3] at H
  have c3b0 : ((l1.length : Int) == 0) = false := beq_eq_false_iff_ne.mpr c3; have c3b1 : ((l1.length : Int) != 0) = true := bne_iff_ne.mpr c3; have c3b2 : ¬ (l1 = []) := fun h_ => c3 (by rw [h_]; rfl)
  replace H := Option.bind_eq_some_iff.mp H; obtain ⟨⟨t103, t106⟩, A90, H⟩ := H; replace H : (spec_l06Write.l0 k l1 0 t103 (wrap64 (t106 + 1))) = some (r1, r2) := H; have A9 := q73O A90; clear A90; have H' := q73O H; clear H
  go_enter Try.func73, Try.ntmps73
  go_wp2_with (first | ((with_reducible refine gate_dst (N := 2) rfl ?_); (try (refine gate_guard (by rfl) ?_; dsimp only)); refine qX 2 #[.slice A0_0 l0_0.length c0_0, .int .i64 a0_1] 28 ?_; intro gb101 hg w10 hbox hb; have BK101 := q73O (hbox); have GW101 := q73O ((qa104 : w.heap.size ≤ gb101)); have GE101 := q73O ((qa104 : w.heap.size ≤ gb101)); replace HO0_0 := q73O (Kd.V_below (Kd.V_elderB qa31 gb101 (Nat.le_of_eq hg.symm)) hb); replace HB := q73O (below_step qa167 hb); clear hb hbox hg) | ((with_reducible refine gate_dst (N := 4) rfl ?_); (try (refine gate_guard (by rfl) ?_; dsimp only)); refine qX 4 #[.slice none 0 0, .int .i64 0] 28 ?_; intro gb102 hg w11 hbox hb; have BK102 := q73O (hbox); have GW102 := q73O ((qa82 : w.heap.size ≤ gb102)); have GE102 := q73O ((qa82 : w.heap.size ≤ gb102)); have NB101_102 := q73O ((qa118 : gb101 ≠ gb102)); have NB102_101 := q73O ((qa119 : gb102 ≠ gb101)); replace HO0_0 := q73O (Kd.V_below (Kd.V_elderB qa31 gb102 (Nat.le_of_eq hg.symm)) hb); replace BK101 := q73O (blk_below (g := gb101) (o := .cells #[.slice A0_0 l0_0.length c0_0, .int .i64 a0_1] 28 (0, 0)) qa21 hb); replace HB := q73O (below_step qa161 hb); clear hb hbox hg; have hnb12 := NB101_102.out; have hnc12 := NB102_101.out; obtain ⟨hcz13_0, hcz13_1, hfz13_0, hfz13_1⟩ := qb2 BK101.out) | ((with_reducible refine gate_callee (f := 72) rfl ?_); refine goesL_ (some 12) rfl rfl Try.func72 qa5 rfl #[.agg #[.slice A0_0 l0_0.length c0_0, .int .i64 a0_1]] rfl qa3 ?_; (with_reducible refine (spec_l06Own.calls k _ _ l0_0 a0_1 t103 t106 _ ?side1 ?side2 A9.out).mono ?_); (case side1 => exact qa110); (case side2 => exact (Kd.V_reads' HO0_0.out).2.1); rintro e w14 ⟨v104, rfl, ho0, hb⟩; refine ⟨_, rfl, ?_⟩; have HO105 := q73O (Kd.N_lower (Kd.N_mono (ok' := fun k_ => (P0_0_ k_ ∨ w.heap.size ≤ k_) ∧ k_ ≠ gb101 ∧ k_ ≠ gb102) (Kd.S_N (Kd.S_bound ho0)) (fun k_ hk_ => ⟨(.inr (Nat.le_trans (below_size qa6) hk_.2.1)), (Kd.freshB (g := gb101) (o := .cells #[.slice A0_0 l0_0.length c0_0, .int .i64 a0_1] 28 (0, 0)) qa21 k_ hk_.2.1), (Kd.freshB (g := gb102) (o := .cells #[.slice none 0 0, .int .i64 0] 28 (0, 0)) qa23 k_ hk_.2.1)⟩)) (below_size qa6)); replace HO0_0 := q73O (Kd.V_elder' qa31 (Kd.S_base ho0) hb); replace BK101 := q73O (blk_below (g := gb101) (o := .cells #[.slice A0_0 l0_0.length c0_0, .int .i64 a0_1] 28 (0, 0)) qa21 hb); replace BK102 := q73O (blk_below (g := gb102) (o := .cells #[.slice none 0 0, .int .i64 0] 28 (0, 0)) qa23 hb); replace HB := q73O (below_step qa6 hb); (try clear hb); (try clear hb2); (try clear hk); (try clear hi); (try clear ho0); obtain ⟨Ao15, co15, eo15⟩ := Kd.N_slice HO105.out; subst eo15; obtain ⟨hcz16_0, hcz16_1, hfz16_0, hfz16_1⟩ := qb2 BK101.out))
  go_loopg [5] k (fun kq v5 w' => ∃ (x5_1 : Int) (x102000_1 : List (List (S43))) (u102000 : Value), v5 = .int .i64 x5_1 ∧ Aside0 (spec_l06Write.l0 kq l1 x5_1 x102000_1 (wrap64 (t106 + 1)) = some (r1, r2)) ∧ Aside0 (kq ≤ k) ∧ Aside0 (Kd.N (Kd.slice 43 k43) 41 w' w.heap.size (fun k_ => (P0_0_ k_ ∨ w.heap.size ≤ k_) ∧ k_ ≠ gb101 ∧ k_ ≠ gb102) u102000 x102000_1) ∧ Aside0 (w'.heap[gb101]? = some (.cells #[u102000, .int .i64 (wrap64 (t106 + 1))] 28 (0, 0))) ∧ Aside0 (w'.heap[gb102]? = some (.cells #[(.slice none 0 0), .int .i64 0] 28 (0, 0))) ∧ Aside0 (Below w.heap.size w w'))
  case atStart => exact ⟨(0), (t103), (.slice Ao15 t103.length co15), qa12, H', ⟨Nat.le_refl _⟩, ⟨by (with_reducible repeat (first | apply Kd.N_alloc | apply Kd.N_drewN | apply Kd.N_drew)); exact Kd.N_mono (Kd.N_far (p := ⟨gb101, 1, none⟩) (Kd.N_far (p := ⟨gb101, 1, none⟩) (Kd.N_far (p := ⟨gb101, 0, none⟩) (Kd.N_mono HO105.out (fun k_ hk => (⟨hk, hk.2.1⟩ : _ ∧ k_ ≠ gb101))) (fun _ hk => hk.2) (.slice Ao15 t103.length co15)) (fun _ hk => hk.2) (.int .i64 t106)) (fun _ hk => hk.2) (.int .i64 (wrap64 (t106 + 1)))) (fun _ hk => ⟨hk.1.1, ⟨hk.1.2.1, hk.1.2.2⟩⟩)⟩, ⟨by (with_reducible repeat (first | refine q73kN ?_ _ | refine q73kD ?_ | refine q73kA ?_ _)); refine blk_put (cs := #[.slice Ao15 t103.length co15, .int .i64 t106]) ?_ 1 _ rfl; (with_reducible repeat (first | refine q73kN ?_ _ | refine q73kD ?_ | refine q73kA ?_ _)); refine blk_put (cs := #[.slice Ao15 t103.length co15, .int .i64 a0_1]) ?_ 1 _ rfl; (with_reducible repeat (first | refine q73kN ?_ _ | refine q73kD ?_ | refine q73kA ?_ _)); refine blk_put (cs := #[.slice A0_0 l0_0.length c0_0, .int .i64 a0_1]) ?_ 0 _ rfl; (with_reducible repeat (first | refine q73kN ?_ _ | refine q73kD ?_ | refine q73kA ?_ _)); exact BK101.out⟩, ⟨by (with_reducible repeat (first | refine q73kN ?_ _ | refine q73kD ?_ | refine q73kA ?_ _)); refine blk_far ?_ NB102_101.out _; (with_reducible repeat (first | refine q73kN ?_ _ | refine q73kD ?_ | refine q73kA ?_ _)); refine blk_far ?_ NB102_101.out _; (with_reducible repeat (first | refine q73kN ?_ _ | refine q73kD ?_ | refine q73kA ?_ _)); refine blk_far ?_ NB102_101.out _; (with_reducible repeat (first | refine q73kN ?_ _ | refine q73kD ?_ | refine q73kA ?_ _)); exact BK102.out⟩, ⟨qa6⟩⟩
  case round =>
   clear H'
   try clear c1
   try clear p2
   try clear c3
   try clear c3b0
   try clear c3b1
   try clear c3b2
   try clear c6
   try clear p6
   try clear c7
   try clear c12
   try clear hcz13_0
   try clear hcz13_1
   try clear hcz16_0
   try clear hcz16_1
   try clear hcz7_0
   try clear hcz7_1
   try clear hcz8_0
   try clear hcz8_1
   try clear hfz13_0
   try clear hfz13_1
   try clear hfz16_0
   try clear hfz16_1
   try clear hfz7_0
   try clear hfz7_1
   try clear hfz8_0
   try clear hfz8_1
   obtain ⟨x5_1, x102000_1, u102000, rfl, HA, HK1, HO_102000, BK101, BK102, HB⟩ := hrel
   cases gk with
   | zero => exact absurd HA.out (by simp [spec_l06Write.l0])
   | succ k1 =>
    have H := HA.out; clear HA; simp only [spec_l06Write.l0] at H
    by_cases c17 : x5_1 < (l1.length : Int)
    ·rw [if_pos c17] at H
     have c17b0 : decide (x5_1 < (l1.length : Int)) = true := decide_eq_true c17; clear c17
     by_cases c18 : 0 ≤ x5_1
     ·rw [if_pos c18] at H
      have c18b0 : decide (0 ≤ x5_1) = true := decide_eq_true c18; clear c18
      by_cases c19 : 0 ≤ ((rd_T58 l1 x5_1).f0)
      ·rw [if_pos c19] at H
       have c19b0 : decide (0 ≤ ((rd_T58 l1 x5_1).f0)) = true := decide_eq_true c19; clear c19
       by_cases c20 : ((rd_T58 l1 x5_1).f0) < (x102000_1.length : Int)
       ·rw [if_pos c20] at H
        have c20b0 : decide (((rd_T58 l1 x5_1).f0) < (x102000_1.length : Int)) = true := decide_eq_true c20; clear c20
        by_cases c21 : ((rd_L4 x102000_1 ((rd_T58 l1 x5_1).f0)).length : Int) > 0
        ·rw [if_pos c21] at H
         have c21b0 : decide (0 < ((rd_L4 x102000_1 ((rd_T58 l1 x5_1).f0)).length : Int)) = true := decide_eq_true c21; have c21b1 : decide (0 < (rd_L4 x102000_1 ((rd_T58 l1 x5_1).f0)).length) = true := decide_eq_true qa29; clear c21; obtain ⟨ji22, hji22⟩ : ∃ j_ : Int, (wrap64 (((rd_L4 x102000_1 ((rd_T58 l1 x5_1).f0)).length : Int) - 1)) = j_ := ⟨_, rfl⟩; replace H : (if 0 ≤ (ji22) then (if (ji22) < ((rd_L4 x102000_1 ((rd_T58 l1 x5_1).f0)).length : Int) then (if ((rd_T43 (rd_L4 x102000_1 ((rd_T58 l1 x5_1).f0)) (ji22)).f0) = (wrap64 (t106 + 1)) then (if (ji22) ≤ ((rd_L4 x102000_1 ((rd_T58 l1 x5_1).f0)).length : Int) then ((some ((rd_L4 x102000_1 ((rd_T58 l1 x5_1).f0)).take ((ji22) : Int).toNat : List (S43))).bind fun y110 => ((some (([] : List (S43)) : List (S43))).bind fun y116 => (if y116.length + y110.length < 8796093022208 then ((some (y116 ++ y110 : List (S43))).bind fun y119 => ((some (([(⟨(wrap64 (t106 + 1)), (rd_T58 l1 x5_1).f1⟩ : S43)] : List (S43)) : List (S43))).bind fun y123 => (if y119.length + y123.length < 8796093022208 then (spec_l06Write.l0 k1 l1 (wrap64 (x5_1 + 1)) (x102000_1.set (((rd_T58 l1 x5_1).f0) : Int).toNat (y119 ++ y123)) (wrap64 (t106 + 1))) else (none)))) else (none)))) else (none)) else ((some (([] : List (S43)) : List (S43))).bind fun y131 => (if y131.length + (rd_L4 x102000_1 ((rd_T58 l1 x5_1).f0)).length < 8796093022208 then ((some (y131 ++ (rd_L4 x102000_1 ((rd_T58 l1 x5_1).f0)) : List (S43))).bind fun y134 => ((some (([(⟨(wrap64 (t106 + 1)), (rd_T58 l1 x5_1).f1⟩ : S43)] : List (S43)) : List (S43))).bind fun y138 => (if y134.length + y138.length < 8796093022208 then (spec_l06Write.l0 k1 l1 (wrap64 (x5_1 + 1)) (x102000_1.set (((rd_T58 l1 x5_1).f0) : Int).toNat (y134 ++ y138)) (wrap64 (t106 + 1))) else (none)))) else (none)))) else (none)) else (none)) = some (r1, r2) := by first | (rw [hji22] at H; exact H) | (simp only [hji22] at H ⊢; exact H)
         have hji22w : (IntKind.i64.wrap (((rd_L4 x102000_1 ((rd_T58 l1 x5_1).f0)).length : Int) - 1)) = ji22 := (i64_w _).trans hji22
         by_cases c23 : 0 ≤ (ji22)
         ·rw [if_pos c23] at H
          have c23b0 : decide (0 ≤ (ji22)) = true := decide_eq_true c23; clear c23
          by_cases c24 : (ji22) < ((rd_L4 x102000_1 ((rd_T58 l1 x5_1).f0)).length : Int)
          ·rw [if_pos c24] at H
           have c24b0 : decide ((ji22) < ((rd_L4 x102000_1 ((rd_T58 l1 x5_1).f0)).length : Int)) = true := decide_eq_true c24; clear c24
           by_cases c25 : ((rd_T43 (rd_L4 x102000_1 ((rd_T58 l1 x5_1).f0)) (ji22)).f0) = (wrap64 (t106 + 1))
           ·rw [if_pos c25] at H
            have c25b0 : (((rd_T43 (rd_L4 x102000_1 ((rd_T58 l1 x5_1).f0)) (ji22)).f0) == (wrap64 (t106 + 1))) = true := beq_iff_eq.mpr c25; have c25b1 : (((rd_T43 (rd_L4 x102000_1 ((rd_T58 l1 x5_1).f0)) (ji22)).f0) != (wrap64 (t106 + 1))) = false := bne_eq_false_iff_eq.mpr c25; clear c25; have c26b0 := eq_true (q73T qa115 : 0 ≤ (ji22))
            by_cases c27 : (ji22) ≤ ((rd_L4 x102000_1 ((rd_T58 l1 x5_1).f0)).length : Int)
            ·rw [if_pos c27] at H
             have c27b0 := eq_true c27; have c27b1 : decide ((ji22) ≤ ((rd_L4 x102000_1 ((rd_T58 l1 x5_1).f0)).length : Int)) = true := decide_eq_true c27; clear c27; obtain ⟨y110, hy110⟩ : ∃ y_ : List (S43), y_ = ((rd_L4 x102000_1 ((rd_T58 l1 x5_1).f0)).take ((ji22) : Int).toNat) := ⟨_, rfl⟩; replace H : ((some (([] : List (S43)) : List (S43))).bind fun y116 => (if y116.length + y110.length < 8796093022208 then ((some (y116 ++ y110 : List (S43))).bind fun y119 => ((some (([(⟨(wrap64 (t106 + 1)), (rd_T58 l1 x5_1).f1⟩ : S43)] : List (S43)) : List (S43))).bind fun y123 => (if y119.length + y123.length < 8796093022208 then (spec_l06Write.l0 k1 l1 (wrap64 (x5_1 + 1)) (x102000_1.set (((rd_T58 l1 x5_1).f0) : Int).toNat (y119 ++ y123)) (wrap64 (t106 + 1))) else (none)))) else (none))) = some (r1, r2) := by first | (rw [hy110]; with_reducible exact H) | (have H2_ := (Option.bind_some _ _).symm.trans H; rw [hy110]; with_reducible exact H2_) | (have H2_ := (Option.bind_some _ _).symm.trans H; with_reducible exact H2_) | with_reducible exact H | (rw [hy110]; exact H) | exact H
             have Ny110 := q73O hy110; clear hy110; obtain ⟨y116, hy116⟩ : ∃ y_ : List (S43), y_ = (([] : List (S43))) := ⟨_, rfl⟩; replace H : (if y116.length + y110.length < 8796093022208 then ((some (y116 ++ y110 : List (S43))).bind fun y119 => ((some (([(⟨(wrap64 (t106 + 1)), (rd_T58 l1 x5_1).f1⟩ : S43)] : List (S43)) : List (S43))).bind fun y123 => (if y119.length + y123.length < 8796093022208 then (spec_l06Write.l0 k1 l1 (wrap64 (x5_1 + 1)) (x102000_1.set (((rd_T58 l1 x5_1).f0) : Int).toNat (y119 ++ y123)) (wrap64 (t106 + 1))) else (none)))) else (none)) = some (r1, r2) := by first | (rw [hy116]; with_reducible exact H) | (have H2_ := (Option.bind_some _ _).symm.trans H; rw [hy116]; with_reducible exact H2_) | (have H2_ := (Option.bind_some _ _).symm.trans H; with_reducible exact H2_) | with_reducible exact H | (rw [hy116]; exact H) | exact H
             have Ny116 := q73O hy116; clear hy116
             by_cases c28 : y116.length + y110.length < 8796093022208
             ·rw [if_pos c28] at H
              have LMc28 := q73O c28; clear c28; obtain ⟨y119, hy119⟩ : ∃ y_ : List (S43), y_ = (y116 ++ y110) := ⟨_, rfl⟩; replace H : ((some (([(⟨(wrap64 (t106 + 1)), (rd_T58 l1 x5_1).f1⟩ : S43)] : List (S43)) : List (S43))).bind fun y123 => (if y119.length + y123.length < 8796093022208 then (spec_l06Write.l0 k1 l1 (wrap64 (x5_1 + 1)) (x102000_1.set (((rd_T58 l1 x5_1).f0) : Int).toNat (y119 ++ y123)) (wrap64 (t106 + 1))) else (none))) = some (r1, r2) := by first | (rw [hy119]; with_reducible exact H) | (have H2_ := (Option.bind_some _ _).symm.trans H; rw [hy119]; with_reducible exact H2_) | (have H2_ := (Option.bind_some _ _).symm.trans H; with_reducible exact H2_) | with_reducible exact H | (rw [hy119]; exact H) | exact H
              have Ny119 := q73O hy119; clear hy119; obtain ⟨y123, hy123⟩ : ∃ y_ : List (S43), y_ = (([(⟨(wrap64 (t106 + 1)), (rd_T58 l1 x5_1).f1⟩ : S43)] : List (S43))) := ⟨_, rfl⟩; replace H : (if y119.length + y123.length < 8796093022208 then (spec_l06Write.l0 k1 l1 (wrap64 (x5_1 + 1)) (x102000_1.set (((rd_T58 l1 x5_1).f0) : Int).toNat (y119 ++ y123)) (wrap64 (t106 + 1))) else (none)) = some (r1, r2) := by first | (rw [hy123]; with_reducible exact H) | (have H2_ := (Option.bind_some _ _).symm.trans H; rw [hy123]; with_reducible exact H2_) | (have H2_ := (Option.bind_some _ _).symm.trans H; with_reducible exact H2_) | with_reducible exact H | (rw [hy123]; exact H) | exact H
              have Ny123 := q73O hy123; clear hy123
              by_cases c29 : y119.length + y123.length < 8796093022208
              ·rw [if_pos c29] at H
               have LMc29 := q73O c29; clear c29; obtain ⟨y126, hy126⟩ : ∃ y_ : List (S43), y_ = (y119 ++ y123) := ⟨_, rfl⟩; replace H : (spec_l06Write.l0 k1 l1 (wrap64 (x5_1 + 1)) (x102000_1.set (((rd_T58 l1 x5_1).f0) : Int).toNat y126) (wrap64 (t106 + 1))) = some (r1, r2) := by first | (rw [hy126]; with_reducible exact H) | (have H2_ := (Option.bind_some _ _).symm.trans H; rw [hy126]; with_reducible exact H2_) | (have H2_ := (Option.bind_some _ _).symm.trans H; with_reducible exact H2_) | with_reducible exact H | (rw [hy126]; exact H) | exact H
               have Ny126 := q73O hy126; clear hy126; obtain ⟨y129, hy129⟩ : ∃ y_ : List (List (S43)), y_ = (x102000_1.set (((rd_T58 l1 x5_1).f0) : Int).toNat y126) := ⟨_, rfl⟩; replace H : (spec_l06Write.l0 k1 l1 (wrap64 (x5_1 + 1)) y129 (wrap64 (t106 + 1))) = some (r1, r2) := by first | (rw [hy129]; with_reducible exact H) | (have H2_ := (Option.bind_some _ _).symm.trans H; rw [hy129]; with_reducible exact H2_) | (have H2_ := (Option.bind_some _ _).symm.trans H; with_reducible exact H2_) | with_reducible exact H | (rw [hy129]; exact H) | exact H
               have Ny129 := q73O hy129; clear hy129; have H' := q73O H; clear H
               try go_wp2
               replace HO_102000 := q73O (Kd.N_drew HO_102000.out); replace BK101 := q73O (q73kD BK101.out); replace BK102 := q73O (q73kD BK102.out); replace HB := q73O (q73bD HB.out); have p107 : 0 ≤ (x5_1 : Int) := q73T qa115; have q107 : x5_1 < (l1.length : Int) := q73T qa115; obtain ⟨ad107, e107, hx107_0, hx107_1⟩ := at_T58 HR1.out x5_1 p107 q107; have hw107_1 := hx107_1; have hw107_0 := hx107_0
               cases e107
               replace hx107_0 := (HB.out.cell (q73L w _ hx107_0)).trans hx107_0; replace hx107_1 := (HB.out.cell (q73L w _ hx107_1)).trans hx107_1; replace p107 := eq_true p107; replace q107 := eq_true q107; obtain ⟨Ao32, co32, eo32⟩ := Kd.N_slice HO_102000.out; (first | subst eo32 | (injection eo32 with f1_ f2_ f3_; have f4_ := f1_.symm; have f5_ := f3_.symm; clear f1_ f2_ f3_; subst f4_; subst f5_)); have p108 : 0 ≤ (((rd_T58 l1 x5_1).f0) : Int) := q73T qa115; have q108 : ((rd_T58 l1 x5_1).f0) < (x102000_1.length : Int) := q73T qa115; obtain ⟨ad108, A108_0, c108_0, e108, hx108_0, hl108_0, hi108_0⟩ := at_L4 (Kd.N_reads' HO_102000.out).2.2 ((rd_T58 l1 x5_1).f0) p108 q108
               cases e108
               obtain ⟨ce108, hce108, hMe108, hcc108⟩ := Kd.N_get HO_102000.out [] ((rd_T58 l1 x5_1).f0) p108 qa149; obtain ⟨ua108_0, uc108_0, rfl, ul108_0, ge108_0⟩ := Kd.FK_slice_open hMe108; have hv108_0 := hcc108 0 _ rfl; rw [Nat.add_zero, show ((Kd.slice 43 k43)).sz = 1 from rfl, Nat.mul_one] at hv108_0; replace hv108_0 := Option.some.inj (hv108_0.symm.trans hx108_0); injection hv108_0 with hva_ hvn_ hvc_; rw [hva_] at ge108_0; rw [hvc_] at ul108_0; have HL108_0 := q73O (show Kd.V k43 43 _ w.heap.size _ _ (rd_L4 x102000_1 ((rd_T58 l1 x5_1).f0)) from Kd.V_mk ul108_0 ge108_0); clear hva_ hvn_ hvc_ ge108_0 ul108_0 hcc108 hce108; have HR108_0 := q73O hi108_0; have HC108_0 := q73O hl108_0; clear hi108_0 hl108_0; replace p108 := eq_true p108; replace q108 := eq_true q108; refine start_ (n := 10) (S := fun w' => w'.cell? ⟨gb101, 0, none⟩ = some (.slice (some ad108) x102000_1.length co32) ∧ w'.cell? ⟨gb101, 1, none⟩ = some (.int .i64 (wrap64 (t106 + 1))) ∧ w'.cell? (ad107.add ((x5_1).toNat * 2)) = some (.int .i64 ((rd_T58 l1 x5_1).f0)) ∧ w'.cell? ⟨(ad107.add ((x5_1).toNat * 2)).block, (ad107.add ((x5_1).toNat * 2)).off + 1, none⟩ = some (.int .i64 ((rd_T58 l1 x5_1).f1)) ∧ w'.cell? (ad108.add (((rd_T58 l1 x5_1).f0)).toNat) = some (.slice A108_0 (rd_L4 x102000_1 ((rd_T58 l1 x5_1).f0)).length c108_0)) (ds := []) q73y0 qa5 rfl rfl ⟨qc0 BK101.out, qc1 BK101.out, ((HB.out.cell (q73L w _ hw107_0)).trans hw107_0), ((HB.out.cell (q73L w _ hw107_1)).trans hw107_1), hx108_0⟩ (fun hHeld => ?_); refine with_tabW spec_l06Write.tab8 spec_l06Write.bits8 (fun HT_ HW_ => ?_); generalize wr.drew = w31 at HO_102000 BK101 BK102 HB HL108_0 HR108_0 hx107_0 hx107_1 hx108_0 hHeld ⊢; refine pure_ (i := 0) (N := some 23) (v := ?_) (a' := ?_) q73y1 rfl rfl (any_of HT_.out qa5) (fun _ _ _ h => h) (Or.inl ⟨by rfl, ?_⟩) ?_ ?_; rotate_left
               ·intro w'
                go_simp; (with_reducible rfl)
               rotate_left
               ·simp only [Act.put, q73zA, q73zB, q73zC, i64_w, i32_w]
                rfl
               refine pure_ (i := 2) (N := some 25) (v := ?_) (a' := ?_) q73y2 rfl rfl (any_of HT_.out qa5) (fun _ _ _ h => h) (Or.inl ⟨by rfl, ?_⟩) ?_ ?_; rotate_left
               ·intro w'
                go_simp; (with_reducible rfl)
               rotate_left
               ·simp only [Act.put, q73zA, q73zB, q73zC, i64_w, i32_w]
                rfl
               refine pure_ (i := 3) (N := some 26) (v := ?_) (a' := ?_) q73y3 rfl rfl (any_of HT_.out qa5) (fun _ _ _ h => h) (Or.inl ⟨by rfl, ?_⟩) ?_ ?_; rotate_left
               ·intro w'
                go_simp; (with_reducible rfl)
               rotate_left
               ·simp only [Act.put, q73zA, q73zB, q73zC, i64_w, i32_w]
                rfl
               refine pure_ (i := 4) (N := some 27) (v := ?_) (a' := ?_) q73y4 rfl rfl (any_of HT_.out qa5) (fun _ _ _ h => h) (Or.inl ⟨by rfl, ?_⟩) ?_ ?_; rotate_left
               ·intro w'
                go_simp; (with_reducible rfl)
               rotate_left
               ·simp only [Act.put, q73zA, q73zB, q73zC, i64_w, i32_w]
                rfl
               refine pure_ (i := 5) (N := some 28) (v := ?_) (a' := ?_) q73y5 rfl rfl (any_of HT_.out qa5) (fun _ _ _ h => h) (Or.inl ⟨by rfl, ?_⟩) ?_ ?_; rotate_left
               ·intro w'
                go_simp; (with_reducible rfl)
               rotate_left
               ·simp only [Act.put, q73zA, q73zB, q73zC, i64_w, i32_w]
                rfl
               refine take_ (i := 1) (N := some 24) (v := ?_) (a' := ?_) q73y6 rfl rfl (take_ofW HT_.out HW_.out qa5) (fun _ _ _ h => h) (Or.inl ⟨by rfl, ?_⟩) hHeld ?_ ?_; rotate_left
               ·rintro w' ⟨s0, s1, s2, s3, s4⟩
                go_simp; (with_reducible rfl)
               rotate_left
               ·simp only [Act.put, q73zA, q73zB, q73zC, i64_w, i32_w]
                rfl
               refine take_ (i := 6) (N := some 29) (v := ?_) (a' := ?_) q73y7 rfl rfl (take_ofW HT_.out HW_.out qa5) (fun _ _ _ h => h) (Or.inl ⟨by rfl, ?_⟩) hHeld ?_ ?_; rotate_left
               ·rintro w' ⟨s0, s1, s2, s3, s4⟩
                go_simp; (with_reducible rfl)
               rotate_left
               ·simp only [Act.put, q73zA, q73zB, q73zC, i64_w, i32_w]
                rfl
               refine pure_ (i := 7) (N := some 30) (v := ?_) (a' := ?_) q73y8 rfl rfl (any_of HT_.out qa5) (fun _ _ _ h => h) (Or.inl ⟨by rfl, ?_⟩) ?_ ?_; rotate_left
               ·intro w'
                go_simp; (with_reducible rfl)
               rotate_left
               ·simp only [Act.put, q73zA, q73zB, q73zC, i64_w, i32_w]
                rfl
               refine take_ (i := 8) (N := some 31) (v := ?_) (a' := ?_) q73y9 rfl rfl (take_ofW HT_.out HW_.out qa5) (fun _ _ _ h => h) (Or.inl ⟨by rfl, ?_⟩) hHeld ?_ ?_; rotate_left
               ·rintro w' ⟨s0, s1, s2, s3, s4⟩
                go_simp; (with_reducible rfl)
               rotate_left
               ·simp only [Act.put, q73zA, q73zB, q73zC, i64_w, i32_w]
                rfl
               refine pure_ (i := 9) (N := some 6) (v := ?_) (a' := ?_) q73y10 rfl rfl (any_of HT_.out qa5) (fun _ _ _ h => h) (Or.inl ⟨by rfl, ?_⟩) ?_ ?_; rotate_left
               ·intro w'
                go_simp; (with_reducible rfl)
               rotate_left
               ·simp only [Act.put, q73zA, q73zB, q73zC, i64_w, i32_w]
                rfl
               refine done_ (done_of HT_.out qa5) ?_
               try go_wp2
               replace HO_102000 := q73O (Kd.N_drew HO_102000.out); replace HL108_0 := q73O (Kd.V_drew HL108_0.out); replace BK101 := q73O (q73kD BK101.out); replace BK102 := q73O (q73kD BK102.out); replace HR108_0 := q73O (Kd.C_drew HR108_0.out); replace HB := q73O (q73bD HB.out); have p109 : 0 ≤ ((ji22) : Int) := q73T qa115; have q109 : (ji22) < ((rd_L4 x102000_1 ((rd_T58 l1 x5_1).f0)).length : Int) := q73T qa115; obtain ⟨ad109, e109, hx109_0, hx109_1⟩ := at_T43 qa27 (ji22) p109 q109
               cases e109
               replace p109 := eq_true p109; replace q109 := eq_true q109; refine start_ (n := 15) (S := fun w' => w'.cell? ⟨gb101, 0, none⟩ = some (.slice (some ad108) x102000_1.length co32) ∧ w'.cell? ⟨gb101, 1, none⟩ = some (.int .i64 (wrap64 (t106 + 1))) ∧ w'.cell? (ad109.add (((ji22)).toNat * 2)) = some (.int .i64 ((rd_T43 (rd_L4 x102000_1 ((rd_T58 l1 x5_1).f0)) (ji22)).f0)) ∧ w'.cell? ⟨(ad109.add (((ji22)).toNat * 2)).block, (ad109.add (((ji22)).toNat * 2)).off + 1, none⟩ = some (.int .i64 ((rd_T43 (rd_L4 x102000_1 ((rd_T58 l1 x5_1).f0)) (ji22)).f1))) (ds := []) q73y11 qa5 rfl rfl ⟨qc0 BK101.out, qc1 BK101.out, hx109_0, hx109_1⟩ (fun hHeld => ?_); refine with_tabW spec_l06Write.tab9 spec_l06Write.bits9 (fun HT_ HW_ => ?_); generalize w31.drew = w33 at HO_102000 HL108_0 BK101 BK102 HR108_0 HB hx109_0 hx109_1 hHeld ⊢; refine pure_ (i := 0) (N := some 32) (v := ?_) (a' := ?_) q73y12 rfl rfl (any_of HT_.out qa5) (fun _ _ _ h => h) (Or.inl ⟨by rfl, ?_⟩) ?_ ?_; rotate_left
               ·intro w'
                go_simp; (with_reducible rfl)
               rotate_left
               ·simp only [Act.put, q73zA, q73zB, q73zC, i64_w, i32_w]
                rfl
               refine pure_ (i := 1) (N := some 33) (v := ?_) (a' := ?_) q73y13 rfl rfl (any_of HT_.out qa5) (fun _ _ _ h => h) (Or.inl ⟨by rfl, ?_⟩) ?_ ?_; rotate_left
               ·intro w'
                go_simp; (with_reducible rfl)
               rotate_left
               ·simp only [Act.put, q73zA, q73zB, q73zC, i64_w, i32_w]
                rfl
               refine pure_ (i := 2) (N := some 34) (v := ?_) (a' := ?_) q73y14 rfl rfl (any_of HT_.out qa5) (fun _ _ _ h => h) (Or.inl ⟨by rfl, ?_⟩) ?_ ?_; rotate_left
               ·intro w'
                go_simp; (with_reducible rfl)
               rotate_left
               ·simp only [Act.put, q73zA, q73zB, q73zC, i64_w, i32_w]
                rfl
               refine pure_ (i := 3) (N := some 35) (v := ?_) (a' := ?_) q73y15 rfl rfl (any_of HT_.out qa5) (fun _ _ _ h => h) (Or.inl ⟨by rfl, ?_⟩) ?_ ?_; rotate_left
               ·intro w'
                go_simp; (with_reducible rfl)
               rotate_left
               ·simp only [Act.put, q73zA, q73zB, q73zC, i64_w, i32_w]
                rfl
               refine pure_ (i := 4) (N := some 36) (v := ?_) (a' := ?_) q73y16 rfl rfl (any_of HT_.out qa5) (fun _ _ _ h => h) (Or.inl ⟨by rfl, ?_⟩) ?_ ?_; rotate_left
               ·intro w'
                go_simp; (with_reducible rfl)
               rotate_left
               ·simp only [Act.put, q73zA, q73zB, q73zC, i64_w, i32_w]
                rfl
               refine pure_ (i := 5) (N := some 37) (v := ?_) (a' := ?_) q73y17 rfl rfl (any_of HT_.out qa5) (fun _ _ _ h => h) (Or.inl ⟨by rfl, ?_⟩) ?_ ?_; rotate_left
               ·intro w'
                go_simp; (with_reducible rfl)
               rotate_left
               ·simp only [Act.put, q73zA, q73zB, q73zC, i64_w, i32_w]
                rfl
               refine pure_ (i := 6) (N := some 38) (v := ?_) (a' := ?_) q73y18 rfl rfl (any_of HT_.out qa5) (fun _ _ _ h => h) (Or.inl ⟨by rfl, ?_⟩) ?_ ?_; rotate_left
               ·intro w'
                go_simp; (with_reducible rfl)
               rotate_left
               ·simp only [Act.put, q73zA, q73zB, q73zC, i64_w, i32_w]
                rfl
               refine pure_ (i := 7) (N := some 39) (v := ?_) (a' := ?_) q73y19 rfl rfl (any_of HT_.out qa5) (fun _ _ _ h => h) (Or.inl ⟨by rfl, ?_⟩) ?_ ?_; rotate_left
               ·intro w'
                go_simp; (with_reducible rfl)
               rotate_left
               ·simp only [Act.put, q73zA, q73zB, q73zC, i64_w, i32_w]
                rfl
               refine pure_ (i := 8) (N := some 40) (v := ?_) (a' := ?_) q73y20 rfl rfl (any_of HT_.out qa5) (fun _ _ _ h => h) (Or.inl ⟨by rfl, ?_⟩) ?_ ?_; rotate_left
               ·intro w'
                go_simp; (with_reducible rfl)
               rotate_left
               ·simp only [Act.put, q73zA, q73zB, q73zC, i64_w, i32_w]
                rfl
               refine pure_ (i := 9) (N := some 41) (v := ?_) (a' := ?_) q73y21 rfl rfl (any_of HT_.out qa5) (fun _ _ _ h => h) (Or.inl ⟨by rfl, ?_⟩) ?_ ?_; rotate_left
               ·intro w'
                go_simp; (with_reducible rfl)
               rotate_left
               ·simp only [Act.put, q73zA, q73zB, q73zC, i64_w, i32_w]
                rfl
               refine pure_ (i := 11) (N := some 43) (v := ?_) (a' := ?_) q73y22 rfl rfl (any_of HT_.out qa5) (fun _ _ _ h => h) (Or.inl ⟨by rfl, ?_⟩) ?_ ?_; rotate_left
               ·intro w'
                go_simp; (with_reducible rfl)
               rotate_left
               ·simp only [Act.put, q73zA, q73zB, q73zC, i64_w, i32_w]
                rfl
               refine take_ (i := 10) (N := some 42) (v := ?_) (a' := ?_) q73y23 rfl rfl (take_ofW HT_.out HW_.out qa5) (fun _ _ _ h => h) (Or.inl ⟨by rfl, ?_⟩) hHeld ?_ ?_; rotate_left
               ·rintro w' ⟨s0, s1, s2, s3⟩
                go_simp; (with_reducible rfl)
               rotate_left
               ·simp only [Act.put, q73zA, q73zB, q73zC, i64_w, i32_w]
                rfl
               refine take_ (i := 12) (N := some 44) (v := ?_) (a' := ?_) q73y24 rfl rfl (take_ofW HT_.out HW_.out qa5) (fun _ _ _ h => h) (Or.inl ⟨by rfl, ?_⟩) hHeld ?_ ?_; rotate_left
               ·rintro w' ⟨s0, s1, s2, s3⟩
                go_simp; (with_reducible rfl)
               rotate_left
               ·simp only [Act.put, q73zA, q73zB, q73zC, i64_w, i32_w]
                rfl
               refine pure_ (i := 13) (N := some 45) (v := ?_) (a' := ?_) q73y25 rfl rfl (any_of HT_.out qa5) (fun _ _ _ h => h) (Or.inl ⟨by rfl, ?_⟩) ?_ ?_; rotate_left
               ·intro w'
                go_simp; (with_reducible rfl)
               rotate_left
               ·simp only [Act.put, q73zA, q73zB, q73zC, i64_w, i32_w]
                rfl
               refine pure_ (i := 14) (N := some 46) (v := ?_) (a' := ?_) q73y26 rfl rfl (any_of HT_.out qa5) (fun _ _ _ h => h) (Or.inl ⟨by rfl, ?_⟩) ?_ ?_; rotate_left
               ·intro w'
                go_simp; (with_reducible rfl)
               rotate_left
               ·simp only [Act.put, q73zA, q73zB, q73zC, i64_w, i32_w]
                rfl
               refine done_ (done_of HT_.out qa5) ?_; have q34 : ((ji22) : Int) ≤ (((rd_L4 x102000_1 ((rd_T58 l1 x5_1).f0)).length : Int) : Int) := q73T qa115; obtain ⟨i034, hi034, _, hsz34, _⟩ := info_parts info43; have hroom34 : (rd_L4 x102000_1 ((rd_T58 l1 x5_1).f0)).length ≤ c108_0 := HC108_0.out; have hC34 : Kd.F k43 _ _ (some ad109) (rd_L4 x102000_1 ((rd_T58 l1 x5_1).f0)).length (rd_L4 x102000_1 ((rd_T58 l1 x5_1).f0)) := (Kd.V_at (base := w.heap.size) HL108_0.out).2.2; have hcut34 := cut_to (P := Try.prog) 41 43 .i64 Try.underlying41 hi034 (some ad109) (rd_L4 x102000_1 ((rd_T58 l1 x5_1).f0)).length c108_0 (ji22) (q73T qa115) q34 hroom34; have hr34 := Kd.F_take (m := ((ji22) : Int).toNat) hC34 qa29; have hy34 : y110.length = ((ji22) : Int).toNat := (by rw [Ny110.out, List.length_take]; omega); rw [← Ny110.out] at hr34; rw [← hy34] at hcut34; have HO114 := q73O (show Kd.V k43 43 _ w.heap.size _ (.slice (some ad109) y110.length c108_0) y110 from Kd.V_mk qa29 hr34); have HC114 := q73O (show y110.length ≤ c108_0 from by omega); clear hr34 hC34 hroom34 hi034 hsz34; have KY34 := q73O hy34; clear hy34; replace q34 := eq_true q34
               try go_wp2
               replace HO_102000 := q73O (Kd.N_drew HO_102000.out); replace HL108_0 := q73O (Kd.V_drew HL108_0.out); replace HO114 := q73O (Kd.V_drew HO114.out); replace BK101 := q73O (q73kD BK101.out); replace BK102 := q73O (q73kD BK102.out); replace HR108_0 := q73O (Kd.C_drew HR108_0.out); replace HB := q73O (q73bD HB.out); have p115 : 0 ≤ (x5_1 : Int) := q73T qa115; have q115 : x5_1 < (l1.length : Int) := q73T qa115; obtain ⟨ad115, e115, hx115_0, hx115_1⟩ := at_T58 HR1.out x5_1 p115 q115; have hw115_1 := hx115_1; have hw115_0 := hx115_0; obtain rfl : ad107 = ad115 := (by injection e115); replace hx115_0 := (HB.out.cell (q73L w _ hx115_0)).trans hx115_0; replace hx115_1 := (HB.out.cell (q73L w _ hx115_1)).trans hx115_1; replace p115 := eq_true p115; replace q115 := eq_true q115; have p122 : 0 ≤ (x5_1 : Int) := q73T qa115; have q122 : x5_1 < (l1.length : Int) := q73T qa115; obtain ⟨ad122, e122, hx122_0, hx122_1⟩ := at_T58 HR1.out x5_1 p122 q122; have hw122_1 := hx122_1; have hw122_0 := hx122_0; obtain rfl : ad107 = ad122 := (by injection e122); replace hx122_0 := (HB.out.cell (q73L w _ hx122_0)).trans hx122_0; replace hx122_1 := (HB.out.cell (q73L w _ hx122_1)).trans hx122_1; replace p122 := eq_true p122; replace q122 := eq_true q122; refine start_ (n := 22) (S := fun w' => w'.cell? ⟨gb101, 0, none⟩ = some (.slice (some ad108) x102000_1.length co32) ∧ w'.cell? ⟨gb101, 1, none⟩ = some (.int .i64 (wrap64 (t106 + 1))) ∧ w'.cell? (ad107.add ((x5_1).toNat * 2)) = some (.int .i64 ((rd_T58 l1 x5_1).f0)) ∧ w'.cell? ⟨(ad107.add ((x5_1).toNat * 2)).block, (ad107.add ((x5_1).toNat * 2)).off + 1, none⟩ = some (.int .i64 ((rd_T58 l1 x5_1).f1)) ∧ w'.cell? (ad107.add ((x5_1).toNat * 2)) = some (.int .i64 ((rd_T58 l1 x5_1).f0)) ∧ w'.cell? ⟨(ad107.add ((x5_1).toNat * 2)).block, (ad107.add ((x5_1).toNat * 2)).off + 1, none⟩ = some (.int .i64 ((rd_T58 l1 x5_1).f1))) (ds := [21]) q73y27 qa5 rfl rfl ⟨qc0 BK101.out, qc1 BK101.out, ((HB.out.cell (q73L w _ hw115_0)).trans hw115_0), ((HB.out.cell (q73L w _ hw115_1)).trans hw115_1), ((HB.out.cell (q73L w _ hw122_0)).trans hw122_0), ((HB.out.cell (q73L w _ hw122_1)).trans hw122_1)⟩ (fun hHeld => ?_); refine with_tabW spec_l06Write.tab11 spec_l06Write.bits11 (fun HT_ HW_ => ?_); generalize w33.drew = w35 at HO_102000 HL108_0 HO114 BK101 BK102 HR108_0 HB hx115_0 hx115_1 hx122_0 hx122_1 hHeld ⊢; refine pure_ (i := 0) (N := some 52) (v := ?_) (a' := ?_) q73y28 rfl rfl (any_of HT_.out qa5) (fun _ _ _ h => h) (Or.inl ⟨by rfl, ?_⟩) ?_ ?_; rotate_left
               ·intro w'
                go_simp; (with_reducible rfl)
               rotate_left
               ·simp only [Act.put, q73zA, q73zB, q73zC, i64_w, i32_w]
                rfl
               refine pure_ (i := 2) (N := some 54) (v := ?_) (a' := ?_) q73y29 rfl rfl (any_of HT_.out qa5) (fun _ _ _ h => h) (Or.inl ⟨by rfl, ?_⟩) ?_ ?_; rotate_left
               ·intro w'
                go_simp; (with_reducible rfl)
               rotate_left
               ·simp only [Act.put, q73zA, q73zB, q73zC, i64_w, i32_w]
                rfl
               refine pure_ (i := 3) (N := some 55) (v := ?_) (a' := ?_) q73y30 rfl rfl (any_of HT_.out qa5) (fun _ _ _ h => h) (Or.inl ⟨by rfl, ?_⟩) ?_ ?_; rotate_left
               ·intro w'
                go_simp; (with_reducible rfl)
               rotate_left
               ·simp only [Act.put, q73zA, q73zB, q73zC, i64_w, i32_w]
                rfl
               refine pure_ (i := 4) (N := some 56) (v := ?_) (a' := ?_) q73y31 rfl rfl (any_of HT_.out qa5) (fun _ _ _ h => h) (Or.inl ⟨by rfl, ?_⟩) ?_ ?_; rotate_left
               ·intro w'
                go_simp; (with_reducible rfl)
               rotate_left
               ·simp only [Act.put, q73zA, q73zB, q73zC, i64_w, i32_w]
                rfl
               refine pure_ (i := 5) (N := some 57) (v := ?_) (a' := ?_) q73y32 rfl rfl (any_of HT_.out qa5) (fun _ _ _ h => h) (Or.inl ⟨by rfl, ?_⟩) ?_ ?_; rotate_left
               ·intro w'
                go_simp; (with_reducible rfl)
               rotate_left
               ·simp only [Act.put, q73zA, q73zB, q73zC, i64_w, i32_w]
                rfl
               refine pure_ (i := 8) (N := some 60) (v := ?_) (a' := ?_) q73y33 rfl rfl (any_of HT_.out qa5) (fun _ _ _ h => h) (Or.inl ⟨by rfl, ?_⟩) ?_ ?_; rotate_left
               ·intro w'
                go_simp; (with_reducible rfl)
               rotate_left
               ·simp only [Act.put, q73zA, q73zB, q73zC, i64_w, i32_w]
                rfl
               refine pure_ (i := 10) (N := some 62) (v := ?_) (a' := ?_) q73y34 rfl rfl (any_of HT_.out qa5) (fun _ _ _ h => h) (Or.inl ⟨by rfl, ?_⟩) ?_ ?_; rotate_left
               ·intro w'
                go_simp; (with_reducible rfl)
               rotate_left
               ·simp only [Act.put, q73zA, q73zB, q73zC, i64_w, i32_w]
                rfl
               refine pure_ (i := 12) (N := some 64) (v := ?_) (a' := ?_) q73y35 rfl rfl (any_of HT_.out qa5) (fun _ _ _ h => h) (Or.inl ⟨by rfl, ?_⟩) ?_ ?_; rotate_left
               ·intro w'
                go_simp; (with_reducible rfl)
               rotate_left
               ·simp only [Act.put, q73zA, q73zB, q73zC, i64_w, i32_w]
                rfl
               refine pure_ (i := 13) (N := some 65) (v := ?_) (a' := ?_) q73y36 rfl rfl (any_of HT_.out qa5) (fun _ _ _ h => h) (Or.inl ⟨by rfl, ?_⟩) ?_ ?_; rotate_left
               ·intro w'
                go_simp; (with_reducible rfl)
               rotate_left
               ·simp only [Act.put, q73zA, q73zB, q73zC, i64_w, i32_w]
                rfl
               refine pure_ (i := 14) (N := some 66) (v := ?_) (a' := ?_) q73y37 rfl rfl (any_of HT_.out qa5) (fun _ _ _ h => h) (Or.inl ⟨by rfl, ?_⟩) ?_ ?_; rotate_left
               ·intro w'
                go_simp; (with_reducible rfl)
               rotate_left
               ·simp only [Act.put, q73zA, q73zB, q73zC, i64_w, i32_w]
                rfl
               refine pure_ (i := 15) (N := some 67) (v := ?_) (a' := ?_) q73y38 rfl rfl (any_of HT_.out qa5) (fun _ _ _ h => h) (Or.inl ⟨by rfl, ?_⟩) ?_ ?_; rotate_left
               ·intro w'
                go_simp; (with_reducible rfl)
               rotate_left
               ·simp only [Act.put, q73zA, q73zB, q73zC, i64_w, i32_w]
                rfl
               refine take_ (i := 1) (N := some 53) (v := ?_) (a' := ?_) q73y39 rfl rfl (take_ofW HT_.out HW_.out qa5) (fun _ _ _ h => h) (Or.inl ⟨by rfl, ?_⟩) hHeld ?_ ?_; rotate_left
               ·rintro w' ⟨s0, s1, s2, s3, s4, s5⟩
                go_simp; (with_reducible rfl)
               rotate_left
               ·simp only [Act.put, q73zA, q73zB, q73zC, i64_w, i32_w]
                rfl
               refine take_ (i := 6) (N := some 58) (v := ?_) (a' := ?_) q73y40 rfl rfl (take_ofW HT_.out HW_.out qa5) (fun _ _ _ h => h) (Or.inl ⟨by rfl, ?_⟩) hHeld ?_ ?_; rotate_left
               ·rintro w' ⟨s0, s1, s2, s3, s4, s5⟩
                go_simp; (with_reducible rfl)
               rotate_left
               ·simp only [Act.put, q73zA, q73zB, q73zC, i64_w, i32_w]
                rfl
               refine take_ (i := 11) (N := some 63) (v := ?_) (a' := ?_) q73y41 rfl rfl (take_ofW HT_.out HW_.out qa5) (fun _ _ _ h => h) (Or.inl ⟨by rfl, ?_⟩) hHeld ?_ ?_; rotate_left
               ·rintro w' ⟨s0, s1, s2, s3, s4, s5⟩
                go_simp; (with_reducible rfl)
               rotate_left
               ·simp only [Act.put, q73zA, q73zB, q73zC, i64_w, i32_w]
                rfl
               refine take_ (i := 16) (N := some 68) (v := ?_) (a' := ?_) q73y42 rfl rfl (take_ofW HT_.out HW_.out qa5) (fun _ _ _ h => h) (Or.inl ⟨by rfl, ?_⟩) hHeld ?_ ?_; rotate_left
               ·rintro w' ⟨s0, s1, s2, s3, s4, s5⟩
                go_simp; (with_reducible rfl)
               rotate_left
               ·simp only [Act.put, q73zA, q73zB, q73zC, i64_w, i32_w]
                rfl
               refine pure_ (i := 17) (N := some 69) (v := ?_) (a' := ?_) q73y43 rfl rfl (any_of HT_.out qa5) (fun _ _ _ h => h) (Or.inl ⟨by rfl, ?_⟩) ?_ ?_; rotate_left
               ·intro w'
                go_simp; (with_reducible rfl)
               rotate_left
               ·simp only [Act.put, q73zA, q73zB, q73zC, i64_w, i32_w]
                rfl
               refine join_ (σ := Value × Value × Value) 3 q73y44 (fun s_ => [(59, s_.1), (61, s_.2.1), (70, s_.2.2)]) (fun s_ w' => (w'.cell? ⟨gb101, 0, none⟩ = some (.slice (some ad108) x102000_1.length co32) ∧ w'.cell? ⟨gb101, 1, none⟩ = some (.int .i64 (wrap64 (t106 + 1))) ∧ w'.cell? (ad107.add ((x5_1).toNat * 2)) = some (.int .i64 ((rd_T58 l1 x5_1).f0)) ∧ w'.cell? ⟨(ad107.add ((x5_1).toNat * 2)).block, (ad107.add ((x5_1).toNat * 2)).off + 1, none⟩ = some (.int .i64 ((rd_T58 l1 x5_1).f1)) ∧ w'.cell? (ad107.add ((x5_1).toNat * 2)) = some (.int .i64 ((rd_T58 l1 x5_1).f0)) ∧ w'.cell? ⟨(ad107.add ((x5_1).toNat * 2)).block, (ad107.add ((x5_1).toNat * 2)).off + 1, none⟩ = some (.int .i64 ((rd_T58 l1 x5_1).f1))) ∧ (Kd.V k43 43 w' w.heap.size (fun k_ => (P0_0_ k_ ∨ w.heap.size ≤ k_) ∧ some k_ ≠ (s_.2.1 : Value).ownBlock ∧ some k_ ≠ (s_.2.2 : Value).ownBlock ∧ some k_ ≠ (.slice (some ad108) x102000_1.length co32 : Value).ownBlock ∧ k_ ≠ gb101 ∧ k_ ≠ gb102) (.slice (some ad109) (rd_L4 x102000_1 ((rd_T58 l1 x5_1).f0)).length c108_0) (rd_L4 x102000_1 ((rd_T58 l1 x5_1).f0))) ∧ (Kd.V k43 43 w' w.heap.size (fun k_ => (P0_0_ k_ ∨ w.heap.size ≤ k_) ∧ some k_ ≠ (s_.2.1 : Value).ownBlock ∧ some k_ ≠ (s_.2.2 : Value).ownBlock ∧ some k_ ≠ (.slice (some ad108) x102000_1.length co32 : Value).ownBlock ∧ k_ ≠ gb101 ∧ k_ ≠ gb102) (.slice (some ad109) y110.length c108_0) y110) ∧ (Kd.R k43 43 w' w.heap.size (fun k_ => (w.heap.size ≤ k_) ∧ some k_ ≠ (s_.2.2 : Value).ownBlock) s_.2.1 y119) ∧ (Kd.R k43 43 w' w.heap.size (fun k_ => (w.heap.size ≤ k_) ∧ some k_ ≠ (s_.2.1 : Value).ownBlock) s_.2.2 y123) ∧ (Kd.N (Kd.slice 43 k43) 41 w' w.heap.size (fun k_ => (P0_0_ k_ ∨ w.heap.size ≤ k_) ∧ some k_ ≠ (s_.2.1 : Value).ownBlock ∧ some k_ ≠ (s_.2.2 : Value).ownBlock ∧ k_ ≠ gb101 ∧ k_ ≠ gb102) (.slice (some ad108) x102000_1.length co32) x102000_1) ∧ (w'.heap[gb101]? = some (.cells #[.slice (some ad108) x102000_1.length co32, .int .i64 (wrap64 (t106 + 1))] 28 (0, 0))) ∧ (w'.heap[gb102]? = some (.cells #[.slice none 0 0, .int .i64 0] 28 (0, 0))) ∧ (Below w.heap.size w w')) ?_ ?_; rotate_left
               ·intro hCont
                refine two_ (i := 7) (j := 18) (Ni := some 59) (Nj := some 70) q73y45 q73y46 rfl rfl rfl rfl (two_of HT_.out qa5) qa51 qa51 (fun K hK => ?_) (fun K hK => ?_)
                ·skip
                 refine Kd.R_lit_step k43 _ 43 ?hg (N := 59) ?hd (xs := ([] : List (S43))) (inner := []) (ok := fun _ => True) (okp := fun _ => True) ?hr ?hp (fun _ hk => hk) trivial (Below.refl _ _) (Nat.le_refl _) qa117 ?_; (case hd => rfl); (case hg => rfl); (case hr => exact qa10); (case hp => exact qa190); intro v117 w36 ho37 hb hg_ hnew_; clear hg_ hnew_; (first | rw [← Ny116.out] at ho37 | (simp only [Int.reduceToNat] at ho37; rw [← Ny116.out] at ho37)); have HO118 := q73O (Kd.R_lower (Kd.R_newM (M := fun k_ => (w.heap.size ≤ k_)) ho37 (below_size qa6) (fun k_ h_ => h_)) (below_size qa6)); replace HO_102000 := q73O (Kd.N_elder' qa41 (Kd.R_base ho37) hb); replace HL108_0 := q73O (Kd.V_elder' qa47 (Kd.R_base ho37) hb); replace HO114 := q73O (Kd.V_elder' qa111 (Kd.R_base ho37) hb); replace BK101 := q73O (blk_below (g := gb101) (o := .cells #[.slice (some ad108) x102000_1.length co32, .int .i64 (wrap64 (t106 + 1))] 28 (0, 0)) qa21 hb); replace BK102 := q73O (blk_below (g := gb102) (o := .cells #[.slice none 0 0, .int .i64 0] 28 (0, 0)) qa23 hb); replace HR108_0 := q73O (Kd.C_below qa27 hb); replace HB := q73O (below_step qa6 hb); clear hb ho37; refine hK.out _ _ ⟨qc0 BK101.out, qc1 BK101.out, ((HB.out.cell (q73L w _ hw115_0)).trans hw115_0), ((HB.out.cell (q73L w _ hw115_1)).trans hw115_1), ((HB.out.cell (q73L w _ hw122_0)).trans hw122_0), ((HB.out.cell (q73L w _ hw122_1)).trans hw122_1)⟩ (fun hHeld => ?_); clear hK K; refine norm_ (a' := ?_) ?_ ?_; rotate_left
                 ·exact qa24
                 refine two_ (i := 9) (j := 18) (Ni := some 61) (Nj := some 70) q73y47 q73y48 rfl rfl rfl rfl (two_of HT_.out qa5) qa51 qa51 (fun K hK => ?_) (fun K hK => ?_)
                 ·skip
                  refine Kd.R_append_rows_step k43 (w0 := w) w.heap.size (by rfl) (.tmp 59) (.tmp 60) 41 43 (.agg #[(.int .i64 0), (.int .i64 0)]) 16 rfl Try.underlying41 info43 rfl qa51 qa29 v117 y116 y110 _ _ _ (fun k_ => (w.heap.size ≤ k_)) (fun _ => False) rfl rfl ?aO ?aR (fun _ _ h => h) (fun _ h => h.elim) ?aF ?aB ?aS ?aL ?_; (case aR => exact qa133); (case aB => exact qa40); (case aF => exact qa89); (case aO => exact (by (with_reducible repeat (first | apply Kd.R_alloc | apply Kd.R_drewN | apply Kd.R_drew)); exact Kd.R_mono HO118.out (fun _ hk => hk.1))); (case aS => exact qa32); (case aL => have := LMc28.out; omega); intro v120 w38 ho hb hg hat; rw [← Ny119.out] at ho; have n0_ := q73O (Kd.N_afterv (ok := (fun k_ => (P0_0_ k_ ∨ w.heap.size ≤ k_) ∧ k_ ≠ gb101 ∧ k_ ≠ gb102)) qa41 hg hat); have n1_ := q73O (blk_grown (g := gb101) (o := .cells #[.slice (some ad108) x102000_1.length co32, .int .i64 (wrap64 (t106 + 1))] 28 (0, 0)) qa21 hg (Kd.R_ne HO118.out BK101.out qa51)); have n2_ := q73O (blk_grown (g := gb102) (o := .cells #[.slice none 0 0, .int .i64 0] 28 (0, 0)) qa23 hg (Kd.R_ne HO118.out BK102.out qa51)); have n3_ := q73O (Kd.V_afterv (ok := (fun k_ => (P0_0_ k_ ∨ w.heap.size ≤ k_) ∧ some k_ ≠ (.slice (some ad108) x102000_1.length co32 : Value).ownBlock ∧ k_ ≠ gb101 ∧ k_ ≠ gb102)) qa108 hg hat); have n4_ := q73O (Kd.V_afterv (ok := (fun k_ => (P0_0_ k_ ∨ w.heap.size ≤ k_) ∧ some k_ ≠ (.slice (some ad108) x102000_1.length co32 : Value).ownBlock ∧ k_ ≠ gb101 ∧ k_ ≠ gb102)) (by (with_reducible repeat (first | apply Kd.V_alloc | apply Kd.V_drewN | apply Kd.V_drew)); exact Kd.V_mono HO114.out (fun _ hk => ⟨⟨hk.1.1.1, ⟨hk.1.2, ⟨hk.1.1.2.1, hk.1.1.2.2⟩⟩⟩, hk.2⟩)) hg hat); have n5_ := q73O (hb); have n6_ := q73O (ho); clear HO_102000 BK101 BK102 HL108_0 HO114 HB HO118; have HO_102000 := n0_; have BK101 := n1_; have BK102 := n2_; have HL108_0 := n3_; have HO114 := n4_; have HB := n5_; have HO121 := n6_; clear n0_ n1_ n2_ n3_ n4_ n5_ n6_ ho hb hg hat; refine hK.out _ _ ⟨qc0 BK101.out, qc1 BK101.out, ((HB.out.cell (q73L w _ hw115_0)).trans hw115_0), ((HB.out.cell (q73L w _ hw115_1)).trans hw115_1), ((HB.out.cell (q73L w _ hw122_0)).trans hw122_0), ((HB.out.cell (q73L w _ hw122_1)).trans hw122_1)⟩ (fun hHeld => ?_); clear hK K; refine norm_ (a' := ?_) ?_ ?_; rotate_left
                  ·exact qa24
                  refine one_ (i := 18) (N := some 70) q73y44 rfl rfl (one_of HT_.out qa5) qa51 (fun K hK => ?_); refine Kd.R_lit_step k43 _ 43 ?hg (N := 70) ?hd (xs := ([(⟨(wrap64 (t106 + 1)), (rd_T58 l1 x5_1).f1⟩ : S43)] : List (S43))) (inner := [.int .i64 (wrap64 (t106 + 1)), .int .i64 ((rd_T58 l1 x5_1).f1)]) (ok := fun _ => True) (okp := fun _ => True) ?hr ?hp (fun _ hk => hk) trivial (Below.refl _ _) (Nat.le_refl _) qa117 ?_; (case hd => rfl); (case hg => rfl); (case hr => exact qa10); (case hp => exact qa36); intro v124 w39 ho40 hb hg_ hnew_; clear hg_ hnew_; (first | rw [← Ny123.out] at ho40 | (simp only [Int.reduceToNat] at ho40; rw [← Ny123.out] at ho40)); have HO125 := q73O (Kd.R_lower (Kd.R_new' (Kd.R_newM (M := fun k_ => (w.heap.size ≤ k_)) ho40 (below_size qa6) (fun k_ h_ => h_)) (Kd.R_lt qa170)) (below_size qa6)); replace HO_102000 := q73O (Kd.N_elder' qa41 (Kd.R_base ho40) hb); replace HL108_0 := q73O (Kd.V_elder' qa47 (Kd.R_base ho40) hb); replace HO114 := q73O (Kd.V_elder' qa111 (Kd.R_base ho40) hb); replace HO121 := q73O (Kd.R_elder' qa170 (Kd.R_base ho40) hb); replace BK101 := q73O (blk_below (g := gb101) (o := .cells #[.slice (some ad108) x102000_1.length co32, .int .i64 (wrap64 (t106 + 1))] 28 (0, 0)) qa21 hb); replace BK102 := q73O (blk_below (g := gb102) (o := .cells #[.slice none 0 0, .int .i64 0] 28 (0, 0)) qa23 hb); replace HB := q73O (below_step qa6 hb); clear hb ho40; refine hK.out _ _ ⟨qc0 BK101.out, qc1 BK101.out, ((HB.out.cell (q73L w _ hw115_0)).trans hw115_0), ((HB.out.cell (q73L w _ hw115_1)).trans hw115_1), ((HB.out.cell (q73L w _ hw122_0)).trans hw122_0), ((HB.out.cell (q73L w _ hw122_1)).trans hw122_1)⟩ (fun hHeld => ?_); clear hK K; refine norm_ (a' := ?_) ?_ ?_; rotate_left
                  ·exact qa24
                  exact norm_ (by simp only [putAll, Act.put, q73zA, q73zB, q73zC]) (hCont (v117, v120, v124) _ ⟨hHeld, (by (with_reducible repeat (first | apply Kd.V_alloc | apply Kd.V_drewN | apply Kd.V_drew)); exact Kd.V_mono HL108_0.out (fun _ hk => ⟨hk.1.1.1, ⟨hk.1.2, ⟨hk.2, ⟨hk.1.1.2.1, ⟨hk.1.1.2.2.1, hk.1.1.2.2.2⟩⟩⟩⟩⟩)), (by (with_reducible repeat (first | apply Kd.V_alloc | apply Kd.V_drewN | apply Kd.V_drew)); exact Kd.V_mono HO114.out (fun _ hk => ⟨hk.1.1.1, ⟨hk.1.2, ⟨hk.2, ⟨hk.1.1.2.1, ⟨hk.1.1.2.2.1, hk.1.1.2.2.2⟩⟩⟩⟩⟩)), (by (with_reducible repeat (first | apply Kd.R_alloc | apply Kd.R_drewN | apply Kd.R_drew)); exact HO121.out), (by (with_reducible repeat (first | apply Kd.R_alloc | apply Kd.R_drewN | apply Kd.R_drew)); exact Kd.R_mono HO125.out (fun _ hk => ⟨hk.1.1, hk.2⟩)), (by (with_reducible repeat (first | apply Kd.N_alloc | apply Kd.N_drewN | apply Kd.N_drew)); exact Kd.N_mono HO_102000.out (fun _ hk => ⟨hk.1.1.1, ⟨hk.1.2, ⟨hk.2, ⟨hk.1.1.2.1, hk.1.1.2.2⟩⟩⟩⟩)), (by (with_reducible repeat (first | refine q73kN ?_ _ | refine q73kD ?_ | refine q73kA ?_ _)); exact BK101.out), (by (with_reducible repeat (first | refine q73kN ?_ _ | refine q73kD ?_ | refine q73kA ?_ _)); exact BK102.out), (by repeat (first | (with_reducible first | exact HB.out | apply q73bA | apply q73bN | apply q73bD | refine q73bS ?_ GE101.out | refine q73bS ?_ GE102.out) | exact HB.out))⟩)
                 ·skip
                  refine Kd.R_lit_step k43 _ 43 ?hg (N := 70) ?hd (xs := ([(⟨(wrap64 (t106 + 1)), (rd_T58 l1 x5_1).f1⟩ : S43)] : List (S43))) (inner := [.int .i64 (wrap64 (t106 + 1)), .int .i64 ((rd_T58 l1 x5_1).f1)]) (ok := fun _ => True) (okp := fun _ => True) ?hr ?hp (fun _ hk => hk) trivial (Below.refl _ _) (Nat.le_refl _) qa117 ?_; (case hd => rfl); (case hg => rfl); (case hr => exact qa10); (case hp => exact qa36); intro v124 w38 ho39 hb hg_ hnew_; clear hg_ hnew_; (first | rw [← Ny123.out] at ho39 | (simp only [Int.reduceToNat] at ho39; rw [← Ny123.out] at ho39)); have HO125 := q73O (Kd.R_lower (Kd.R_new' (Kd.R_newM (M := fun k_ => (w.heap.size ≤ k_)) ho39 (below_size qa6) (fun k_ h_ => h_)) (Kd.R_lt qa171)) (below_size qa6)); replace HO_102000 := q73O (Kd.N_elder' qa41 (Kd.R_base ho39) hb); replace HL108_0 := q73O (Kd.V_elder' qa47 (Kd.R_base ho39) hb); replace HO114 := q73O (Kd.V_elder' qa111 (Kd.R_base ho39) hb); replace HO118 := q73O (Kd.R_elder' qa171 (Kd.R_base ho39) hb); replace BK101 := q73O (blk_below (g := gb101) (o := .cells #[.slice (some ad108) x102000_1.length co32, .int .i64 (wrap64 (t106 + 1))] 28 (0, 0)) qa21 hb); replace BK102 := q73O (blk_below (g := gb102) (o := .cells #[.slice none 0 0, .int .i64 0] 28 (0, 0)) qa23 hb); replace HR108_0 := q73O (Kd.C_below qa27 hb); replace HB := q73O (below_step qa6 hb); clear hb ho39; refine hK.out _ _ ⟨qc0 BK101.out, qc1 BK101.out, ((HB.out.cell (q73L w _ hw115_0)).trans hw115_0), ((HB.out.cell (q73L w _ hw115_1)).trans hw115_1), ((HB.out.cell (q73L w _ hw122_0)).trans hw122_0), ((HB.out.cell (q73L w _ hw122_1)).trans hw122_1)⟩ (fun hHeld => ?_); clear hK K; refine norm_ (a' := ?_) ?_ ?_; rotate_left
                  ·exact qa24
                  refine one_ (i := 9) (N := some 61) q73y44 rfl rfl (one_of HT_.out qa5) qa51 (fun K hK => ?_); refine Kd.R_append_rows_step k43 (w0 := w) w.heap.size (by rfl) (.tmp 59) (.tmp 60) 41 43 (.agg #[(.int .i64 0), (.int .i64 0)]) 16 rfl Try.underlying41 info43 rfl qa51 qa29 v117 y116 y110 _ _ _ (fun k_ => (w.heap.size ≤ k_) ∧ some k_ ≠ (v124 : Value).ownBlock) (fun _ => False) rfl rfl ?aO ?aR (fun _ _ h => h) (fun _ h => h.elim) ?aF ?aB ?aS ?aL ?_; (case aR => exact qa133); (case aB => exact qa40); (case aF => exact qa62); (case aO => exact qa154); (case aS => exact qa32); (case aL => have := LMc28.out; omega); intro v120 w40 ho hb hg hat; rw [← Ny119.out] at ho; have n0_ := q73O (Kd.N_afterv (ok := (fun k_ => (P0_0_ k_ ∨ w.heap.size ≤ k_) ∧ some k_ ≠ (v124 : Value).ownBlock ∧ k_ ≠ gb101 ∧ k_ ≠ gb102)) qa105 hg hat); have n1_ := q73O (blk_grown (g := gb101) (o := .cells #[.slice (some ad108) x102000_1.length co32, .int .i64 (wrap64 (t106 + 1))] 28 (0, 0)) qa21 hg (Kd.R_ne HO118.out BK101.out qa51)); have n2_ := q73O (blk_grown (g := gb102) (o := .cells #[.slice none 0 0, .int .i64 0] 28 (0, 0)) qa23 hg (Kd.R_ne HO118.out BK102.out qa51)); have n3_ := q73O (Kd.V_afterv (ok := (fun k_ => (P0_0_ k_ ∨ w.heap.size ≤ k_) ∧ some k_ ≠ (.slice (some ad108) x102000_1.length co32 : Value).ownBlock ∧ some k_ ≠ (v124 : Value).ownBlock ∧ k_ ≠ gb101 ∧ k_ ≠ gb102)) qa94 hg hat); have n4_ := q73O (Kd.V_afterv (ok := (fun k_ => (P0_0_ k_ ∨ w.heap.size ≤ k_) ∧ some k_ ≠ (.slice (some ad108) x102000_1.length co32 : Value).ownBlock ∧ some k_ ≠ (v124 : Value).ownBlock ∧ k_ ≠ gb101 ∧ k_ ≠ gb102)) (by (with_reducible repeat (first | apply Kd.V_alloc | apply Kd.V_drewN | apply Kd.V_drew)); exact Kd.V_mono HO114.out (fun _ hk => ⟨⟨hk.1.1.1.1, ⟨hk.1.1.2, ⟨hk.2, ⟨hk.1.1.1.2.1, hk.1.1.1.2.2⟩⟩⟩⟩, hk.1.2⟩)) hg hat); have n5_ := q73O (Kd.R_after (ok := (fun k_ => (w.heap.size ≤ k_))) qa155 hg hat); have n6_ := q73O (hb); have n7_ := q73O (ho); clear HO_102000 BK101 BK102 HL108_0 HO114 HO125 HB HO118; have HO_102000 := n0_; have BK101 := n1_; have BK102 := n2_; have HL108_0 := n3_; have HO114 := n4_; have HO125 := n5_; have HB := n6_; have HO121 := n7_; clear n0_ n1_ n2_ n3_ n4_ n5_ n6_ n7_ ho hb hg hat; refine hK.out _ _ ⟨qc0 BK101.out, qc1 BK101.out, ((HB.out.cell (q73L w _ hw115_0)).trans hw115_0), ((HB.out.cell (q73L w _ hw115_1)).trans hw115_1), ((HB.out.cell (q73L w _ hw122_0)).trans hw122_0), ((HB.out.cell (q73L w _ hw122_1)).trans hw122_1)⟩ (fun hHeld => ?_); clear hK K; refine norm_ (a' := ?_) ?_ ?_; rotate_left
                  ·exact qa24
                  exact norm_ (by simp only [putAll, Act.put, q73zA, q73zB, q73zC]) (hCont (v117, v120, v124) _ ⟨hHeld, (by (with_reducible repeat (first | apply Kd.V_alloc | apply Kd.V_drewN | apply Kd.V_drew)); exact Kd.V_mono HL108_0.out (fun _ hk => ⟨hk.1.1, ⟨hk.2, ⟨hk.1.2.2.1, ⟨hk.1.2.1, ⟨hk.1.2.2.2.1, hk.1.2.2.2.2⟩⟩⟩⟩⟩)), (by (with_reducible repeat (first | apply Kd.V_alloc | apply Kd.V_drewN | apply Kd.V_drew)); exact Kd.V_mono HO114.out (fun _ hk => ⟨hk.1.1, ⟨hk.2, ⟨hk.1.2.2.1, ⟨hk.1.2.1, ⟨hk.1.2.2.2.1, hk.1.2.2.2.2⟩⟩⟩⟩⟩)), (by (with_reducible repeat (first | apply Kd.R_alloc | apply Kd.R_drewN | apply Kd.R_drew)); exact HO121.out), (by (with_reducible repeat (first | apply Kd.R_alloc | apply Kd.R_drewN | apply Kd.R_drew)); exact HO125.out), (by (with_reducible repeat (first | apply Kd.N_alloc | apply Kd.N_drewN | apply Kd.N_drew)); exact Kd.N_mono HO_102000.out (fun _ hk => ⟨hk.1.1, ⟨hk.2, ⟨hk.1.2.1, ⟨hk.1.2.2.1, hk.1.2.2.2⟩⟩⟩⟩)), (by (with_reducible repeat (first | refine q73kN ?_ _ | refine q73kD ?_ | refine q73kA ?_ _)); exact BK101.out), (by (with_reducible repeat (first | refine q73kN ?_ _ | refine q73kD ?_ | refine q73kA ?_ _)); exact BK102.out), (by repeat (first | (with_reducible first | exact HB.out | apply q73bA | apply q73bN | apply q73bD | refine q73bS ?_ GE101.out | refine q73bS ?_ GE102.out) | exact HB.out))⟩)
                ·skip
                 refine Kd.R_lit_step k43 _ 43 ?hg (N := 70) ?hd (xs := ([(⟨(wrap64 (t106 + 1)), (rd_T58 l1 x5_1).f1⟩ : S43)] : List (S43))) (inner := [.int .i64 (wrap64 (t106 + 1)), .int .i64 ((rd_T58 l1 x5_1).f1)]) (ok := fun _ => True) (okp := fun _ => True) ?hr ?hp (fun _ hk => hk) trivial (Below.refl _ _) (Nat.le_refl _) qa117 ?_; (case hd => rfl); (case hg => rfl); (case hr => exact qa10); (case hp => exact qa36); intro v124 w36 ho37 hb hg_ hnew_; clear hg_ hnew_; (first | rw [← Ny123.out] at ho37 | (simp only [Int.reduceToNat] at ho37; rw [← Ny123.out] at ho37)); have HO125 := q73O (Kd.R_lower (Kd.R_newM (M := fun k_ => (w.heap.size ≤ k_)) ho37 (below_size qa6) (fun k_ h_ => h_)) (below_size qa6)); replace HO_102000 := q73O (Kd.N_elder' qa41 (Kd.R_base ho37) hb); replace HL108_0 := q73O (Kd.V_elder' qa47 (Kd.R_base ho37) hb); replace HO114 := q73O (Kd.V_elder' qa111 (Kd.R_base ho37) hb); replace BK101 := q73O (blk_below (g := gb101) (o := .cells #[.slice (some ad108) x102000_1.length co32, .int .i64 (wrap64 (t106 + 1))] 28 (0, 0)) qa21 hb); replace BK102 := q73O (blk_below (g := gb102) (o := .cells #[.slice none 0 0, .int .i64 0] 28 (0, 0)) qa23 hb); replace HR108_0 := q73O (Kd.C_below qa27 hb); replace HB := q73O (below_step qa6 hb); clear hb ho37; refine hK.out _ _ ⟨qc0 BK101.out, qc1 BK101.out, ((HB.out.cell (q73L w _ hw115_0)).trans hw115_0), ((HB.out.cell (q73L w _ hw115_1)).trans hw115_1), ((HB.out.cell (q73L w _ hw122_0)).trans hw122_0), ((HB.out.cell (q73L w _ hw122_1)).trans hw122_1)⟩ (fun hHeld => ?_); clear hK K; refine norm_ (a' := ?_) ?_ ?_; rotate_left
                 ·exact qa24
                 refine one_ (i := 7) (N := some 59) q73y48 rfl rfl (one_of HT_.out qa5) qa51 (fun K hK => ?_); refine Kd.R_lit_step k43 _ 43 ?hg (N := 59) ?hd (xs := ([] : List (S43))) (inner := []) (ok := fun _ => True) (okp := fun _ => True) ?hr ?hp (fun _ hk => hk) trivial (Below.refl _ _) (Nat.le_refl _) qa117 ?_; (case hd => rfl); (case hg => rfl); (case hr => exact qa10); (case hp => exact qa190); intro v117 w38 ho39 hb hg_ hnew_; clear hg_ hnew_; (first | rw [← Ny116.out] at ho39 | (simp only [Int.reduceToNat] at ho39; rw [← Ny116.out] at ho39)); have HO118 := q73O (Kd.R_lower (Kd.R_new' (Kd.R_newM (M := fun k_ => (w.heap.size ≤ k_)) ho39 (below_size qa6) (fun k_ h_ => h_)) (Kd.R_lt qa140)) (below_size qa6)); replace HO_102000 := q73O (Kd.N_elder' qa41 (Kd.R_base ho39) hb); replace HL108_0 := q73O (Kd.V_elder' qa47 (Kd.R_base ho39) hb); replace HO114 := q73O (Kd.V_elder' qa111 (Kd.R_base ho39) hb); replace HO125 := q73O (Kd.R_elder' qa140 (Kd.R_base ho39) hb); replace BK101 := q73O (blk_below (g := gb101) (o := .cells #[.slice (some ad108) x102000_1.length co32, .int .i64 (wrap64 (t106 + 1))] 28 (0, 0)) qa21 hb); replace BK102 := q73O (blk_below (g := gb102) (o := .cells #[.slice none 0 0, .int .i64 0] 28 (0, 0)) qa23 hb); replace HR108_0 := q73O (Kd.C_below qa27 hb); replace HB := q73O (below_step qa6 hb); clear hb ho39; refine hK.out _ _ ⟨qc0 BK101.out, qc1 BK101.out, ((HB.out.cell (q73L w _ hw115_0)).trans hw115_0), ((HB.out.cell (q73L w _ hw115_1)).trans hw115_1), ((HB.out.cell (q73L w _ hw122_0)).trans hw122_0), ((HB.out.cell (q73L w _ hw122_1)).trans hw122_1)⟩ (fun hHeld => ?_); clear hK K; refine norm_ (a' := ?_) ?_ ?_; rotate_left
                 ·exact qa24
                 refine one_ (i := 9) (N := some 61) q73y44 rfl rfl (one_of HT_.out qa5) qa51 (fun K hK => ?_); refine Kd.R_append_rows_step k43 (w0 := w) w.heap.size (by rfl) (.tmp 59) (.tmp 60) 41 43 (.agg #[(.int .i64 0), (.int .i64 0)]) 16 rfl Try.underlying41 info43 rfl qa51 qa29 v117 y116 y110 _ _ _ (fun k_ => (w.heap.size ≤ k_) ∧ some k_ ≠ (v124 : Value).ownBlock) (fun _ => False) rfl rfl ?aO ?aR (fun _ _ h => h) (fun _ h => h.elim) ?aF ?aB ?aS ?aL ?_; (case aR => exact qa133); (case aB => exact qa40); (case aF => exact qa62); (case aO => exact qa154); (case aS => exact qa32); (case aL => have := LMc28.out; omega); intro v120 w40 ho hb hg hat; rw [← Ny119.out] at ho; have n0_ := q73O (Kd.N_afterv (ok := (fun k_ => (P0_0_ k_ ∨ w.heap.size ≤ k_) ∧ some k_ ≠ (v124 : Value).ownBlock ∧ k_ ≠ gb101 ∧ k_ ≠ gb102)) qa106 hg hat); have n1_ := q73O (blk_grown (g := gb101) (o := .cells #[.slice (some ad108) x102000_1.length co32, .int .i64 (wrap64 (t106 + 1))] 28 (0, 0)) qa21 hg (Kd.R_ne HO118.out BK101.out qa51)); have n2_ := q73O (blk_grown (g := gb102) (o := .cells #[.slice none 0 0, .int .i64 0] 28 (0, 0)) qa23 hg (Kd.R_ne HO118.out BK102.out qa51)); have n3_ := q73O (Kd.V_afterv (ok := (fun k_ => (P0_0_ k_ ∨ w.heap.size ≤ k_) ∧ some k_ ≠ (.slice (some ad108) x102000_1.length co32 : Value).ownBlock ∧ some k_ ≠ (v124 : Value).ownBlock ∧ k_ ≠ gb101 ∧ k_ ≠ gb102)) qa95 hg hat); have n4_ := q73O (Kd.V_afterv (ok := (fun k_ => (P0_0_ k_ ∨ w.heap.size ≤ k_) ∧ some k_ ≠ (.slice (some ad108) x102000_1.length co32 : Value).ownBlock ∧ some k_ ≠ (v124 : Value).ownBlock ∧ k_ ≠ gb101 ∧ k_ ≠ gb102)) (by (with_reducible repeat (first | apply Kd.V_alloc | apply Kd.V_drewN | apply Kd.V_drew)); exact Kd.V_mono HO114.out (fun _ hk => ⟨⟨hk.1.1.1.1, ⟨hk.1.1.2, ⟨hk.1.2, ⟨hk.1.1.1.2.1, hk.1.1.1.2.2⟩⟩⟩⟩, hk.2⟩)) hg hat); have n5_ := q73O (Kd.R_after (ok := (fun k_ => (w.heap.size ≤ k_))) qa155 hg hat); have n6_ := q73O (hb); have n7_ := q73O (ho); clear HO_102000 BK101 BK102 HL108_0 HO114 HO125 HB HO118; have HO_102000 := n0_; have BK101 := n1_; have BK102 := n2_; have HL108_0 := n3_; have HO114 := n4_; have HO125 := n5_; have HB := n6_; have HO121 := n7_; clear n0_ n1_ n2_ n3_ n4_ n5_ n6_ n7_ ho hb hg hat; refine hK.out _ _ ⟨qc0 BK101.out, qc1 BK101.out, ((HB.out.cell (q73L w _ hw115_0)).trans hw115_0), ((HB.out.cell (q73L w _ hw115_1)).trans hw115_1), ((HB.out.cell (q73L w _ hw122_0)).trans hw122_0), ((HB.out.cell (q73L w _ hw122_1)).trans hw122_1)⟩ (fun hHeld => ?_); clear hK K; refine norm_ (a' := ?_) ?_ ?_; rotate_left
                 ·exact qa24
                 exact norm_ (by simp only [putAll, Act.put, q73zA, q73zB, q73zC]) (hCont (v117, v120, v124) _ ⟨hHeld, (by (with_reducible repeat (first | apply Kd.V_alloc | apply Kd.V_drewN | apply Kd.V_drew)); exact Kd.V_mono HL108_0.out (fun _ hk => ⟨hk.1.1, ⟨hk.2, ⟨hk.1.2.2.1, ⟨hk.1.2.1, ⟨hk.1.2.2.2.1, hk.1.2.2.2.2⟩⟩⟩⟩⟩)), (by (with_reducible repeat (first | apply Kd.V_alloc | apply Kd.V_drewN | apply Kd.V_drew)); exact Kd.V_mono HO114.out (fun _ hk => ⟨hk.1.1, ⟨hk.2, ⟨hk.1.2.2.1, ⟨hk.1.2.1, ⟨hk.1.2.2.2.1, hk.1.2.2.2.2⟩⟩⟩⟩⟩)), (by (with_reducible repeat (first | apply Kd.R_alloc | apply Kd.R_drewN | apply Kd.R_drew)); exact HO121.out), (by (with_reducible repeat (first | apply Kd.R_alloc | apply Kd.R_drewN | apply Kd.R_drew)); exact HO125.out), (by (with_reducible repeat (first | apply Kd.N_alloc | apply Kd.N_drewN | apply Kd.N_drew)); exact Kd.N_mono HO_102000.out (fun _ hk => ⟨hk.1.1, ⟨hk.2, ⟨hk.1.2.1, ⟨hk.1.2.2.1, hk.1.2.2.2⟩⟩⟩⟩)), (by (with_reducible repeat (first | refine q73kN ?_ _ | refine q73kD ?_ | refine q73kA ?_ _)); exact BK101.out), (by (with_reducible repeat (first | refine q73kN ?_ _ | refine q73kD ?_ | refine q73kA ?_ _)); exact BK102.out), (by repeat (first | (with_reducible first | exact HB.out | apply q73bA | apply q73bN | apply q73bD | refine q73bS ?_ GE101.out | refine q73bS ?_ GE102.out) | exact HB.out))⟩)
               rintro ⟨v117, v120, v124⟩ w41 ⟨hS_, h0_, h1_, h2_, h3_, h4_, h5_, h6_, h7_⟩; have n0_ : Aside0 (Kd.V k43 43 w41 w.heap.size (fun k_ => (P0_0_ k_ ∨ w.heap.size ≤ k_) ∧ some k_ ≠ (v120 : Value).ownBlock ∧ some k_ ≠ (v124 : Value).ownBlock ∧ some k_ ≠ (.slice (some ad108) x102000_1.length co32 : Value).ownBlock ∧ k_ ≠ gb101 ∧ k_ ≠ gb102) (.slice (some ad109) (rd_L4 x102000_1 ((rd_T58 l1 x5_1).f0)).length c108_0) (rd_L4 x102000_1 ((rd_T58 l1 x5_1).f0))) := ⟨h0_⟩; have n1_ : Aside0 (Kd.V k43 43 w41 w.heap.size (fun k_ => (P0_0_ k_ ∨ w.heap.size ≤ k_) ∧ some k_ ≠ (v120 : Value).ownBlock ∧ some k_ ≠ (v124 : Value).ownBlock ∧ some k_ ≠ (.slice (some ad108) x102000_1.length co32 : Value).ownBlock ∧ k_ ≠ gb101 ∧ k_ ≠ gb102) (.slice (some ad109) y110.length c108_0) y110) := ⟨h1_⟩; have n2_ : Aside0 (Kd.R k43 43 w41 w.heap.size (fun k_ => (w.heap.size ≤ k_) ∧ some k_ ≠ (v124 : Value).ownBlock) v120 y119) := ⟨h2_⟩; have n3_ : Aside0 (Kd.R k43 43 w41 w.heap.size (fun k_ => (w.heap.size ≤ k_) ∧ some k_ ≠ (v120 : Value).ownBlock) v124 y123) := ⟨h3_⟩; have n4_ : Aside0 (Kd.N (Kd.slice 43 k43) 41 w41 w.heap.size (fun k_ => (P0_0_ k_ ∨ w.heap.size ≤ k_) ∧ some k_ ≠ (v120 : Value).ownBlock ∧ some k_ ≠ (v124 : Value).ownBlock ∧ k_ ≠ gb101 ∧ k_ ≠ gb102) (.slice (some ad108) x102000_1.length co32) x102000_1) := ⟨h4_⟩; have n5_ : Aside0 (w41.heap[gb101]? = some (.cells #[.slice (some ad108) x102000_1.length co32, .int .i64 (wrap64 (t106 + 1))] 28 (0, 0))) := ⟨h5_⟩; have n6_ : Aside0 (w41.heap[gb102]? = some (.cells #[.slice none 0 0, .int .i64 0] 28 (0, 0))) := ⟨h6_⟩; have n7_ : Aside0 (Below w.heap.size w w41) := ⟨h7_⟩; clear HO_102000 HL108_0 HO114 BK101 BK102 HR108_0 HB h0_ h1_ h2_ h3_ h4_ h5_ h6_ h7_; have HL108_0 := n0_; have HO114 := n1_; have HO121 := n2_; have HO125 := n3_; have HO_102000 := n4_; have BK101 := n5_; have BK102 := n6_; have HB := n7_; clear n0_ n1_ n2_ n3_ n4_ n5_ n6_ n7_; have hHeld : w41.cell? ⟨gb101, 0, none⟩ = some (.slice (some ad108) x102000_1.length co32) ∧ w41.cell? ⟨gb101, 1, none⟩ = some (.int .i64 (wrap64 (t106 + 1))) ∧ w41.cell? (ad107.add ((x5_1).toNat * 2)) = some (.int .i64 ((rd_T58 l1 x5_1).f0)) ∧ w41.cell? ⟨(ad107.add ((x5_1).toNat * 2)).block, (ad107.add ((x5_1).toNat * 2)).off + 1, none⟩ = some (.int .i64 ((rd_T58 l1 x5_1).f1)) ∧ w41.cell? (ad107.add ((x5_1).toNat * 2)) = some (.int .i64 ((rd_T58 l1 x5_1).f0)) ∧ w41.cell? ⟨(ad107.add ((x5_1).toNat * 2)).block, (ad107.add ((x5_1).toNat * 2)).off + 1, none⟩ = some (.int .i64 ((rd_T58 l1 x5_1).f1)) := hS_; obtain ⟨Ao43, co43, eo43⟩ := Kd.R_slice HO125.out; (first | subst eo43 | (injection eo43 with f1_ f2_ f3_; have f4_ := f1_.symm; have f5_ := f3_.symm; clear f1_ f2_ f3_; subst f4_; subst f5_)); refine norm_ (a' := ?_) ?_ ?_; rotate_left
               ·simp only [putAll, Act.put, q73zA, q73zB, q73zC]
                rfl
               refine one_ (i := 19) (N := some 71) q73y49 rfl rfl (one_of HT_.out qa5) qa51 (fun K hK => ?_); refine Kd.R_append_rows_step k43 (w0 := w) w.heap.size (by rfl) (.tmp 61) (.tmp 70) 41 43 (.agg #[(.int .i64 0), (.int .i64 0)]) 16 rfl Try.underlying41 info43 rfl qa51 qa29 v120 y119 y123 _ _ _ (fun k_ => (w.heap.size ≤ k_) ∧ some k_ ≠ (.slice Ao43 y123.length co43 : Value).ownBlock) (fun _ => False) rfl rfl ?aO ?aR (fun _ _ h => h) (fun _ h => h.elim) ?aF ?aB ?aS ?aL ?_; (case aR => repeat (first | exact (Kd.R_reads' HO125.out).2.2 | with_reducible first | refine Kd.C_alloc ?_ _ | refine Kd.C_drewN ?_ _ | refine Kd.C_drew ?_)); (case aB => exact qa40); (case aF => exact qa62); (case aO => exact (by (with_reducible repeat (first | apply Kd.R_alloc | apply Kd.R_drewN | apply Kd.R_drew)); exact HO121.out)); (case aS => exact qa32); (case aL => have := LMc29.out; omega); intro v127 w42 ho hb hg hat; rw [← Ny126.out] at ho; have n0_ := q73O (Kd.N_afterv (ok := (fun k_ => (P0_0_ k_ ∨ w.heap.size ≤ k_) ∧ some k_ ≠ (.slice Ao43 y123.length co43 : Value).ownBlock ∧ k_ ≠ gb101 ∧ k_ ≠ gb102)) qa107 hg hat); have n1_ := q73O (blk_grown (g := gb101) (o := .cells #[.slice (some ad108) x102000_1.length co32, .int .i64 (wrap64 (t106 + 1))] 28 (0, 0)) qa21 hg (Kd.R_ne HO121.out BK101.out qa51)); have n2_ := q73O (blk_grown (g := gb102) (o := .cells #[.slice none 0 0, .int .i64 0] 28 (0, 0)) qa23 hg (Kd.R_ne HO121.out BK102.out qa51)); have n3_ := q73O (Kd.V_afterv (ok := (fun k_ => (P0_0_ k_ ∨ w.heap.size ≤ k_) ∧ some k_ ≠ (.slice (some ad108) x102000_1.length co32 : Value).ownBlock ∧ some k_ ≠ (.slice Ao43 y123.length co43 : Value).ownBlock ∧ k_ ≠ gb101 ∧ k_ ≠ gb102)) qa96 hg hat); have n4_ := q73O (Kd.V_afterv (ok := (fun k_ => (P0_0_ k_ ∨ w.heap.size ≤ k_) ∧ some k_ ≠ (.slice (some ad108) x102000_1.length co32 : Value).ownBlock ∧ some k_ ≠ (.slice Ao43 y123.length co43 : Value).ownBlock ∧ k_ ≠ gb101 ∧ k_ ≠ gb102)) (by (with_reducible repeat (first | apply Kd.V_alloc | apply Kd.V_drewN | apply Kd.V_drew)); exact Kd.V_mono HO114.out (fun _ hk => ⟨⟨hk.1, ⟨hk.2.2.2.1, ⟨hk.2.2.1, ⟨hk.2.2.2.2.1, hk.2.2.2.2.2⟩⟩⟩⟩, hk.2.1⟩)) hg hat); have n5_ := q73O (Kd.R_after (ok := (fun k_ => (w.heap.size ≤ k_))) qa140 hg hat); have n6_ := q73O (hb); have n7_ := q73O (ho); clear HO_102000 BK101 BK102 HL108_0 HO114 HO125 HB HO121; have HO_102000 := n0_; have BK101 := n1_; have BK102 := n2_; have HL108_0 := n3_; have HO114 := n4_; have HO125 := n5_; have HB := n6_; have HO128 := n7_; clear n0_ n1_ n2_ n3_ n4_ n5_ n6_ n7_; obtain ⟨Av44, cv44, ev44⟩ := Kd.R_slice HO128.out; subst ev44; clear ho hb hg hat; have p30 : 0 ≤ (((rd_T58 l1 x5_1).f0) : Int) := q73T qa115; have q30 : (((rd_T58 l1 x5_1).f0) : Int) < ((x102000_1.length : Int) : Int) := q73T qa115; obtain ⟨go30, co30, eo30, gb30, gl30, cl30, HG30⟩ := Kd.N_form HO_102000.out qa29; (first | cases eo30 | (injection eo30 with ea_ en_ ec_; (first | subst ea_ | (injection ea_ with ea_; subst ea_)); subst ec_; clear en_)); have GB30 := q73O gb30; have GG30 := q73O HG30; clear gb30 gl30 HG30; (first | simp only [add_plain] at hx108_0 | skip); obtain ⟨ce30, hcl30, hM30, hcc30, hfr30⟩ := Kd.N_elem HO_102000.out [] (((rd_T58 l1 x5_1).f0) : Int) p30 q30; obtain ⟨ua30_0, uc30_0, rfl, ul30_0, ge30_0⟩ := Kd.FK_slice_open hM30; have hx30_0 := hcc30 0 _ rfl; have hf30_0 := hfr30 0; (try simp only [show ((Kd.slice 43 k43)).sz = 1 from rfl, Nat.mul_one, Nat.add_zero] at hx30_0); (try simp only [show ((Kd.slice 43 k43)).sz = 1 from rfl, Nat.mul_one, Nat.add_zero] at hf30_0); clear hcl30 hcc30 hfr30; (try clear hM30); replace p30 := eq_true p30; replace q30 := eq_true q30; have HX44 := q73O (show Kd.N (Kd.slice 43 k43) 41 _ w.heap.size (fun k_ => (P0_0_ k_ ∨ w.heap.size ≤ k_) ∧ some k_ ≠ (.slice Ao43 y123.length co43 : Value).ownBlock ∧ some k_ ≠ ((.slice Av44 y126.length cv44) : Value).ownBlock ∧ k_ ≠ gb101 ∧ k_ ≠ gb102) (.slice (some ⟨go30, 0, none⟩) x102000_1.length co32) x102000_1 from (Kd.N_mono (HO_102000.out) (fun k_ hk => ⟨hk.1.1, ⟨hk.1.2.1, ⟨hk.2, ⟨hk.1.2.2.1, hk.1.2.2.2⟩⟩⟩⟩))); replace HX44 := q73O (show Kd.N (Kd.slice 43 k43) 41 _ w.heap.size (fun k_ => (P0_0_ k_ ∨ w.heap.size ≤ k_) ∧ some k_ ≠ (.slice Ao43 y123.length co43 : Value).ownBlock ∧ k_ ≠ gb101 ∧ k_ ≠ gb102) (.slice (some ⟨go30, 0, none⟩) x102000_1.length co32) x102000_1 from Kd.N_mono HX44.out (fun k_ hk => ⟨hk.1, ⟨hk.2.1, ⟨hk.2.2.2.1, hk.2.2.2.2⟩⟩⟩)); obtain ⟨ce44, hcl44, hM44, hcc44, hfr44⟩ := Kd.N_elem HX44.out [] (((rd_T58 l1 x5_1).f0) : Int) (q73T qa115) (by have h_ : (((rd_T58 l1 x5_1).f0) : Int) < ((x102000_1.length : Int) : Int) := q73T qa115; first | exact h_ | (have e_ := (Kd.N_reads' HO_102000.out).1; omega) | simpa using h_); obtain ⟨ua44_0, uc44_0, rfl, ul44_0, ge44_0⟩ := Kd.FK_slice_open hM44; have HP44 := (Kd.N_seg HX44.out (((rd_T58 l1 x5_1).f0) : Int) (q73T qa115) (by have h_ : (((rd_T58 l1 x5_1).f0) : Int) < ((x102000_1.length : Int) : Int) := q73T qa115; first | exact h_ | (have e_ := (Kd.N_reads' HO_102000.out).1; omega) | simpa using h_) (seg := [(.slice Av44 y126.length cv44)]) (j := 0) hcl44 hcc44 (show 1 ≤ 1 from by decide) (x' := y126) (Kd.FK_slice_mk (Kd.R_reads' (Kd.R_mono (ok' := (fun k_ => ((fun k_ => (P0_0_ k_ ∨ w.heap.size ≤ k_) ∧ some k_ ≠ (.slice Ao43 y123.length co43 : Value).ownBlock ∧ k_ ≠ gb101 ∧ k_ ≠ gb102)) k_ ∧ k_ ≠ go30)) (Kd.R_types (Kd.R_types (Kd.R_apart' (HO128.out) (Kd.N_typed HO_102000.out) qa51) BK101.out qa51) BK102.out qa51) (fun k_ hk => ⟨⟨(.inr (hk.1.1.1.1)), ⟨hk.1.1.1.2, ⟨hk.1.2, hk.2⟩⟩⟩, fun e_ => (hk.1.1.2) qa189⟩))).2.1 (Kd.R_F (Kd.R_mono (ok' := (fun k_ => ((fun k_ => (P0_0_ k_ ∨ w.heap.size ≤ k_) ∧ some k_ ≠ (.slice Ao43 y123.length co43 : Value).ownBlock ∧ k_ ≠ gb101 ∧ k_ ≠ gb102)) k_ ∧ k_ ≠ go30)) (Kd.R_types (Kd.R_types (Kd.R_apart' (HO128.out) (Kd.N_typed HO_102000.out) qa51) BK101.out qa51) BK102.out qa51) (fun k_ hk => ⟨⟨(.inr (hk.1.1.1.1)), ⟨hk.1.1.1.2, ⟨hk.1.2, hk.2⟩⟩⟩, fun e_ => (hk.1.1.2) qa189⟩)))) (fun _ hk => hk)).1; (try simp only [show ((Kd.slice 43 k43)).sz = 1 from rfl, Nat.mul_one, Nat.add_zero] at HP44); rw [← Ny129.out] at HP44; have HQ44 := q73O HP44; clear hcl44 hcc44 hfr44; (try clear hM44); clear HP44; refine hK.out _ _ ⟨qc0 BK101.out, qc1 BK101.out, ((HB.out.cell (q73L w _ hw115_0)).trans hw115_0), ((HB.out.cell (q73L w _ hw115_1)).trans hw115_1), ((HB.out.cell (q73L w _ hw122_0)).trans hw122_0), ((HB.out.cell (q73L w _ hw122_1)).trans hw122_1)⟩ (fun hHeld => ?_); clear hK K; refine norm_ (a' := ?_) ?_ ?_; rotate_left
               ·exact qa24
               refine pure_ (i := 20) (N := some 72) (v := ?_) (a' := ?_) q73y50 rfl rfl (any_of HT_.out qa5) (fun _ _ _ h => h) (Or.inl ⟨by rfl, ?_⟩) ?_ ?_; rotate_left
               ·intro w'
                go_simp; (with_reducible rfl)
               rotate_left
               ·simp only [Act.put, q73zA, q73zB, q73zC, i64_w, i32_w]
                rfl
               refine last_ (i := 21) (N := none) q73y51 rfl rfl (one_of HT_.out qa5) qa51 (fun K hK => ?_); refine skip_ (w1 := ?_) (by rfl) rfl ?_ ?_; rotate_left
               ·go_simp
                rfl
               refine hK.out _ _ ?_; clear hK K; refine done_ (done_of HT_.out qa5) ?_
               try go_wp2
               go_roundg k1
               case measure => have := HK1.out; omega
               case rel => exact ⟨(wrap64 (x5_1 + 1)), (y129), (.slice (some ⟨go30, 0, none⟩) x102000_1.length co32), qa12, H', ⟨qa103⟩, ⟨by (with_reducible repeat (first | apply Kd.N_alloc | apply Kd.N_drewN | apply Kd.N_drew)); exact Kd.N_mono HQ44.out (fun _ hk => ⟨hk.1, ⟨hk.2.2.1, hk.2.2.2⟩⟩)⟩, ⟨qa70⟩, ⟨qa71⟩, ⟨by repeat (first | (with_reducible first | exact HB.out | apply q73bA | apply q73bN | apply q73bD | refine q73bS ?_ GB30.out | refine q73bS ?_ GE101.out | refine q73bS ?_ GE102.out) | exact HB.out)⟩⟩
              ·rw [if_neg c29] at H
               exact absurd H qa117
             ·rw [if_neg c28] at H
              exact absurd H qa117
            ·rw [if_neg c27] at H
             exact absurd H qa117
           ·rw [if_neg c25] at H
            have c25b0 : (((rd_T43 (rd_L4 x102000_1 ((rd_T58 l1 x5_1).f0)) (ji22)).f0) == (wrap64 (t106 + 1))) = false := beq_eq_false_iff_ne.mpr c25; have c25b1 : (((rd_T43 (rd_L4 x102000_1 ((rd_T58 l1 x5_1).f0)) (ji22)).f0) != (wrap64 (t106 + 1))) = true := bne_iff_ne.mpr c25; obtain ⟨y131, hy131⟩ : ∃ y_ : List (S43), y_ = (([] : List (S43))) := ⟨_, rfl⟩; replace H : (if y131.length + (rd_L4 x102000_1 ((rd_T58 l1 x5_1).f0)).length < 8796093022208 then ((some (y131 ++ (rd_L4 x102000_1 ((rd_T58 l1 x5_1).f0)) : List (S43))).bind fun y134 => ((some (([(⟨(wrap64 (t106 + 1)), (rd_T58 l1 x5_1).f1⟩ : S43)] : List (S43)) : List (S43))).bind fun y138 => (if y134.length + y138.length < 8796093022208 then (spec_l06Write.l0 k1 l1 (wrap64 (x5_1 + 1)) (x102000_1.set (((rd_T58 l1 x5_1).f0) : Int).toNat (y134 ++ y138)) (wrap64 (t106 + 1))) else (none)))) else (none)) = some (r1, r2) := by first | (rw [hy131]; with_reducible exact H) | (have H2_ := (Option.bind_some _ _).symm.trans H; rw [hy131]; with_reducible exact H2_) | (have H2_ := (Option.bind_some _ _).symm.trans H; with_reducible exact H2_) | with_reducible exact H | (rw [hy131]; exact H) | exact H
            have Ny131 := q73O hy131; clear hy131
            by_cases c45 : y131.length + (rd_L4 x102000_1 ((rd_T58 l1 x5_1).f0)).length < 8796093022208
            ·rw [if_pos c45] at H
             have LMc45 := q73O c45; clear c45; obtain ⟨y134, hy134⟩ : ∃ y_ : List (S43), y_ = (y131 ++ (rd_L4 x102000_1 ((rd_T58 l1 x5_1).f0))) := ⟨_, rfl⟩; replace H : ((some (([(⟨(wrap64 (t106 + 1)), (rd_T58 l1 x5_1).f1⟩ : S43)] : List (S43)) : List (S43))).bind fun y138 => (if y134.length + y138.length < 8796093022208 then (spec_l06Write.l0 k1 l1 (wrap64 (x5_1 + 1)) (x102000_1.set (((rd_T58 l1 x5_1).f0) : Int).toNat (y134 ++ y138)) (wrap64 (t106 + 1))) else (none))) = some (r1, r2) := by first | (rw [hy134]; with_reducible exact H) | (have H2_ := (Option.bind_some _ _).symm.trans H; rw [hy134]; with_reducible exact H2_) | (have H2_ := (Option.bind_some _ _).symm.trans H; with_reducible exact H2_) | with_reducible exact H | (rw [hy134]; exact H) | exact H
             have Ny134 := q73O hy134; clear hy134; obtain ⟨y138, hy138⟩ : ∃ y_ : List (S43), y_ = (([(⟨(wrap64 (t106 + 1)), (rd_T58 l1 x5_1).f1⟩ : S43)] : List (S43))) := ⟨_, rfl⟩; replace H : (if y134.length + y138.length < 8796093022208 then (spec_l06Write.l0 k1 l1 (wrap64 (x5_1 + 1)) (x102000_1.set (((rd_T58 l1 x5_1).f0) : Int).toNat (y134 ++ y138)) (wrap64 (t106 + 1))) else (none)) = some (r1, r2) := by first | (rw [hy138]; with_reducible exact H) | (have H2_ := (Option.bind_some _ _).symm.trans H; rw [hy138]; with_reducible exact H2_) | (have H2_ := (Option.bind_some _ _).symm.trans H; with_reducible exact H2_) | with_reducible exact H | (rw [hy138]; exact H) | exact H
             have Ny138 := q73O hy138; clear hy138
             by_cases c46 : y134.length + y138.length < 8796093022208
             ·rw [if_pos c46] at H
              have LMc46 := q73O c46; clear c46; obtain ⟨y141, hy141⟩ : ∃ y_ : List (S43), y_ = (y134 ++ y138) := ⟨_, rfl⟩; replace H : (spec_l06Write.l0 k1 l1 (wrap64 (x5_1 + 1)) (x102000_1.set (((rd_T58 l1 x5_1).f0) : Int).toNat y141) (wrap64 (t106 + 1))) = some (r1, r2) := by first | (rw [hy141]; with_reducible exact H) | (have H2_ := (Option.bind_some _ _).symm.trans H; rw [hy141]; with_reducible exact H2_) | (have H2_ := (Option.bind_some _ _).symm.trans H; with_reducible exact H2_) | with_reducible exact H | (rw [hy141]; exact H) | exact H
              have Ny141 := q73O hy141; clear hy141; obtain ⟨y144, hy144⟩ : ∃ y_ : List (List (S43)), y_ = (x102000_1.set (((rd_T58 l1 x5_1).f0) : Int).toNat y141) := ⟨_, rfl⟩; replace H : (spec_l06Write.l0 k1 l1 (wrap64 (x5_1 + 1)) y144 (wrap64 (t106 + 1))) = some (r1, r2) := by first | (rw [hy144]; with_reducible exact H) | (have H2_ := (Option.bind_some _ _).symm.trans H; rw [hy144]; with_reducible exact H2_) | (have H2_ := (Option.bind_some _ _).symm.trans H; with_reducible exact H2_) | with_reducible exact H | (rw [hy144]; exact H) | exact H
              have Ny144 := q73O hy144; clear hy144; have H' := q73O H; clear H
              try go_wp2
              replace HO_102000 := q73O (Kd.N_drew HO_102000.out); replace BK101 := q73O (q73kD BK101.out); replace BK102 := q73O (q73kD BK102.out); replace HB := q73O (q73bD HB.out); have p107 : 0 ≤ (x5_1 : Int) := q73T qa115; have q107 : x5_1 < (l1.length : Int) := q73T qa115; obtain ⟨ad107, e107, hx107_0, hx107_1⟩ := at_T58 HR1.out x5_1 p107 q107; have hw107_1 := hx107_1; have hw107_0 := hx107_0
              cases e107
              replace hx107_0 := (HB.out.cell (q73L w _ hx107_0)).trans hx107_0; replace hx107_1 := (HB.out.cell (q73L w _ hx107_1)).trans hx107_1; replace p107 := eq_true p107; replace q107 := eq_true q107; obtain ⟨Ao49, co49, eo49⟩ := Kd.N_slice HO_102000.out; (first | subst eo49 | (injection eo49 with f1_ f2_ f3_; have f4_ := f1_.symm; have f5_ := f3_.symm; clear f1_ f2_ f3_; subst f4_; subst f5_)); have p108 : 0 ≤ (((rd_T58 l1 x5_1).f0) : Int) := q73T qa115; have q108 : ((rd_T58 l1 x5_1).f0) < (x102000_1.length : Int) := q73T qa115; obtain ⟨ad108, A108_0, c108_0, e108, hx108_0, hl108_0, hi108_0⟩ := at_L4 (Kd.N_reads' HO_102000.out).2.2 ((rd_T58 l1 x5_1).f0) p108 q108
              cases e108
              obtain ⟨ce108, hce108, hMe108, hcc108⟩ := Kd.N_get HO_102000.out [] ((rd_T58 l1 x5_1).f0) p108 qa149; obtain ⟨ua108_0, uc108_0, rfl, ul108_0, ge108_0⟩ := Kd.FK_slice_open hMe108; have hv108_0 := hcc108 0 _ rfl; rw [Nat.add_zero, show ((Kd.slice 43 k43)).sz = 1 from rfl, Nat.mul_one] at hv108_0; replace hv108_0 := Option.some.inj (hv108_0.symm.trans hx108_0); injection hv108_0 with hva_ hvn_ hvc_; rw [hva_] at ge108_0; rw [hvc_] at ul108_0; have HL108_0 := q73O (show Kd.V k43 43 _ w.heap.size _ _ (rd_L4 x102000_1 ((rd_T58 l1 x5_1).f0)) from Kd.V_mk ul108_0 ge108_0); clear hva_ hvn_ hvc_ ge108_0 ul108_0 hcc108 hce108; have HR108_0 := q73O hi108_0; have HC108_0 := q73O hl108_0; clear hi108_0 hl108_0; replace p108 := eq_true p108; replace q108 := eq_true q108; refine start_ (n := 10) (S := fun w' => w'.cell? ⟨gb101, 0, none⟩ = some (.slice (some ad108) x102000_1.length co49) ∧ w'.cell? ⟨gb101, 1, none⟩ = some (.int .i64 (wrap64 (t106 + 1))) ∧ w'.cell? (ad107.add ((x5_1).toNat * 2)) = some (.int .i64 ((rd_T58 l1 x5_1).f0)) ∧ w'.cell? ⟨(ad107.add ((x5_1).toNat * 2)).block, (ad107.add ((x5_1).toNat * 2)).off + 1, none⟩ = some (.int .i64 ((rd_T58 l1 x5_1).f1)) ∧ w'.cell? (ad108.add (((rd_T58 l1 x5_1).f0)).toNat) = some (.slice A108_0 (rd_L4 x102000_1 ((rd_T58 l1 x5_1).f0)).length c108_0)) (ds := []) q73y0 qa5 rfl rfl ⟨qc0 BK101.out, qc1 BK101.out, ((HB.out.cell (q73L w _ hw107_0)).trans hw107_0), ((HB.out.cell (q73L w _ hw107_1)).trans hw107_1), hx108_0⟩ (fun hHeld => ?_); refine with_tabW spec_l06Write.tab8 spec_l06Write.bits8 (fun HT_ HW_ => ?_); generalize wr.drew = w48 at HO_102000 BK101 BK102 HB HL108_0 HR108_0 hx107_0 hx107_1 hx108_0 hHeld ⊢; refine pure_ (i := 0) (N := some 23) (v := ?_) (a' := ?_) q73y1 rfl rfl (any_of HT_.out qa5) (fun _ _ _ h => h) (Or.inl ⟨by rfl, ?_⟩) ?_ ?_; rotate_left
              ·intro w'
               go_simp; (with_reducible rfl)
              rotate_left
              ·simp only [Act.put, q73zA, q73zB, q73zC, i64_w, i32_w]
               rfl
              refine pure_ (i := 2) (N := some 25) (v := ?_) (a' := ?_) q73y2 rfl rfl (any_of HT_.out qa5) (fun _ _ _ h => h) (Or.inl ⟨by rfl, ?_⟩) ?_ ?_; rotate_left
              ·intro w'
               go_simp; (with_reducible rfl)
              rotate_left
              ·simp only [Act.put, q73zA, q73zB, q73zC, i64_w, i32_w]
               rfl
              refine pure_ (i := 3) (N := some 26) (v := ?_) (a' := ?_) q73y3 rfl rfl (any_of HT_.out qa5) (fun _ _ _ h => h) (Or.inl ⟨by rfl, ?_⟩) ?_ ?_; rotate_left
              ·intro w'
               go_simp; (with_reducible rfl)
              rotate_left
              ·simp only [Act.put, q73zA, q73zB, q73zC, i64_w, i32_w]
               rfl
              refine pure_ (i := 4) (N := some 27) (v := ?_) (a' := ?_) q73y4 rfl rfl (any_of HT_.out qa5) (fun _ _ _ h => h) (Or.inl ⟨by rfl, ?_⟩) ?_ ?_; rotate_left
              ·intro w'
               go_simp; (with_reducible rfl)
              rotate_left
              ·simp only [Act.put, q73zA, q73zB, q73zC, i64_w, i32_w]
               rfl
              refine pure_ (i := 5) (N := some 28) (v := ?_) (a' := ?_) q73y5 rfl rfl (any_of HT_.out qa5) (fun _ _ _ h => h) (Or.inl ⟨by rfl, ?_⟩) ?_ ?_; rotate_left
              ·intro w'
               go_simp; (with_reducible rfl)
              rotate_left
              ·simp only [Act.put, q73zA, q73zB, q73zC, i64_w, i32_w]
               rfl
              refine take_ (i := 1) (N := some 24) (v := ?_) (a' := ?_) q73y6 rfl rfl (take_ofW HT_.out HW_.out qa5) (fun _ _ _ h => h) (Or.inl ⟨by rfl, ?_⟩) hHeld ?_ ?_; rotate_left
              ·rintro w' ⟨s0, s1, s2, s3, s4⟩
               go_simp; (with_reducible rfl)
              rotate_left
              ·simp only [Act.put, q73zA, q73zB, q73zC, i64_w, i32_w]
               rfl
              refine take_ (i := 6) (N := some 29) (v := ?_) (a' := ?_) q73y7 rfl rfl (take_ofW HT_.out HW_.out qa5) (fun _ _ _ h => h) (Or.inl ⟨by rfl, ?_⟩) hHeld ?_ ?_; rotate_left
              ·rintro w' ⟨s0, s1, s2, s3, s4⟩
               go_simp; (with_reducible rfl)
              rotate_left
              ·simp only [Act.put, q73zA, q73zB, q73zC, i64_w, i32_w]
               rfl
              refine pure_ (i := 7) (N := some 30) (v := ?_) (a' := ?_) q73y8 rfl rfl (any_of HT_.out qa5) (fun _ _ _ h => h) (Or.inl ⟨by rfl, ?_⟩) ?_ ?_; rotate_left
              ·intro w'
               go_simp; (with_reducible rfl)
              rotate_left
              ·simp only [Act.put, q73zA, q73zB, q73zC, i64_w, i32_w]
               rfl
              refine take_ (i := 8) (N := some 31) (v := ?_) (a' := ?_) q73y9 rfl rfl (take_ofW HT_.out HW_.out qa5) (fun _ _ _ h => h) (Or.inl ⟨by rfl, ?_⟩) hHeld ?_ ?_; rotate_left
              ·rintro w' ⟨s0, s1, s2, s3, s4⟩
               go_simp; (with_reducible rfl)
              rotate_left
              ·simp only [Act.put, q73zA, q73zB, q73zC, i64_w, i32_w]
               rfl
              refine pure_ (i := 9) (N := some 6) (v := ?_) (a' := ?_) q73y10 rfl rfl (any_of HT_.out qa5) (fun _ _ _ h => h) (Or.inl ⟨by rfl, ?_⟩) ?_ ?_; rotate_left
              ·intro w'
               go_simp; (with_reducible rfl)
              rotate_left
              ·simp only [Act.put, q73zA, q73zB, q73zC, i64_w, i32_w]
               rfl
              refine done_ (done_of HT_.out qa5) ?_
              try go_wp2
              replace HO_102000 := q73O (Kd.N_drew HO_102000.out); replace HL108_0 := q73O (Kd.V_drew HL108_0.out); replace BK101 := q73O (q73kD BK101.out); replace BK102 := q73O (q73kD BK102.out); replace HR108_0 := q73O (Kd.C_drew HR108_0.out); replace HB := q73O (q73bD HB.out); have p109 : 0 ≤ ((ji22) : Int) := q73T qa115; have q109 : (ji22) < ((rd_L4 x102000_1 ((rd_T58 l1 x5_1).f0)).length : Int) := q73T qa115; obtain ⟨ad109, e109, hx109_0, hx109_1⟩ := at_T43 qa27 (ji22) p109 q109
              cases e109
              replace p109 := eq_true p109; replace q109 := eq_true q109; refine start_ (n := 15) (S := fun w' => w'.cell? ⟨gb101, 0, none⟩ = some (.slice (some ad108) x102000_1.length co49) ∧ w'.cell? ⟨gb101, 1, none⟩ = some (.int .i64 (wrap64 (t106 + 1))) ∧ w'.cell? (ad109.add (((ji22)).toNat * 2)) = some (.int .i64 ((rd_T43 (rd_L4 x102000_1 ((rd_T58 l1 x5_1).f0)) (ji22)).f0)) ∧ w'.cell? ⟨(ad109.add (((ji22)).toNat * 2)).block, (ad109.add (((ji22)).toNat * 2)).off + 1, none⟩ = some (.int .i64 ((rd_T43 (rd_L4 x102000_1 ((rd_T58 l1 x5_1).f0)) (ji22)).f1))) (ds := []) q73y11 qa5 rfl rfl ⟨qc0 BK101.out, qc1 BK101.out, hx109_0, hx109_1⟩ (fun hHeld => ?_); refine with_tabW spec_l06Write.tab9 spec_l06Write.bits9 (fun HT_ HW_ => ?_); generalize w48.drew = w50 at HO_102000 HL108_0 BK101 BK102 HR108_0 HB hx109_0 hx109_1 hHeld ⊢; refine pure_ (i := 0) (N := some 32) (v := ?_) (a' := ?_) q73y12 rfl rfl (any_of HT_.out qa5) (fun _ _ _ h => h) (Or.inl ⟨by rfl, ?_⟩) ?_ ?_; rotate_left
              ·intro w'
               go_simp; (with_reducible rfl)
              rotate_left
              ·simp only [Act.put, q73zA, q73zB, q73zC, i64_w, i32_w]
               rfl
              refine pure_ (i := 1) (N := some 33) (v := ?_) (a' := ?_) q73y13 rfl rfl (any_of HT_.out qa5) (fun _ _ _ h => h) (Or.inl ⟨by rfl, ?_⟩) ?_ ?_; rotate_left
              ·intro w'
               go_simp; (with_reducible rfl)
              rotate_left
              ·simp only [Act.put, q73zA, q73zB, q73zC, i64_w, i32_w]
               rfl
              refine pure_ (i := 2) (N := some 34) (v := ?_) (a' := ?_) q73y14 rfl rfl (any_of HT_.out qa5) (fun _ _ _ h => h) (Or.inl ⟨by rfl, ?_⟩) ?_ ?_; rotate_left
              ·intro w'
               go_simp; (with_reducible rfl)
              rotate_left
              ·simp only [Act.put, q73zA, q73zB, q73zC, i64_w, i32_w]
               rfl
              refine pure_ (i := 3) (N := some 35) (v := ?_) (a' := ?_) q73y15 rfl rfl (any_of HT_.out qa5) (fun _ _ _ h => h) (Or.inl ⟨by rfl, ?_⟩) ?_ ?_; rotate_left
              ·intro w'
               go_simp; (with_reducible rfl)
              rotate_left
              ·simp only [Act.put, q73zA, q73zB, q73zC, i64_w, i32_w]
               rfl
              refine pure_ (i := 4) (N := some 36) (v := ?_) (a' := ?_) q73y16 rfl rfl (any_of HT_.out qa5) (fun _ _ _ h => h) (Or.inl ⟨by rfl, ?_⟩) ?_ ?_; rotate_left
              ·intro w'
               go_simp; (with_reducible rfl)
              rotate_left
              ·simp only [Act.put, q73zA, q73zB, q73zC, i64_w, i32_w]
               rfl
              refine pure_ (i := 5) (N := some 37) (v := ?_) (a' := ?_) q73y17 rfl rfl (any_of HT_.out qa5) (fun _ _ _ h => h) (Or.inl ⟨by rfl, ?_⟩) ?_ ?_; rotate_left
              ·intro w'
               go_simp; (with_reducible rfl)
              rotate_left
              ·simp only [Act.put, q73zA, q73zB, q73zC, i64_w, i32_w]
               rfl
              refine pure_ (i := 6) (N := some 38) (v := ?_) (a' := ?_) q73y18 rfl rfl (any_of HT_.out qa5) (fun _ _ _ h => h) (Or.inl ⟨by rfl, ?_⟩) ?_ ?_; rotate_left
              ·intro w'
               go_simp; (with_reducible rfl)
              rotate_left
              ·simp only [Act.put, q73zA, q73zB, q73zC, i64_w, i32_w]
               rfl
              refine pure_ (i := 7) (N := some 39) (v := ?_) (a' := ?_) q73y19 rfl rfl (any_of HT_.out qa5) (fun _ _ _ h => h) (Or.inl ⟨by rfl, ?_⟩) ?_ ?_; rotate_left
              ·intro w'
               go_simp; (with_reducible rfl)
              rotate_left
              ·simp only [Act.put, q73zA, q73zB, q73zC, i64_w, i32_w]
               rfl
              refine pure_ (i := 8) (N := some 40) (v := ?_) (a' := ?_) q73y20 rfl rfl (any_of HT_.out qa5) (fun _ _ _ h => h) (Or.inl ⟨by rfl, ?_⟩) ?_ ?_; rotate_left
              ·intro w'
               go_simp; (with_reducible rfl)
              rotate_left
              ·simp only [Act.put, q73zA, q73zB, q73zC, i64_w, i32_w]
               rfl
              refine pure_ (i := 9) (N := some 41) (v := ?_) (a' := ?_) q73y21 rfl rfl (any_of HT_.out qa5) (fun _ _ _ h => h) (Or.inl ⟨by rfl, ?_⟩) ?_ ?_; rotate_left
              ·intro w'
               go_simp; (with_reducible rfl)
              rotate_left
              ·simp only [Act.put, q73zA, q73zB, q73zC, i64_w, i32_w]
               rfl
              refine pure_ (i := 11) (N := some 43) (v := ?_) (a' := ?_) q73y22 rfl rfl (any_of HT_.out qa5) (fun _ _ _ h => h) (Or.inl ⟨by rfl, ?_⟩) ?_ ?_; rotate_left
              ·intro w'
               go_simp; (with_reducible rfl)
              rotate_left
              ·simp only [Act.put, q73zA, q73zB, q73zC, i64_w, i32_w]
               rfl
              refine take_ (i := 10) (N := some 42) (v := ?_) (a' := ?_) q73y23 rfl rfl (take_ofW HT_.out HW_.out qa5) (fun _ _ _ h => h) (Or.inl ⟨by rfl, ?_⟩) hHeld ?_ ?_; rotate_left
              ·rintro w' ⟨s0, s1, s2, s3⟩
               go_simp; (with_reducible rfl)
              rotate_left
              ·simp only [Act.put, q73zA, q73zB, q73zC, i64_w, i32_w]
               rfl
              refine take_ (i := 12) (N := some 44) (v := ?_) (a' := ?_) q73y24 rfl rfl (take_ofW HT_.out HW_.out qa5) (fun _ _ _ h => h) (Or.inl ⟨by rfl, ?_⟩) hHeld ?_ ?_; rotate_left
              ·rintro w' ⟨s0, s1, s2, s3⟩
               go_simp; (with_reducible rfl)
              rotate_left
              ·simp only [Act.put, q73zA, q73zB, q73zC, i64_w, i32_w]
               rfl
              refine pure_ (i := 13) (N := some 45) (v := ?_) (a' := ?_) q73y25 rfl rfl (any_of HT_.out qa5) (fun _ _ _ h => h) (Or.inl ⟨by rfl, ?_⟩) ?_ ?_; rotate_left
              ·intro w'
               go_simp; (with_reducible rfl)
              rotate_left
              ·simp only [Act.put, q73zA, q73zB, q73zC, i64_w, i32_w]
               rfl
              refine pure_ (i := 14) (N := some 46) (v := ?_) (a' := ?_) q73y26 rfl rfl (any_of HT_.out qa5) (fun _ _ _ h => h) (Or.inl ⟨by rfl, ?_⟩) ?_ ?_; rotate_left
              ·intro w'
               go_simp; (with_reducible rfl)
              rotate_left
              ·simp only [Act.put, q73zA, q73zB, q73zC, i64_w, i32_w]
               rfl
              refine done_ (done_of HT_.out qa5) ?_
              try go_wp2
              replace HO_102000 := q73O (Kd.N_drew HO_102000.out); replace HL108_0 := q73O (Kd.V_drew HL108_0.out); replace BK101 := q73O (q73kD BK101.out); replace BK102 := q73O (q73kD BK102.out); replace HR108_0 := q73O (Kd.C_drew HR108_0.out); replace HB := q73O (q73bD HB.out); have p130 : 0 ≤ (x5_1 : Int) := q73T qa115; have q130 : x5_1 < (l1.length : Int) := q73T qa115; obtain ⟨ad130, e130, hx130_0, hx130_1⟩ := at_T58 HR1.out x5_1 p130 q130; have hw130_1 := hx130_1; have hw130_0 := hx130_0; obtain rfl : ad107 = ad130 := (by injection e130); replace hx130_0 := (HB.out.cell (q73L w _ hx130_0)).trans hx130_0; replace hx130_1 := (HB.out.cell (q73L w _ hx130_1)).trans hx130_1; replace p130 := eq_true p130; replace q130 := eq_true q130; have p137 : 0 ≤ (x5_1 : Int) := q73T qa115; have q137 : x5_1 < (l1.length : Int) := q73T qa115; obtain ⟨ad137, e137, hx137_0, hx137_1⟩ := at_T58 HR1.out x5_1 p137 q137; have hw137_1 := hx137_1; have hw137_0 := hx137_0; obtain rfl : ad107 = ad137 := (by injection e137); replace hx137_0 := (HB.out.cell (q73L w _ hx137_0)).trans hx137_0; replace hx137_1 := (HB.out.cell (q73L w _ hx137_1)).trans hx137_1; replace p137 := eq_true p137; replace q137 := eq_true q137; refine start_ (n := 22) (S := fun w' => w'.cell? ⟨gb101, 0, none⟩ = some (.slice (some ad108) x102000_1.length co49) ∧ w'.cell? ⟨gb101, 1, none⟩ = some (.int .i64 (wrap64 (t106 + 1))) ∧ w'.cell? (ad107.add ((x5_1).toNat * 2)) = some (.int .i64 ((rd_T58 l1 x5_1).f0)) ∧ w'.cell? ⟨(ad107.add ((x5_1).toNat * 2)).block, (ad107.add ((x5_1).toNat * 2)).off + 1, none⟩ = some (.int .i64 ((rd_T58 l1 x5_1).f1)) ∧ w'.cell? (ad107.add ((x5_1).toNat * 2)) = some (.int .i64 ((rd_T58 l1 x5_1).f0)) ∧ w'.cell? ⟨(ad107.add ((x5_1).toNat * 2)).block, (ad107.add ((x5_1).toNat * 2)).off + 1, none⟩ = some (.int .i64 ((rd_T58 l1 x5_1).f1))) (ds := [21]) q73y27 qa5 rfl rfl ⟨qc0 BK101.out, qc1 BK101.out, ((HB.out.cell (q73L w _ hw130_0)).trans hw130_0), ((HB.out.cell (q73L w _ hw130_1)).trans hw130_1), ((HB.out.cell (q73L w _ hw137_0)).trans hw137_0), ((HB.out.cell (q73L w _ hw137_1)).trans hw137_1)⟩ (fun hHeld => ?_); refine with_tabW spec_l06Write.tab11 spec_l06Write.bits11 (fun HT_ HW_ => ?_); generalize w50.drew = w51 at HO_102000 HL108_0 BK101 BK102 HR108_0 HB hx130_0 hx130_1 hx137_0 hx137_1 hHeld ⊢; refine pure_ (i := 0) (N := some 52) (v := ?_) (a' := ?_) q73y28 rfl rfl (any_of HT_.out qa5) (fun _ _ _ h => h) (Or.inl ⟨by rfl, ?_⟩) ?_ ?_; rotate_left
              ·intro w'
               go_simp; (with_reducible rfl)
              rotate_left
              ·simp only [Act.put, q73zA, q73zB, q73zC, i64_w, i32_w]
               rfl
              refine pure_ (i := 2) (N := some 54) (v := ?_) (a' := ?_) q73y29 rfl rfl (any_of HT_.out qa5) (fun _ _ _ h => h) (Or.inl ⟨by rfl, ?_⟩) ?_ ?_; rotate_left
              ·intro w'
               go_simp; (with_reducible rfl)
              rotate_left
              ·simp only [Act.put, q73zA, q73zB, q73zC, i64_w, i32_w]
               rfl
              refine pure_ (i := 3) (N := some 55) (v := ?_) (a' := ?_) q73y30 rfl rfl (any_of HT_.out qa5) (fun _ _ _ h => h) (Or.inl ⟨by rfl, ?_⟩) ?_ ?_; rotate_left
              ·intro w'
               go_simp; (with_reducible rfl)
              rotate_left
              ·simp only [Act.put, q73zA, q73zB, q73zC, i64_w, i32_w]
               rfl
              refine pure_ (i := 4) (N := some 56) (v := ?_) (a' := ?_) q73y31 rfl rfl (any_of HT_.out qa5) (fun _ _ _ h => h) (Or.inl ⟨by rfl, ?_⟩) ?_ ?_; rotate_left
              ·intro w'
               go_simp; (with_reducible rfl)
              rotate_left
              ·simp only [Act.put, q73zA, q73zB, q73zC, i64_w, i32_w]
               rfl
              refine pure_ (i := 5) (N := some 57) (v := ?_) (a' := ?_) q73y32 rfl rfl (any_of HT_.out qa5) (fun _ _ _ h => h) (Or.inl ⟨by rfl, ?_⟩) ?_ ?_; rotate_left
              ·intro w'
               go_simp; (with_reducible rfl)
              rotate_left
              ·simp only [Act.put, q73zA, q73zB, q73zC, i64_w, i32_w]
               rfl
              refine pure_ (i := 8) (N := some 60) (v := ?_) (a' := ?_) q73y33 rfl rfl (any_of HT_.out qa5) (fun _ _ _ h => h) (Or.inl ⟨by rfl, ?_⟩) ?_ ?_; rotate_left
              ·intro w'
               go_simp; (with_reducible rfl)
              rotate_left
              ·simp only [Act.put, q73zA, q73zB, q73zC, i64_w, i32_w]
               rfl
              refine pure_ (i := 10) (N := some 62) (v := ?_) (a' := ?_) q73y34 rfl rfl (any_of HT_.out qa5) (fun _ _ _ h => h) (Or.inl ⟨by rfl, ?_⟩) ?_ ?_; rotate_left
              ·intro w'
               go_simp; (with_reducible rfl)
              rotate_left
              ·simp only [Act.put, q73zA, q73zB, q73zC, i64_w, i32_w]
               rfl
              refine pure_ (i := 12) (N := some 64) (v := ?_) (a' := ?_) q73y35 rfl rfl (any_of HT_.out qa5) (fun _ _ _ h => h) (Or.inl ⟨by rfl, ?_⟩) ?_ ?_; rotate_left
              ·intro w'
               go_simp; (with_reducible rfl)
              rotate_left
              ·simp only [Act.put, q73zA, q73zB, q73zC, i64_w, i32_w]
               rfl
              refine pure_ (i := 13) (N := some 65) (v := ?_) (a' := ?_) q73y36 rfl rfl (any_of HT_.out qa5) (fun _ _ _ h => h) (Or.inl ⟨by rfl, ?_⟩) ?_ ?_; rotate_left
              ·intro w'
               go_simp; (with_reducible rfl)
              rotate_left
              ·simp only [Act.put, q73zA, q73zB, q73zC, i64_w, i32_w]
               rfl
              refine pure_ (i := 14) (N := some 66) (v := ?_) (a' := ?_) q73y37 rfl rfl (any_of HT_.out qa5) (fun _ _ _ h => h) (Or.inl ⟨by rfl, ?_⟩) ?_ ?_; rotate_left
              ·intro w'
               go_simp; (with_reducible rfl)
              rotate_left
              ·simp only [Act.put, q73zA, q73zB, q73zC, i64_w, i32_w]
               rfl
              refine pure_ (i := 15) (N := some 67) (v := ?_) (a' := ?_) q73y38 rfl rfl (any_of HT_.out qa5) (fun _ _ _ h => h) (Or.inl ⟨by rfl, ?_⟩) ?_ ?_; rotate_left
              ·intro w'
               go_simp; (with_reducible rfl)
              rotate_left
              ·simp only [Act.put, q73zA, q73zB, q73zC, i64_w, i32_w]
               rfl
              refine take_ (i := 1) (N := some 53) (v := ?_) (a' := ?_) q73y39 rfl rfl (take_ofW HT_.out HW_.out qa5) (fun _ _ _ h => h) (Or.inl ⟨by rfl, ?_⟩) hHeld ?_ ?_; rotate_left
              ·rintro w' ⟨s0, s1, s2, s3, s4, s5⟩
               go_simp; (with_reducible rfl)
              rotate_left
              ·simp only [Act.put, q73zA, q73zB, q73zC, i64_w, i32_w]
               rfl
              refine take_ (i := 6) (N := some 58) (v := ?_) (a' := ?_) q73y40 rfl rfl (take_ofW HT_.out HW_.out qa5) (fun _ _ _ h => h) (Or.inl ⟨by rfl, ?_⟩) hHeld ?_ ?_; rotate_left
              ·rintro w' ⟨s0, s1, s2, s3, s4, s5⟩
               go_simp; (with_reducible rfl)
              rotate_left
              ·simp only [Act.put, q73zA, q73zB, q73zC, i64_w, i32_w]
               rfl
              refine take_ (i := 11) (N := some 63) (v := ?_) (a' := ?_) q73y41 rfl rfl (take_ofW HT_.out HW_.out qa5) (fun _ _ _ h => h) (Or.inl ⟨by rfl, ?_⟩) hHeld ?_ ?_; rotate_left
              ·rintro w' ⟨s0, s1, s2, s3, s4, s5⟩
               go_simp; (with_reducible rfl)
              rotate_left
              ·simp only [Act.put, q73zA, q73zB, q73zC, i64_w, i32_w]
               rfl
              refine take_ (i := 16) (N := some 68) (v := ?_) (a' := ?_) q73y42 rfl rfl (take_ofW HT_.out HW_.out qa5) (fun _ _ _ h => h) (Or.inl ⟨by rfl, ?_⟩) hHeld ?_ ?_; rotate_left
              ·rintro w' ⟨s0, s1, s2, s3, s4, s5⟩
               go_simp; (with_reducible rfl)
              rotate_left
              ·simp only [Act.put, q73zA, q73zB, q73zC, i64_w, i32_w]
               rfl
              refine pure_ (i := 17) (N := some 69) (v := ?_) (a' := ?_) q73y43 rfl rfl (any_of HT_.out qa5) (fun _ _ _ h => h) (Or.inl ⟨by rfl, ?_⟩) ?_ ?_; rotate_left
              ·intro w'
               go_simp; (with_reducible rfl)
              rotate_left
              ·simp only [Act.put, q73zA, q73zB, q73zC, i64_w, i32_w]
               rfl
              refine join_ (σ := Value × Value × Value) 3 q73y44 (fun s_ => [(59, s_.1), (61, s_.2.1), (70, s_.2.2)]) (fun s_ w' => (w'.cell? ⟨gb101, 0, none⟩ = some (.slice (some ad108) x102000_1.length co49) ∧ w'.cell? ⟨gb101, 1, none⟩ = some (.int .i64 (wrap64 (t106 + 1))) ∧ w'.cell? (ad107.add ((x5_1).toNat * 2)) = some (.int .i64 ((rd_T58 l1 x5_1).f0)) ∧ w'.cell? ⟨(ad107.add ((x5_1).toNat * 2)).block, (ad107.add ((x5_1).toNat * 2)).off + 1, none⟩ = some (.int .i64 ((rd_T58 l1 x5_1).f1)) ∧ w'.cell? (ad107.add ((x5_1).toNat * 2)) = some (.int .i64 ((rd_T58 l1 x5_1).f0)) ∧ w'.cell? ⟨(ad107.add ((x5_1).toNat * 2)).block, (ad107.add ((x5_1).toNat * 2)).off + 1, none⟩ = some (.int .i64 ((rd_T58 l1 x5_1).f1))) ∧ (Kd.V k43 43 w' w.heap.size (fun k_ => (P0_0_ k_ ∨ w.heap.size ≤ k_) ∧ some k_ ≠ (s_.2.1 : Value).ownBlock ∧ some k_ ≠ (s_.2.2 : Value).ownBlock ∧ some k_ ≠ (.slice (some ad108) x102000_1.length co49 : Value).ownBlock ∧ k_ ≠ gb101 ∧ k_ ≠ gb102) (.slice (some ad109) (rd_L4 x102000_1 ((rd_T58 l1 x5_1).f0)).length c108_0) (rd_L4 x102000_1 ((rd_T58 l1 x5_1).f0))) ∧ (Kd.R k43 43 w' w.heap.size (fun k_ => (w.heap.size ≤ k_) ∧ some k_ ≠ (s_.2.2 : Value).ownBlock) s_.2.1 y134) ∧ (Kd.R k43 43 w' w.heap.size (fun k_ => (w.heap.size ≤ k_) ∧ some k_ ≠ (s_.2.1 : Value).ownBlock) s_.2.2 y138) ∧ (Kd.N (Kd.slice 43 k43) 41 w' w.heap.size (fun k_ => (P0_0_ k_ ∨ w.heap.size ≤ k_) ∧ some k_ ≠ (s_.2.1 : Value).ownBlock ∧ some k_ ≠ (s_.2.2 : Value).ownBlock ∧ k_ ≠ gb101 ∧ k_ ≠ gb102) (.slice (some ad108) x102000_1.length co49) x102000_1) ∧ (w'.heap[gb101]? = some (.cells #[.slice (some ad108) x102000_1.length co49, .int .i64 (wrap64 (t106 + 1))] 28 (0, 0))) ∧ (w'.heap[gb102]? = some (.cells #[.slice none 0 0, .int .i64 0] 28 (0, 0))) ∧ (Below w.heap.size w w')) ?_ ?_; rotate_left
              ·intro hCont
               refine two_ (i := 7) (j := 18) (Ni := some 59) (Nj := some 70) q73y45 q73y46 rfl rfl rfl rfl (two_of HT_.out qa5) qa51 qa51 (fun K hK => ?_) (fun K hK => ?_)
               ·skip
                refine Kd.R_lit_step k43 _ 43 ?hg (N := 59) ?hd (xs := ([] : List (S43))) (inner := []) (ok := fun _ => True) (okp := fun _ => True) ?hr ?hp (fun _ hk => hk) trivial (Below.refl _ _) (Nat.le_refl _) qa117 ?_; (case hd => rfl); (case hg => rfl); (case hr => exact qa10); (case hp => exact qa190); intro v132 w52 ho53 hb hg_ hnew_; clear hg_ hnew_; (first | rw [← Ny131.out] at ho53 | (simp only [Int.reduceToNat] at ho53; rw [← Ny131.out] at ho53)); have HO133 := q73O (Kd.R_lower (Kd.R_newM (M := fun k_ => (w.heap.size ≤ k_)) ho53 (below_size qa6) (fun k_ h_ => h_)) (below_size qa6)); replace HO_102000 := q73O (Kd.N_elder' qa41 (Kd.R_base ho53) hb); replace HL108_0 := q73O (Kd.V_elder' qa47 (Kd.R_base ho53) hb); replace BK101 := q73O (blk_below (g := gb101) (o := .cells #[.slice (some ad108) x102000_1.length co49, .int .i64 (wrap64 (t106 + 1))] 28 (0, 0)) qa21 hb); replace BK102 := q73O (blk_below (g := gb102) (o := .cells #[.slice none 0 0, .int .i64 0] 28 (0, 0)) qa23 hb); replace HR108_0 := q73O (Kd.C_below qa27 hb); replace HB := q73O (below_step qa6 hb); clear hb ho53; refine hK.out _ _ ⟨qc0 BK101.out, qc1 BK101.out, ((HB.out.cell (q73L w _ hw130_0)).trans hw130_0), ((HB.out.cell (q73L w _ hw130_1)).trans hw130_1), ((HB.out.cell (q73L w _ hw137_0)).trans hw137_0), ((HB.out.cell (q73L w _ hw137_1)).trans hw137_1)⟩ (fun hHeld => ?_); clear hK K; refine norm_ (a' := ?_) ?_ ?_; rotate_left
                ·exact qa24
                refine two_ (i := 9) (j := 18) (Ni := some 61) (Nj := some 70) q73y47 q73y48 rfl rfl rfl rfl (two_of HT_.out qa5) qa51 qa51 (fun K hK => ?_) (fun K hK => ?_)
                ·skip
                 refine Kd.R_append_rows_step k43 (w0 := w) w.heap.size (by rfl) (.tmp 59) (.tmp 60) 41 43 (.agg #[(.int .i64 0), (.int .i64 0)]) 16 rfl Try.underlying41 info43 rfl qa51 qa29 v132 y131 (rd_L4 x102000_1 ((rd_T58 l1 x5_1).f0)) _ _ _ (fun k_ => (w.heap.size ≤ k_)) (fun _ => False) rfl rfl ?aO ?aR (fun _ _ h => h) (fun _ h => h.elim) ?aF ?aB ?aS ?aL ?_; (case aR => exact qa44); (case aB => exact qa40); (case aF => exact qa89); (case aO => exact (by (with_reducible repeat (first | apply Kd.R_alloc | apply Kd.R_drewN | apply Kd.R_drew)); exact Kd.R_mono HO133.out (fun _ hk => hk.1))); (case aS => exact qa32); (case aL => have := LMc45.out; omega); intro v135 w54 ho hb hg hat; rw [← Ny134.out] at ho; have n0_ := q73O (Kd.N_afterv (ok := (fun k_ => (P0_0_ k_ ∨ w.heap.size ≤ k_) ∧ k_ ≠ gb101 ∧ k_ ≠ gb102)) qa41 hg hat); have n1_ := q73O (blk_grown (g := gb101) (o := .cells #[.slice (some ad108) x102000_1.length co49, .int .i64 (wrap64 (t106 + 1))] 28 (0, 0)) qa21 hg (Kd.R_ne HO133.out BK101.out qa51)); have n2_ := q73O (blk_grown (g := gb102) (o := .cells #[.slice none 0 0, .int .i64 0] 28 (0, 0)) qa23 hg (Kd.R_ne HO133.out BK102.out qa51)); have n3_ := q73O (Kd.V_afterv (ok := (fun k_ => (P0_0_ k_ ∨ w.heap.size ≤ k_) ∧ some k_ ≠ (.slice (some ad108) x102000_1.length co49 : Value).ownBlock ∧ k_ ≠ gb101 ∧ k_ ≠ gb102)) qa108 hg hat); have n4_ := q73O (hb); have n5_ := q73O (ho); clear HO_102000 BK101 BK102 HL108_0 HB HO133; have HO_102000 := n0_; have BK101 := n1_; have BK102 := n2_; have HL108_0 := n3_; have HB := n4_; have HO136 := n5_; clear n0_ n1_ n2_ n3_ n4_ n5_ ho hb hg hat; refine hK.out _ _ ⟨qc0 BK101.out, qc1 BK101.out, ((HB.out.cell (q73L w _ hw130_0)).trans hw130_0), ((HB.out.cell (q73L w _ hw130_1)).trans hw130_1), ((HB.out.cell (q73L w _ hw137_0)).trans hw137_0), ((HB.out.cell (q73L w _ hw137_1)).trans hw137_1)⟩ (fun hHeld => ?_); clear hK K; refine norm_ (a' := ?_) ?_ ?_; rotate_left
                 ·exact qa24
                 refine one_ (i := 18) (N := some 70) q73y44 rfl rfl (one_of HT_.out qa5) qa51 (fun K hK => ?_); refine Kd.R_lit_step k43 _ 43 ?hg (N := 70) ?hd (xs := ([(⟨(wrap64 (t106 + 1)), (rd_T58 l1 x5_1).f1⟩ : S43)] : List (S43))) (inner := [.int .i64 (wrap64 (t106 + 1)), .int .i64 ((rd_T58 l1 x5_1).f1)]) (ok := fun _ => True) (okp := fun _ => True) ?hr ?hp (fun _ hk => hk) trivial (Below.refl _ _) (Nat.le_refl _) qa117 ?_; (case hd => rfl); (case hg => rfl); (case hr => exact qa10); (case hp => exact qa36); intro v139 w55 ho56 hb hg_ hnew_; clear hg_ hnew_; (first | rw [← Ny138.out] at ho56 | (simp only [Int.reduceToNat] at ho56; rw [← Ny138.out] at ho56)); have HO140 := q73O (Kd.R_lower (Kd.R_new' (Kd.R_newM (M := fun k_ => (w.heap.size ≤ k_)) ho56 (below_size qa6) (fun k_ h_ => h_)) (Kd.R_lt qa172)) (below_size qa6)); replace HO_102000 := q73O (Kd.N_elder' qa41 (Kd.R_base ho56) hb); replace HL108_0 := q73O (Kd.V_elder' qa47 (Kd.R_base ho56) hb); replace HO136 := q73O (Kd.R_elder' qa172 (Kd.R_base ho56) hb); replace BK101 := q73O (blk_below (g := gb101) (o := .cells #[.slice (some ad108) x102000_1.length co49, .int .i64 (wrap64 (t106 + 1))] 28 (0, 0)) qa21 hb); replace BK102 := q73O (blk_below (g := gb102) (o := .cells #[.slice none 0 0, .int .i64 0] 28 (0, 0)) qa23 hb); replace HB := q73O (below_step qa6 hb); clear hb ho56; refine hK.out _ _ ⟨qc0 BK101.out, qc1 BK101.out, ((HB.out.cell (q73L w _ hw130_0)).trans hw130_0), ((HB.out.cell (q73L w _ hw130_1)).trans hw130_1), ((HB.out.cell (q73L w _ hw137_0)).trans hw137_0), ((HB.out.cell (q73L w _ hw137_1)).trans hw137_1)⟩ (fun hHeld => ?_); clear hK K; refine norm_ (a' := ?_) ?_ ?_; rotate_left
                 ·exact qa24
                 exact norm_ (by simp only [putAll, Act.put, q73zA, q73zB, q73zC]) (hCont (v132, v135, v139) _ ⟨hHeld, (by (with_reducible repeat (first | apply Kd.V_alloc | apply Kd.V_drewN | apply Kd.V_drew)); exact Kd.V_mono HL108_0.out (fun _ hk => ⟨hk.1.1.1, ⟨hk.1.2, ⟨hk.2, ⟨hk.1.1.2.1, ⟨hk.1.1.2.2.1, hk.1.1.2.2.2⟩⟩⟩⟩⟩)), (by (with_reducible repeat (first | apply Kd.R_alloc | apply Kd.R_drewN | apply Kd.R_drew)); exact HO136.out), (by (with_reducible repeat (first | apply Kd.R_alloc | apply Kd.R_drewN | apply Kd.R_drew)); exact Kd.R_mono HO140.out (fun _ hk => ⟨hk.1.1, hk.2⟩)), (by (with_reducible repeat (first | apply Kd.N_alloc | apply Kd.N_drewN | apply Kd.N_drew)); exact Kd.N_mono HO_102000.out (fun _ hk => ⟨hk.1.1.1, ⟨hk.1.2, ⟨hk.2, ⟨hk.1.1.2.1, hk.1.1.2.2⟩⟩⟩⟩)), (by (with_reducible repeat (first | refine q73kN ?_ _ | refine q73kD ?_ | refine q73kA ?_ _)); exact BK101.out), (by (with_reducible repeat (first | refine q73kN ?_ _ | refine q73kD ?_ | refine q73kA ?_ _)); exact BK102.out), (by repeat (first | (with_reducible first | exact HB.out | apply q73bA | apply q73bN | apply q73bD | refine q73bS ?_ GE101.out | refine q73bS ?_ GE102.out) | exact HB.out))⟩)
                ·skip
                 refine Kd.R_lit_step k43 _ 43 ?hg (N := 70) ?hd (xs := ([(⟨(wrap64 (t106 + 1)), (rd_T58 l1 x5_1).f1⟩ : S43)] : List (S43))) (inner := [.int .i64 (wrap64 (t106 + 1)), .int .i64 ((rd_T58 l1 x5_1).f1)]) (ok := fun _ => True) (okp := fun _ => True) ?hr ?hp (fun _ hk => hk) trivial (Below.refl _ _) (Nat.le_refl _) qa117 ?_; (case hd => rfl); (case hg => rfl); (case hr => exact qa10); (case hp => exact qa36); intro v139 w54 ho55 hb hg_ hnew_; clear hg_ hnew_; (first | rw [← Ny138.out] at ho55 | (simp only [Int.reduceToNat] at ho55; rw [← Ny138.out] at ho55)); have HO140 := q73O (Kd.R_lower (Kd.R_new' (Kd.R_newM (M := fun k_ => (w.heap.size ≤ k_)) ho55 (below_size qa6) (fun k_ h_ => h_)) (Kd.R_lt qa173)) (below_size qa6)); replace HO_102000 := q73O (Kd.N_elder' qa41 (Kd.R_base ho55) hb); replace HL108_0 := q73O (Kd.V_elder' qa47 (Kd.R_base ho55) hb); replace HO133 := q73O (Kd.R_elder' qa173 (Kd.R_base ho55) hb); replace BK101 := q73O (blk_below (g := gb101) (o := .cells #[.slice (some ad108) x102000_1.length co49, .int .i64 (wrap64 (t106 + 1))] 28 (0, 0)) qa21 hb); replace BK102 := q73O (blk_below (g := gb102) (o := .cells #[.slice none 0 0, .int .i64 0] 28 (0, 0)) qa23 hb); replace HR108_0 := q73O (Kd.C_below qa27 hb); replace HB := q73O (below_step qa6 hb); clear hb ho55; refine hK.out _ _ ⟨qc0 BK101.out, qc1 BK101.out, ((HB.out.cell (q73L w _ hw130_0)).trans hw130_0), ((HB.out.cell (q73L w _ hw130_1)).trans hw130_1), ((HB.out.cell (q73L w _ hw137_0)).trans hw137_0), ((HB.out.cell (q73L w _ hw137_1)).trans hw137_1)⟩ (fun hHeld => ?_); clear hK K; refine norm_ (a' := ?_) ?_ ?_; rotate_left
                 ·exact qa24
                 refine one_ (i := 9) (N := some 61) q73y44 rfl rfl (one_of HT_.out qa5) qa51 (fun K hK => ?_); refine Kd.R_append_rows_step k43 (w0 := w) w.heap.size (by rfl) (.tmp 59) (.tmp 60) 41 43 (.agg #[(.int .i64 0), (.int .i64 0)]) 16 rfl Try.underlying41 info43 rfl qa51 qa29 v132 y131 (rd_L4 x102000_1 ((rd_T58 l1 x5_1).f0)) _ _ _ (fun k_ => (w.heap.size ≤ k_) ∧ some k_ ≠ (v139 : Value).ownBlock) (fun _ => False) rfl rfl ?aO ?aR (fun _ _ h => h) (fun _ h => h.elim) ?aF ?aB ?aS ?aL ?_; (case aR => exact qa44); (case aB => exact qa40); (case aF => exact qa63); (case aO => exact qa156); (case aS => exact qa32); (case aL => have := LMc45.out; omega); intro v135 w56 ho hb hg hat; rw [← Ny134.out] at ho; have n0_ := q73O (Kd.N_afterv (ok := (fun k_ => (P0_0_ k_ ∨ w.heap.size ≤ k_) ∧ some k_ ≠ (v139 : Value).ownBlock ∧ k_ ≠ gb101 ∧ k_ ≠ gb102)) qa105 hg hat); have n1_ := q73O (blk_grown (g := gb101) (o := .cells #[.slice (some ad108) x102000_1.length co49, .int .i64 (wrap64 (t106 + 1))] 28 (0, 0)) qa21 hg (Kd.R_ne HO133.out BK101.out qa51)); have n2_ := q73O (blk_grown (g := gb102) (o := .cells #[.slice none 0 0, .int .i64 0] 28 (0, 0)) qa23 hg (Kd.R_ne HO133.out BK102.out qa51)); have n3_ := q73O (Kd.V_afterv (ok := (fun k_ => (P0_0_ k_ ∨ w.heap.size ≤ k_) ∧ some k_ ≠ (.slice (some ad108) x102000_1.length co49 : Value).ownBlock ∧ some k_ ≠ (v139 : Value).ownBlock ∧ k_ ≠ gb101 ∧ k_ ≠ gb102)) qa94 hg hat); have n4_ := q73O (Kd.R_after (ok := (fun k_ => (w.heap.size ≤ k_))) qa157 hg hat); have n5_ := q73O (hb); have n6_ := q73O (ho); clear HO_102000 BK101 BK102 HL108_0 HO140 HB HO133; have HO_102000 := n0_; have BK101 := n1_; have BK102 := n2_; have HL108_0 := n3_; have HO140 := n4_; have HB := n5_; have HO136 := n6_; clear n0_ n1_ n2_ n3_ n4_ n5_ n6_ ho hb hg hat; refine hK.out _ _ ⟨qc0 BK101.out, qc1 BK101.out, ((HB.out.cell (q73L w _ hw130_0)).trans hw130_0), ((HB.out.cell (q73L w _ hw130_1)).trans hw130_1), ((HB.out.cell (q73L w _ hw137_0)).trans hw137_0), ((HB.out.cell (q73L w _ hw137_1)).trans hw137_1)⟩ (fun hHeld => ?_); clear hK K; refine norm_ (a' := ?_) ?_ ?_; rotate_left
                 ·exact qa24
                 exact norm_ (by simp only [putAll, Act.put, q73zA, q73zB, q73zC]) (hCont (v132, v135, v139) _ ⟨hHeld, (by (with_reducible repeat (first | apply Kd.V_alloc | apply Kd.V_drewN | apply Kd.V_drew)); exact Kd.V_mono HL108_0.out (fun _ hk => ⟨hk.1.1, ⟨hk.2, ⟨hk.1.2.2.1, ⟨hk.1.2.1, ⟨hk.1.2.2.2.1, hk.1.2.2.2.2⟩⟩⟩⟩⟩)), (by (with_reducible repeat (first | apply Kd.R_alloc | apply Kd.R_drewN | apply Kd.R_drew)); exact HO136.out), (by (with_reducible repeat (first | apply Kd.R_alloc | apply Kd.R_drewN | apply Kd.R_drew)); exact HO140.out), (by (with_reducible repeat (first | apply Kd.N_alloc | apply Kd.N_drewN | apply Kd.N_drew)); exact Kd.N_mono HO_102000.out (fun _ hk => ⟨hk.1.1, ⟨hk.2, ⟨hk.1.2.1, ⟨hk.1.2.2.1, hk.1.2.2.2⟩⟩⟩⟩)), (by (with_reducible repeat (first | refine q73kN ?_ _ | refine q73kD ?_ | refine q73kA ?_ _)); exact BK101.out), (by (with_reducible repeat (first | refine q73kN ?_ _ | refine q73kD ?_ | refine q73kA ?_ _)); exact BK102.out), (by repeat (first | (with_reducible first | exact HB.out | apply q73bA | apply q73bN | apply q73bD | refine q73bS ?_ GE101.out | refine q73bS ?_ GE102.out) | exact HB.out))⟩)
               ·skip
                refine Kd.R_lit_step k43 _ 43 ?hg (N := 70) ?hd (xs := ([(⟨(wrap64 (t106 + 1)), (rd_T58 l1 x5_1).f1⟩ : S43)] : List (S43))) (inner := [.int .i64 (wrap64 (t106 + 1)), .int .i64 ((rd_T58 l1 x5_1).f1)]) (ok := fun _ => True) (okp := fun _ => True) ?hr ?hp (fun _ hk => hk) trivial (Below.refl _ _) (Nat.le_refl _) qa117 ?_; (case hd => rfl); (case hg => rfl); (case hr => exact qa10); (case hp => exact qa36); intro v139 w52 ho53 hb hg_ hnew_; clear hg_ hnew_; (first | rw [← Ny138.out] at ho53 | (simp only [Int.reduceToNat] at ho53; rw [← Ny138.out] at ho53)); have HO140 := q73O (Kd.R_lower (Kd.R_newM (M := fun k_ => (w.heap.size ≤ k_)) ho53 (below_size qa6) (fun k_ h_ => h_)) (below_size qa6)); replace HO_102000 := q73O (Kd.N_elder' qa41 (Kd.R_base ho53) hb); replace HL108_0 := q73O (Kd.V_elder' qa47 (Kd.R_base ho53) hb); replace BK101 := q73O (blk_below (g := gb101) (o := .cells #[.slice (some ad108) x102000_1.length co49, .int .i64 (wrap64 (t106 + 1))] 28 (0, 0)) qa21 hb); replace BK102 := q73O (blk_below (g := gb102) (o := .cells #[.slice none 0 0, .int .i64 0] 28 (0, 0)) qa23 hb); replace HR108_0 := q73O (Kd.C_below qa27 hb); replace HB := q73O (below_step qa6 hb); clear hb ho53; refine hK.out _ _ ⟨qc0 BK101.out, qc1 BK101.out, ((HB.out.cell (q73L w _ hw130_0)).trans hw130_0), ((HB.out.cell (q73L w _ hw130_1)).trans hw130_1), ((HB.out.cell (q73L w _ hw137_0)).trans hw137_0), ((HB.out.cell (q73L w _ hw137_1)).trans hw137_1)⟩ (fun hHeld => ?_); clear hK K; refine norm_ (a' := ?_) ?_ ?_; rotate_left
                ·exact qa24
                refine one_ (i := 7) (N := some 59) q73y48 rfl rfl (one_of HT_.out qa5) qa51 (fun K hK => ?_); refine Kd.R_lit_step k43 _ 43 ?hg (N := 59) ?hd (xs := ([] : List (S43))) (inner := []) (ok := fun _ => True) (okp := fun _ => True) ?hr ?hp (fun _ hk => hk) trivial (Below.refl _ _) (Nat.le_refl _) qa117 ?_; (case hd => rfl); (case hg => rfl); (case hr => exact qa10); (case hp => exact qa190); intro v132 w54 ho55 hb hg_ hnew_; clear hg_ hnew_; (first | rw [← Ny131.out] at ho55 | (simp only [Int.reduceToNat] at ho55; rw [← Ny131.out] at ho55)); have HO133 := q73O (Kd.R_lower (Kd.R_new' (Kd.R_newM (M := fun k_ => (w.heap.size ≤ k_)) ho55 (below_size qa6) (fun k_ h_ => h_)) (Kd.R_lt qa141)) (below_size qa6)); replace HO_102000 := q73O (Kd.N_elder' qa41 (Kd.R_base ho55) hb); replace HL108_0 := q73O (Kd.V_elder' qa47 (Kd.R_base ho55) hb); replace HO140 := q73O (Kd.R_elder' qa141 (Kd.R_base ho55) hb); replace BK101 := q73O (blk_below (g := gb101) (o := .cells #[.slice (some ad108) x102000_1.length co49, .int .i64 (wrap64 (t106 + 1))] 28 (0, 0)) qa21 hb); replace BK102 := q73O (blk_below (g := gb102) (o := .cells #[.slice none 0 0, .int .i64 0] 28 (0, 0)) qa23 hb); replace HR108_0 := q73O (Kd.C_below qa27 hb); replace HB := q73O (below_step qa6 hb); clear hb ho55; refine hK.out _ _ ⟨qc0 BK101.out, qc1 BK101.out, ((HB.out.cell (q73L w _ hw130_0)).trans hw130_0), ((HB.out.cell (q73L w _ hw130_1)).trans hw130_1), ((HB.out.cell (q73L w _ hw137_0)).trans hw137_0), ((HB.out.cell (q73L w _ hw137_1)).trans hw137_1)⟩ (fun hHeld => ?_); clear hK K; refine norm_ (a' := ?_) ?_ ?_; rotate_left
                ·exact qa24
                refine one_ (i := 9) (N := some 61) q73y44 rfl rfl (one_of HT_.out qa5) qa51 (fun K hK => ?_); refine Kd.R_append_rows_step k43 (w0 := w) w.heap.size (by rfl) (.tmp 59) (.tmp 60) 41 43 (.agg #[(.int .i64 0), (.int .i64 0)]) 16 rfl Try.underlying41 info43 rfl qa51 qa29 v132 y131 (rd_L4 x102000_1 ((rd_T58 l1 x5_1).f0)) _ _ _ (fun k_ => (w.heap.size ≤ k_) ∧ some k_ ≠ (v139 : Value).ownBlock) (fun _ => False) rfl rfl ?aO ?aR (fun _ _ h => h) (fun _ h => h.elim) ?aF ?aB ?aS ?aL ?_; (case aR => exact qa44); (case aB => exact qa40); (case aF => exact qa63); (case aO => exact qa156); (case aS => exact qa32); (case aL => have := LMc45.out; omega); intro v135 w56 ho hb hg hat; rw [← Ny134.out] at ho; have n0_ := q73O (Kd.N_afterv (ok := (fun k_ => (P0_0_ k_ ∨ w.heap.size ≤ k_) ∧ some k_ ≠ (v139 : Value).ownBlock ∧ k_ ≠ gb101 ∧ k_ ≠ gb102)) qa106 hg hat); have n1_ := q73O (blk_grown (g := gb101) (o := .cells #[.slice (some ad108) x102000_1.length co49, .int .i64 (wrap64 (t106 + 1))] 28 (0, 0)) qa21 hg (Kd.R_ne HO133.out BK101.out qa51)); have n2_ := q73O (blk_grown (g := gb102) (o := .cells #[.slice none 0 0, .int .i64 0] 28 (0, 0)) qa23 hg (Kd.R_ne HO133.out BK102.out qa51)); have n3_ := q73O (Kd.V_afterv (ok := (fun k_ => (P0_0_ k_ ∨ w.heap.size ≤ k_) ∧ some k_ ≠ (.slice (some ad108) x102000_1.length co49 : Value).ownBlock ∧ some k_ ≠ (v139 : Value).ownBlock ∧ k_ ≠ gb101 ∧ k_ ≠ gb102)) qa95 hg hat); have n4_ := q73O (Kd.R_after (ok := (fun k_ => (w.heap.size ≤ k_))) qa157 hg hat); have n5_ := q73O (hb); have n6_ := q73O (ho); clear HO_102000 BK101 BK102 HL108_0 HO140 HB HO133; have HO_102000 := n0_; have BK101 := n1_; have BK102 := n2_; have HL108_0 := n3_; have HO140 := n4_; have HB := n5_; have HO136 := n6_; clear n0_ n1_ n2_ n3_ n4_ n5_ n6_ ho hb hg hat; refine hK.out _ _ ⟨qc0 BK101.out, qc1 BK101.out, ((HB.out.cell (q73L w _ hw130_0)).trans hw130_0), ((HB.out.cell (q73L w _ hw130_1)).trans hw130_1), ((HB.out.cell (q73L w _ hw137_0)).trans hw137_0), ((HB.out.cell (q73L w _ hw137_1)).trans hw137_1)⟩ (fun hHeld => ?_); clear hK K; refine norm_ (a' := ?_) ?_ ?_; rotate_left
                ·exact qa24
                exact norm_ (by simp only [putAll, Act.put, q73zA, q73zB, q73zC]) (hCont (v132, v135, v139) _ ⟨hHeld, (by (with_reducible repeat (first | apply Kd.V_alloc | apply Kd.V_drewN | apply Kd.V_drew)); exact Kd.V_mono HL108_0.out (fun _ hk => ⟨hk.1.1, ⟨hk.2, ⟨hk.1.2.2.1, ⟨hk.1.2.1, ⟨hk.1.2.2.2.1, hk.1.2.2.2.2⟩⟩⟩⟩⟩)), (by (with_reducible repeat (first | apply Kd.R_alloc | apply Kd.R_drewN | apply Kd.R_drew)); exact HO136.out), (by (with_reducible repeat (first | apply Kd.R_alloc | apply Kd.R_drewN | apply Kd.R_drew)); exact HO140.out), (by (with_reducible repeat (first | apply Kd.N_alloc | apply Kd.N_drewN | apply Kd.N_drew)); exact Kd.N_mono HO_102000.out (fun _ hk => ⟨hk.1.1, ⟨hk.2, ⟨hk.1.2.1, ⟨hk.1.2.2.1, hk.1.2.2.2⟩⟩⟩⟩)), (by (with_reducible repeat (first | refine q73kN ?_ _ | refine q73kD ?_ | refine q73kA ?_ _)); exact BK101.out), (by (with_reducible repeat (first | refine q73kN ?_ _ | refine q73kD ?_ | refine q73kA ?_ _)); exact BK102.out), (by repeat (first | (with_reducible first | exact HB.out | apply q73bA | apply q73bN | apply q73bD | refine q73bS ?_ GE101.out | refine q73bS ?_ GE102.out) | exact HB.out))⟩)
              rintro ⟨v132, v135, v139⟩ w57 ⟨hS_, h0_, h1_, h2_, h3_, h4_, h5_, h6_⟩; have n0_ : Aside0 (Kd.V k43 43 w57 w.heap.size (fun k_ => (P0_0_ k_ ∨ w.heap.size ≤ k_) ∧ some k_ ≠ (v135 : Value).ownBlock ∧ some k_ ≠ (v139 : Value).ownBlock ∧ some k_ ≠ (.slice (some ad108) x102000_1.length co49 : Value).ownBlock ∧ k_ ≠ gb101 ∧ k_ ≠ gb102) (.slice (some ad109) (rd_L4 x102000_1 ((rd_T58 l1 x5_1).f0)).length c108_0) (rd_L4 x102000_1 ((rd_T58 l1 x5_1).f0))) := ⟨h0_⟩; have n1_ : Aside0 (Kd.R k43 43 w57 w.heap.size (fun k_ => (w.heap.size ≤ k_) ∧ some k_ ≠ (v139 : Value).ownBlock) v135 y134) := ⟨h1_⟩; have n2_ : Aside0 (Kd.R k43 43 w57 w.heap.size (fun k_ => (w.heap.size ≤ k_) ∧ some k_ ≠ (v135 : Value).ownBlock) v139 y138) := ⟨h2_⟩; have n3_ : Aside0 (Kd.N (Kd.slice 43 k43) 41 w57 w.heap.size (fun k_ => (P0_0_ k_ ∨ w.heap.size ≤ k_) ∧ some k_ ≠ (v135 : Value).ownBlock ∧ some k_ ≠ (v139 : Value).ownBlock ∧ k_ ≠ gb101 ∧ k_ ≠ gb102) (.slice (some ad108) x102000_1.length co49) x102000_1) := ⟨h3_⟩; have n4_ : Aside0 (w57.heap[gb101]? = some (.cells #[.slice (some ad108) x102000_1.length co49, .int .i64 (wrap64 (t106 + 1))] 28 (0, 0))) := ⟨h4_⟩; have n5_ : Aside0 (w57.heap[gb102]? = some (.cells #[.slice none 0 0, .int .i64 0] 28 (0, 0))) := ⟨h5_⟩; have n6_ : Aside0 (Below w.heap.size w w57) := ⟨h6_⟩; clear HO_102000 HL108_0 BK101 BK102 HR108_0 HB h0_ h1_ h2_ h3_ h4_ h5_ h6_; have HL108_0 := n0_; have HO136 := n1_; have HO140 := n2_; have HO_102000 := n3_; have BK101 := n4_; have BK102 := n5_; have HB := n6_; clear n0_ n1_ n2_ n3_ n4_ n5_ n6_; have hHeld : w57.cell? ⟨gb101, 0, none⟩ = some (.slice (some ad108) x102000_1.length co49) ∧ w57.cell? ⟨gb101, 1, none⟩ = some (.int .i64 (wrap64 (t106 + 1))) ∧ w57.cell? (ad107.add ((x5_1).toNat * 2)) = some (.int .i64 ((rd_T58 l1 x5_1).f0)) ∧ w57.cell? ⟨(ad107.add ((x5_1).toNat * 2)).block, (ad107.add ((x5_1).toNat * 2)).off + 1, none⟩ = some (.int .i64 ((rd_T58 l1 x5_1).f1)) ∧ w57.cell? (ad107.add ((x5_1).toNat * 2)) = some (.int .i64 ((rd_T58 l1 x5_1).f0)) ∧ w57.cell? ⟨(ad107.add ((x5_1).toNat * 2)).block, (ad107.add ((x5_1).toNat * 2)).off + 1, none⟩ = some (.int .i64 ((rd_T58 l1 x5_1).f1)) := hS_; obtain ⟨Ao59, co59, eo59⟩ := Kd.R_slice HO140.out; (first | subst eo59 | (injection eo59 with f1_ f2_ f3_; have f4_ := f1_.symm; have f5_ := f3_.symm; clear f1_ f2_ f3_; subst f4_; subst f5_)); refine norm_ (a' := ?_) ?_ ?_; rotate_left
              ·simp only [putAll, Act.put, q73zA, q73zB, q73zC]
               rfl
              refine one_ (i := 19) (N := some 71) q73y49 rfl rfl (one_of HT_.out qa5) qa51 (fun K hK => ?_); refine Kd.R_append_rows_step k43 (w0 := w) w.heap.size (by rfl) (.tmp 61) (.tmp 70) 41 43 (.agg #[(.int .i64 0), (.int .i64 0)]) 16 rfl Try.underlying41 info43 rfl qa51 qa29 v135 y134 y138 _ _ _ (fun k_ => (w.heap.size ≤ k_) ∧ some k_ ≠ (.slice Ao59 y138.length co59 : Value).ownBlock) (fun _ => False) rfl rfl ?aO ?aR (fun _ _ h => h) (fun _ h => h.elim) ?aF ?aB ?aS ?aL ?_; (case aR => repeat (first | exact (Kd.R_reads' HO140.out).2.2 | with_reducible first | refine Kd.C_alloc ?_ _ | refine Kd.C_drewN ?_ _ | refine Kd.C_drew ?_)); (case aB => exact qa40); (case aF => exact qa63); (case aO => exact (by (with_reducible repeat (first | apply Kd.R_alloc | apply Kd.R_drewN | apply Kd.R_drew)); exact HO136.out)); (case aS => exact qa32); (case aL => have := LMc46.out; omega); intro v142 w58 ho hb hg hat; rw [← Ny141.out] at ho; have n0_ := q73O (Kd.N_afterv (ok := (fun k_ => (P0_0_ k_ ∨ w.heap.size ≤ k_) ∧ some k_ ≠ (.slice Ao59 y138.length co59 : Value).ownBlock ∧ k_ ≠ gb101 ∧ k_ ≠ gb102)) qa107 hg hat); have n1_ := q73O (blk_grown (g := gb101) (o := .cells #[.slice (some ad108) x102000_1.length co49, .int .i64 (wrap64 (t106 + 1))] 28 (0, 0)) qa21 hg (Kd.R_ne HO136.out BK101.out qa51)); have n2_ := q73O (blk_grown (g := gb102) (o := .cells #[.slice none 0 0, .int .i64 0] 28 (0, 0)) qa23 hg (Kd.R_ne HO136.out BK102.out qa51)); have n3_ := q73O (Kd.V_afterv (ok := (fun k_ => (P0_0_ k_ ∨ w.heap.size ≤ k_) ∧ some k_ ≠ (.slice (some ad108) x102000_1.length co49 : Value).ownBlock ∧ some k_ ≠ (.slice Ao59 y138.length co59 : Value).ownBlock ∧ k_ ≠ gb101 ∧ k_ ≠ gb102)) qa96 hg hat); have n4_ := q73O (Kd.R_after (ok := (fun k_ => (w.heap.size ≤ k_))) qa141 hg hat); have n5_ := q73O (hb); have n6_ := q73O (ho); clear HO_102000 BK101 BK102 HL108_0 HO140 HB HO136; have HO_102000 := n0_; have BK101 := n1_; have BK102 := n2_; have HL108_0 := n3_; have HO140 := n4_; have HB := n5_; have HO143 := n6_; clear n0_ n1_ n2_ n3_ n4_ n5_ n6_; obtain ⟨Av60, cv60, ev60⟩ := Kd.R_slice HO143.out; subst ev60; clear ho hb hg hat; have p47 : 0 ≤ (((rd_T58 l1 x5_1).f0) : Int) := q73T qa115; have q47 : (((rd_T58 l1 x5_1).f0) : Int) < ((x102000_1.length : Int) : Int) := q73T qa115; obtain ⟨go47, co47, eo47, gb47, gl47, cl47, HG47⟩ := Kd.N_form HO_102000.out qa29; (first | cases eo47 | (injection eo47 with ea_ en_ ec_; (first | subst ea_ | (injection ea_ with ea_; subst ea_)); subst ec_; clear en_)); have GB47 := q73O gb47; have GG47 := q73O HG47; clear gb47 gl47 HG47; (first | simp only [add_plain] at hx108_0 | skip); obtain ⟨ce47, hcl47, hM47, hcc47, hfr47⟩ := Kd.N_elem HO_102000.out [] (((rd_T58 l1 x5_1).f0) : Int) p47 q47; obtain ⟨ua47_0, uc47_0, rfl, ul47_0, ge47_0⟩ := Kd.FK_slice_open hM47; have hx47_0 := hcc47 0 _ rfl; have hf47_0 := hfr47 0; (try simp only [show ((Kd.slice 43 k43)).sz = 1 from rfl, Nat.mul_one, Nat.add_zero] at hx47_0); (try simp only [show ((Kd.slice 43 k43)).sz = 1 from rfl, Nat.mul_one, Nat.add_zero] at hf47_0); clear hcl47 hcc47 hfr47; (try clear hM47); replace p47 := eq_true p47; replace q47 := eq_true q47; have HX60 := q73O (show Kd.N (Kd.slice 43 k43) 41 _ w.heap.size (fun k_ => (P0_0_ k_ ∨ w.heap.size ≤ k_) ∧ some k_ ≠ (.slice Ao59 y138.length co59 : Value).ownBlock ∧ some k_ ≠ ((.slice Av60 y141.length cv60) : Value).ownBlock ∧ k_ ≠ gb101 ∧ k_ ≠ gb102) (.slice (some ⟨go47, 0, none⟩) x102000_1.length co49) x102000_1 from (Kd.N_mono (HO_102000.out) (fun k_ hk => ⟨hk.1.1, ⟨hk.1.2.1, ⟨hk.2, ⟨hk.1.2.2.1, hk.1.2.2.2⟩⟩⟩⟩))); replace HX60 := q73O (show Kd.N (Kd.slice 43 k43) 41 _ w.heap.size (fun k_ => (P0_0_ k_ ∨ w.heap.size ≤ k_) ∧ some k_ ≠ (.slice Ao59 y138.length co59 : Value).ownBlock ∧ k_ ≠ gb101 ∧ k_ ≠ gb102) (.slice (some ⟨go47, 0, none⟩) x102000_1.length co49) x102000_1 from Kd.N_mono HX60.out (fun k_ hk => ⟨hk.1, ⟨hk.2.1, ⟨hk.2.2.2.1, hk.2.2.2.2⟩⟩⟩)); obtain ⟨ce60, hcl60, hM60, hcc60, hfr60⟩ := Kd.N_elem HX60.out [] (((rd_T58 l1 x5_1).f0) : Int) (q73T qa115) (by have h_ : (((rd_T58 l1 x5_1).f0) : Int) < ((x102000_1.length : Int) : Int) := q73T qa115; first | exact h_ | (have e_ := (Kd.N_reads' HO_102000.out).1; omega) | simpa using h_); obtain ⟨ua60_0, uc60_0, rfl, ul60_0, ge60_0⟩ := Kd.FK_slice_open hM60; have HP60 := (Kd.N_seg HX60.out (((rd_T58 l1 x5_1).f0) : Int) (q73T qa115) (by have h_ : (((rd_T58 l1 x5_1).f0) : Int) < ((x102000_1.length : Int) : Int) := q73T qa115; first | exact h_ | (have e_ := (Kd.N_reads' HO_102000.out).1; omega) | simpa using h_) (seg := [(.slice Av60 y141.length cv60)]) (j := 0) hcl60 hcc60 (show 1 ≤ 1 from by decide) (x' := y141) (Kd.FK_slice_mk (Kd.R_reads' (Kd.R_mono (ok' := (fun k_ => ((fun k_ => (P0_0_ k_ ∨ w.heap.size ≤ k_) ∧ some k_ ≠ (.slice Ao59 y138.length co59 : Value).ownBlock ∧ k_ ≠ gb101 ∧ k_ ≠ gb102)) k_ ∧ k_ ≠ go47)) (Kd.R_types (Kd.R_types (Kd.R_apart' (HO143.out) (Kd.N_typed HO_102000.out) qa51) BK101.out qa51) BK102.out qa51) (fun k_ hk => ⟨⟨(.inr (hk.1.1.1.1)), ⟨hk.1.1.1.2, ⟨hk.1.2, hk.2⟩⟩⟩, fun e_ => (hk.1.1.2) qa189⟩))).2.1 (Kd.R_F (Kd.R_mono (ok' := (fun k_ => ((fun k_ => (P0_0_ k_ ∨ w.heap.size ≤ k_) ∧ some k_ ≠ (.slice Ao59 y138.length co59 : Value).ownBlock ∧ k_ ≠ gb101 ∧ k_ ≠ gb102)) k_ ∧ k_ ≠ go47)) (Kd.R_types (Kd.R_types (Kd.R_apart' (HO143.out) (Kd.N_typed HO_102000.out) qa51) BK101.out qa51) BK102.out qa51) (fun k_ hk => ⟨⟨(.inr (hk.1.1.1.1)), ⟨hk.1.1.1.2, ⟨hk.1.2, hk.2⟩⟩⟩, fun e_ => (hk.1.1.2) qa189⟩)))) (fun _ hk => hk)).1; (try simp only [show ((Kd.slice 43 k43)).sz = 1 from rfl, Nat.mul_one, Nat.add_zero] at HP60); rw [← Ny144.out] at HP60; have HQ60 := q73O HP60; clear hcl60 hcc60 hfr60; (try clear hM60); clear HP60; refine hK.out _ _ ⟨qc0 BK101.out, qc1 BK101.out, ((HB.out.cell (q73L w _ hw130_0)).trans hw130_0), ((HB.out.cell (q73L w _ hw130_1)).trans hw130_1), ((HB.out.cell (q73L w _ hw137_0)).trans hw137_0), ((HB.out.cell (q73L w _ hw137_1)).trans hw137_1)⟩ (fun hHeld => ?_); clear hK K; refine norm_ (a' := ?_) ?_ ?_; rotate_left
              ·exact qa24
              refine pure_ (i := 20) (N := some 72) (v := ?_) (a' := ?_) q73y50 rfl rfl (any_of HT_.out qa5) (fun _ _ _ h => h) (Or.inl ⟨by rfl, ?_⟩) ?_ ?_; rotate_left
              ·intro w'
               go_simp; (with_reducible rfl)
              rotate_left
              ·simp only [Act.put, q73zA, q73zB, q73zC, i64_w, i32_w]
               rfl
              refine last_ (i := 21) (N := none) q73y51 rfl rfl (one_of HT_.out qa5) qa51 (fun K hK => ?_); refine skip_ (w1 := ?_) (by rfl) rfl ?_ ?_; rotate_left
              ·go_simp
               rfl
              refine hK.out _ _ ?_; clear hK K; refine done_ (done_of HT_.out qa5) ?_
              try go_wp2
              go_roundg k1
              case measure => have := HK1.out; omega
              case rel => exact ⟨(wrap64 (x5_1 + 1)), (y144), (.slice (some ⟨go47, 0, none⟩) x102000_1.length co49), qa12, H', ⟨qa103⟩, ⟨by (with_reducible repeat (first | apply Kd.N_alloc | apply Kd.N_drewN | apply Kd.N_drew)); exact Kd.N_mono HQ60.out (fun _ hk => ⟨hk.1, ⟨hk.2.2.1, hk.2.2.2⟩⟩)⟩, ⟨qa70⟩, ⟨qa71⟩, ⟨by repeat (first | (with_reducible first | exact HB.out | apply q73bA | apply q73bN | apply q73bD | refine q73bS ?_ GB47.out | refine q73bS ?_ GE101.out | refine q73bS ?_ GE102.out) | exact HB.out)⟩⟩
             ·rw [if_neg c46] at H
              exact absurd H qa117
            ·rw [if_neg c45] at H
             exact absurd H qa117
          ·rw [if_neg c24] at H
           exact absurd H qa117
         ·rw [if_neg c23] at H
          exact absurd H qa117
        ·rw [if_neg c21] at H
         have c21b0 : decide (0 < ((rd_L4 x102000_1 ((rd_T58 l1 x5_1).f0)).length : Int)) = false := decide_eq_false c21; have c21b1 : decide (0 < (rd_L4 x102000_1 ((rd_T58 l1 x5_1).f0)).length) = false := decide_eq_false qa29; clear c21; obtain ⟨y146, hy146⟩ : ∃ y_ : List (S43), y_ = (([] : List (S43))) := ⟨_, rfl⟩; replace H : (if y146.length + (rd_L4 x102000_1 ((rd_T58 l1 x5_1).f0)).length < 8796093022208 then ((some (y146 ++ (rd_L4 x102000_1 ((rd_T58 l1 x5_1).f0)) : List (S43))).bind fun y149 => ((some (([(⟨(wrap64 (t106 + 1)), (rd_T58 l1 x5_1).f1⟩ : S43)] : List (S43)) : List (S43))).bind fun y153 => (if y149.length + y153.length < 8796093022208 then (spec_l06Write.l0 k1 l1 (wrap64 (x5_1 + 1)) (x102000_1.set (((rd_T58 l1 x5_1).f0) : Int).toNat (y149 ++ y153)) (wrap64 (t106 + 1))) else (none)))) else (none)) = some (r1, r2) := by first | (rw [hy146]; with_reducible exact H) | (have H2_ := (Option.bind_some _ _).symm.trans H; rw [hy146]; with_reducible exact H2_) | (have H2_ := (Option.bind_some _ _).symm.trans H; with_reducible exact H2_) | with_reducible exact H | (rw [hy146]; exact H) | exact H
         have Ny146 := q73O hy146; clear hy146
         by_cases c61 : y146.length + (rd_L4 x102000_1 ((rd_T58 l1 x5_1).f0)).length < 8796093022208
         ·rw [if_pos c61] at H
          have LMc61 := q73O c61; clear c61; obtain ⟨y149, hy149⟩ : ∃ y_ : List (S43), y_ = (y146 ++ (rd_L4 x102000_1 ((rd_T58 l1 x5_1).f0))) := ⟨_, rfl⟩; replace H : ((some (([(⟨(wrap64 (t106 + 1)), (rd_T58 l1 x5_1).f1⟩ : S43)] : List (S43)) : List (S43))).bind fun y153 => (if y149.length + y153.length < 8796093022208 then (spec_l06Write.l0 k1 l1 (wrap64 (x5_1 + 1)) (x102000_1.set (((rd_T58 l1 x5_1).f0) : Int).toNat (y149 ++ y153)) (wrap64 (t106 + 1))) else (none))) = some (r1, r2) := by first | (rw [hy149]; with_reducible exact H) | (have H2_ := (Option.bind_some _ _).symm.trans H; rw [hy149]; with_reducible exact H2_) | (have H2_ := (Option.bind_some _ _).symm.trans H; with_reducible exact H2_) | with_reducible exact H | (rw [hy149]; exact H) | exact H
          have Ny149 := q73O hy149; clear hy149; obtain ⟨y153, hy153⟩ : ∃ y_ : List (S43), y_ = (([(⟨(wrap64 (t106 + 1)), (rd_T58 l1 x5_1).f1⟩ : S43)] : List (S43))) := ⟨_, rfl⟩; replace H : (if y149.length + y153.length < 8796093022208 then (spec_l06Write.l0 k1 l1 (wrap64 (x5_1 + 1)) (x102000_1.set (((rd_T58 l1 x5_1).f0) : Int).toNat (y149 ++ y153)) (wrap64 (t106 + 1))) else (none)) = some (r1, r2) := by first | (rw [hy153]; with_reducible exact H) | (have H2_ := (Option.bind_some _ _).symm.trans H; rw [hy153]; with_reducible exact H2_) | (have H2_ := (Option.bind_some _ _).symm.trans H; with_reducible exact H2_) | with_reducible exact H | (rw [hy153]; exact H) | exact H
          have Ny153 := q73O hy153; clear hy153
          by_cases c62 : y149.length + y153.length < 8796093022208
          ·rw [if_pos c62] at H
           have LMc62 := q73O c62; clear c62; obtain ⟨y156, hy156⟩ : ∃ y_ : List (S43), y_ = (y149 ++ y153) := ⟨_, rfl⟩; replace H : (spec_l06Write.l0 k1 l1 (wrap64 (x5_1 + 1)) (x102000_1.set (((rd_T58 l1 x5_1).f0) : Int).toNat y156) (wrap64 (t106 + 1))) = some (r1, r2) := by first | (rw [hy156]; with_reducible exact H) | (have H2_ := (Option.bind_some _ _).symm.trans H; rw [hy156]; with_reducible exact H2_) | (have H2_ := (Option.bind_some _ _).symm.trans H; with_reducible exact H2_) | with_reducible exact H | (rw [hy156]; exact H) | exact H
           have Ny156 := q73O hy156; clear hy156; obtain ⟨y159, hy159⟩ : ∃ y_ : List (List (S43)), y_ = (x102000_1.set (((rd_T58 l1 x5_1).f0) : Int).toNat y156) := ⟨_, rfl⟩; replace H : (spec_l06Write.l0 k1 l1 (wrap64 (x5_1 + 1)) y159 (wrap64 (t106 + 1))) = some (r1, r2) := by first | (rw [hy159]; with_reducible exact H) | (have H2_ := (Option.bind_some _ _).symm.trans H; rw [hy159]; with_reducible exact H2_) | (have H2_ := (Option.bind_some _ _).symm.trans H; with_reducible exact H2_) | with_reducible exact H | (rw [hy159]; exact H) | exact H
           have Ny159 := q73O hy159; clear hy159; have H' := q73O H; clear H
           try go_wp2
           replace HO_102000 := q73O (Kd.N_drew HO_102000.out); replace BK101 := q73O (q73kD BK101.out); replace BK102 := q73O (q73kD BK102.out); replace HB := q73O (q73bD HB.out); have p107 : 0 ≤ (x5_1 : Int) := q73T qa115; have q107 : x5_1 < (l1.length : Int) := q73T qa115; obtain ⟨ad107, e107, hx107_0, hx107_1⟩ := at_T58 HR1.out x5_1 p107 q107; have hw107_1 := hx107_1; have hw107_0 := hx107_0
           cases e107
           replace hx107_0 := (HB.out.cell (q73L w _ hx107_0)).trans hx107_0; replace hx107_1 := (HB.out.cell (q73L w _ hx107_1)).trans hx107_1; replace p107 := eq_true p107; replace q107 := eq_true q107; obtain ⟨Ao65, co65, eo65⟩ := Kd.N_slice HO_102000.out; (first | subst eo65 | (injection eo65 with f1_ f2_ f3_; have f4_ := f1_.symm; have f5_ := f3_.symm; clear f1_ f2_ f3_; subst f4_; subst f5_)); have p108 : 0 ≤ (((rd_T58 l1 x5_1).f0) : Int) := q73T qa115; have q108 : ((rd_T58 l1 x5_1).f0) < (x102000_1.length : Int) := q73T qa115; obtain ⟨ad108, A108_0, c108_0, e108, hx108_0, hl108_0, hi108_0⟩ := at_L4 (Kd.N_reads' HO_102000.out).2.2 ((rd_T58 l1 x5_1).f0) p108 q108
           cases e108
           obtain ⟨ce108, hce108, hMe108, hcc108⟩ := Kd.N_get HO_102000.out [] ((rd_T58 l1 x5_1).f0) p108 qa149; obtain ⟨ua108_0, uc108_0, rfl, ul108_0, ge108_0⟩ := Kd.FK_slice_open hMe108; have hv108_0 := hcc108 0 _ rfl; rw [Nat.add_zero, show ((Kd.slice 43 k43)).sz = 1 from rfl, Nat.mul_one] at hv108_0; replace hv108_0 := Option.some.inj (hv108_0.symm.trans hx108_0); injection hv108_0 with hva_ hvn_ hvc_; rw [hva_] at ge108_0; rw [hvc_] at ul108_0; have HL108_0 := q73O (show Kd.V k43 43 _ w.heap.size _ _ (rd_L4 x102000_1 ((rd_T58 l1 x5_1).f0)) from Kd.V_mk ul108_0 ge108_0); clear hva_ hvn_ hvc_ ge108_0 ul108_0 hcc108 hce108; have HR108_0 := q73O hi108_0; have HC108_0 := q73O hl108_0; clear hi108_0 hl108_0; replace p108 := eq_true p108; replace q108 := eq_true q108; refine start_ (n := 10) (S := fun w' => w'.cell? ⟨gb101, 0, none⟩ = some (.slice (some ad108) x102000_1.length co65) ∧ w'.cell? ⟨gb101, 1, none⟩ = some (.int .i64 (wrap64 (t106 + 1))) ∧ w'.cell? (ad107.add ((x5_1).toNat * 2)) = some (.int .i64 ((rd_T58 l1 x5_1).f0)) ∧ w'.cell? ⟨(ad107.add ((x5_1).toNat * 2)).block, (ad107.add ((x5_1).toNat * 2)).off + 1, none⟩ = some (.int .i64 ((rd_T58 l1 x5_1).f1)) ∧ w'.cell? (ad108.add (((rd_T58 l1 x5_1).f0)).toNat) = some (.slice A108_0 (rd_L4 x102000_1 ((rd_T58 l1 x5_1).f0)).length c108_0)) (ds := []) q73y0 qa5 rfl rfl ⟨qc0 BK101.out, qc1 BK101.out, ((HB.out.cell (q73L w _ hw107_0)).trans hw107_0), ((HB.out.cell (q73L w _ hw107_1)).trans hw107_1), hx108_0⟩ (fun hHeld => ?_); refine with_tabW spec_l06Write.tab8 spec_l06Write.bits8 (fun HT_ HW_ => ?_); generalize wr.drew = w64 at HO_102000 BK101 BK102 HB HL108_0 HR108_0 hx107_0 hx107_1 hx108_0 hHeld ⊢; refine pure_ (i := 0) (N := some 23) (v := ?_) (a' := ?_) q73y1 rfl rfl (any_of HT_.out qa5) (fun _ _ _ h => h) (Or.inl ⟨by rfl, ?_⟩) ?_ ?_; rotate_left
           ·intro w'
            go_simp; (with_reducible rfl)
           rotate_left
           ·simp only [Act.put, q73zA, q73zB, q73zC, i64_w, i32_w]
            rfl
           refine pure_ (i := 2) (N := some 25) (v := ?_) (a' := ?_) q73y2 rfl rfl (any_of HT_.out qa5) (fun _ _ _ h => h) (Or.inl ⟨by rfl, ?_⟩) ?_ ?_; rotate_left
           ·intro w'
            go_simp; (with_reducible rfl)
           rotate_left
           ·simp only [Act.put, q73zA, q73zB, q73zC, i64_w, i32_w]
            rfl
           refine pure_ (i := 3) (N := some 26) (v := ?_) (a' := ?_) q73y3 rfl rfl (any_of HT_.out qa5) (fun _ _ _ h => h) (Or.inl ⟨by rfl, ?_⟩) ?_ ?_; rotate_left
           ·intro w'
            go_simp; (with_reducible rfl)
           rotate_left
           ·simp only [Act.put, q73zA, q73zB, q73zC, i64_w, i32_w]
            rfl
           refine pure_ (i := 4) (N := some 27) (v := ?_) (a' := ?_) q73y4 rfl rfl (any_of HT_.out qa5) (fun _ _ _ h => h) (Or.inl ⟨by rfl, ?_⟩) ?_ ?_; rotate_left
           ·intro w'
            go_simp; (with_reducible rfl)
           rotate_left
           ·simp only [Act.put, q73zA, q73zB, q73zC, i64_w, i32_w]
            rfl
           refine pure_ (i := 5) (N := some 28) (v := ?_) (a' := ?_) q73y5 rfl rfl (any_of HT_.out qa5) (fun _ _ _ h => h) (Or.inl ⟨by rfl, ?_⟩) ?_ ?_; rotate_left
           ·intro w'
            go_simp; (with_reducible rfl)
           rotate_left
           ·simp only [Act.put, q73zA, q73zB, q73zC, i64_w, i32_w]
            rfl
           refine take_ (i := 1) (N := some 24) (v := ?_) (a' := ?_) q73y6 rfl rfl (take_ofW HT_.out HW_.out qa5) (fun _ _ _ h => h) (Or.inl ⟨by rfl, ?_⟩) hHeld ?_ ?_; rotate_left
           ·rintro w' ⟨s0, s1, s2, s3, s4⟩
            go_simp; (with_reducible rfl)
           rotate_left
           ·simp only [Act.put, q73zA, q73zB, q73zC, i64_w, i32_w]
            rfl
           refine take_ (i := 6) (N := some 29) (v := ?_) (a' := ?_) q73y7 rfl rfl (take_ofW HT_.out HW_.out qa5) (fun _ _ _ h => h) (Or.inl ⟨by rfl, ?_⟩) hHeld ?_ ?_; rotate_left
           ·rintro w' ⟨s0, s1, s2, s3, s4⟩
            go_simp; (with_reducible rfl)
           rotate_left
           ·simp only [Act.put, q73zA, q73zB, q73zC, i64_w, i32_w]
            rfl
           refine pure_ (i := 7) (N := some 30) (v := ?_) (a' := ?_) q73y8 rfl rfl (any_of HT_.out qa5) (fun _ _ _ h => h) (Or.inl ⟨by rfl, ?_⟩) ?_ ?_; rotate_left
           ·intro w'
            go_simp; (with_reducible rfl)
           rotate_left
           ·simp only [Act.put, q73zA, q73zB, q73zC, i64_w, i32_w]
            rfl
           refine take_ (i := 8) (N := some 31) (v := ?_) (a' := ?_) q73y9 rfl rfl (take_ofW HT_.out HW_.out qa5) (fun _ _ _ h => h) (Or.inl ⟨by rfl, ?_⟩) hHeld ?_ ?_; rotate_left
           ·rintro w' ⟨s0, s1, s2, s3, s4⟩
            go_simp; (with_reducible rfl)
           rotate_left
           ·simp only [Act.put, q73zA, q73zB, q73zC, i64_w, i32_w]
            rfl
           refine pure_ (i := 9) (N := some 6) (v := ?_) (a' := ?_) q73y10 rfl rfl (any_of HT_.out qa5) (fun _ _ _ h => h) (Or.inl ⟨by rfl, ?_⟩) ?_ ?_; rotate_left
           ·intro w'
            go_simp; (with_reducible rfl)
           rotate_left
           ·simp only [Act.put, q73zA, q73zB, q73zC, i64_w, i32_w]
            rfl
           refine done_ (done_of HT_.out qa5) ?_
           try go_wp2
           replace HO_102000 := q73O (Kd.N_drew HO_102000.out); replace HL108_0 := q73O (Kd.V_drew HL108_0.out); replace BK101 := q73O (q73kD BK101.out); replace BK102 := q73O (q73kD BK102.out); replace HR108_0 := q73O (Kd.C_drew HR108_0.out); replace HB := q73O (q73bD HB.out); refine start_ (n := 15) (S := fun w' => True) (ds := []) q73y11 qa5 rfl rfl trivial (fun hHeld => ?_); refine with_tabW spec_l06Write.tab9 spec_l06Write.bits9 (fun HT_ HW_ => ?_); generalize w64.drew = w66 at HO_102000 HL108_0 BK101 BK102 HR108_0 HB hHeld ⊢; refine pure_ (i := 0) (N := some 32) (v := ?_) (a' := ?_) q73y12 rfl rfl (any_of HT_.out qa5) (fun _ _ _ h => h) (Or.inl ⟨by rfl, ?_⟩) ?_ ?_; rotate_left
           ·intro w'
            go_simp; (with_reducible rfl)
           rotate_left
           ·simp only [Act.put, q73zA, q73zB, q73zC, i64_w, i32_w]
            rfl
           refine pure_ (i := 1) (N := some 33) (v := ?_) (a' := ?_) q73y13 rfl rfl (any_of HT_.out qa5) (fun _ _ _ h => h) (Or.inl ⟨by rfl, ?_⟩) ?_ ?_; rotate_left
           ·intro w'
            go_simp; (with_reducible rfl)
           rotate_left
           ·simp only [Act.put, q73zA, q73zB, q73zC, i64_w, i32_w]
            rfl
           refine pure_ (i := 2) (N := some 34) (v := ?_) (a' := ?_) q73y14 rfl rfl (any_of HT_.out qa5) (fun _ _ _ h => h) (Or.inl ⟨by rfl, ?_⟩) ?_ ?_; rotate_left
           ·intro w'
            go_simp; (with_reducible rfl)
           rotate_left
           ·simp only [Act.put, q73zA, q73zB, q73zC, i64_w, i32_w]
            rfl
           refine pure_ (i := 3) (N := some 35) (v := ?_) (a' := ?_) q73y15 rfl rfl (any_of HT_.out qa5) (fun _ _ _ h => h) (Or.inl ⟨by rfl, ?_⟩) ?_ ?_; rotate_left
           ·intro w'
            go_simp; (with_reducible rfl)
           rotate_left
           ·simp only [Act.put, q73zA, q73zB, q73zC, i64_w, i32_w]
            rfl
           refine pure_ (i := 4) (N := some 36) (v := undef) (a' := ?_) q73y16 rfl rfl (any_of HT_.out qa5) (fun _ _ _ h => h) (Or.inr ⟨by rfl, rfl⟩) ?_ ?_; rotate_left
           ·simp only [Act.put, q73zA, q73zB, q73zC, i64_w, i32_w]
            rfl
           refine pure_ (i := 5) (N := some 37) (v := undef) (a' := ?_) q73y17 rfl rfl (any_of HT_.out qa5) (fun _ _ _ h => h) (Or.inr ⟨by rfl, rfl⟩) ?_ ?_; rotate_left
           ·simp only [Act.put, q73zA, q73zB, q73zC, i64_w, i32_w]
            rfl
           refine pure_ (i := 6) (N := some 38) (v := undef) (a' := ?_) q73y18 rfl rfl (any_of HT_.out qa5) (fun _ _ _ h => h) (Or.inr ⟨by rfl, rfl⟩) ?_ ?_; rotate_left
           ·simp only [Act.put, q73zA, q73zB, q73zC, i64_w, i32_w]
            rfl
           refine pure_ (i := 7) (N := some 39) (v := undef) (a' := ?_) q73y19 rfl rfl (any_of HT_.out qa5) (fun _ _ _ h => h) (Or.inr ⟨by rfl, rfl⟩) ?_ ?_; rotate_left
           ·simp only [Act.put, q73zA, q73zB, q73zC, i64_w, i32_w]
            rfl
           refine pure_ (i := 8) (N := some 40) (v := undef) (a' := ?_) q73y20 rfl rfl (any_of HT_.out qa5) (fun _ _ _ h => h) (Or.inr ⟨by rfl, rfl⟩) ?_ ?_; rotate_left
           ·simp only [Act.put, q73zA, q73zB, q73zC, i64_w, i32_w]
            rfl
           refine pure_ (i := 9) (N := some 41) (v := undef) (a' := ?_) q73y21 rfl rfl (any_of HT_.out qa5) (fun _ _ _ h => h) (Or.inr ⟨by rfl, rfl⟩) ?_ ?_; rotate_left
           ·simp only [Act.put, q73zA, q73zB, q73zC, i64_w, i32_w]
            rfl
           refine pure_ (i := 10) (N := some 42) (v := undef) (a' := ?_) q73y52 rfl rfl (any_of HT_.out qa5) (fun _ _ _ h => h) (Or.inr ⟨by rfl, rfl⟩) ?_ ?_; rotate_left
           ·simp only [Act.put, q73zA, q73zB, q73zC, i64_w, i32_w]
            rfl
           refine pure_ (i := 11) (N := some 43) (v := undef) (a' := ?_) q73y23 rfl rfl (any_of HT_.out qa5) (fun _ _ _ h => h) (Or.inr ⟨by rfl, rfl⟩) ?_ ?_; rotate_left
           ·simp only [Act.put, q73zA, q73zB, q73zC, i64_w, i32_w]
            rfl
           refine pure_ (i := 12) (N := some 44) (v := undef) (a' := ?_) q73y24 rfl rfl (any_of HT_.out qa5) (fun _ _ _ h => h) (Or.inr ⟨by rfl, rfl⟩) ?_ ?_; rotate_left
           ·simp only [Act.put, q73zA, q73zB, q73zC, i64_w, i32_w]
            rfl
           refine pure_ (i := 13) (N := some 45) (v := undef) (a' := ?_) q73y25 rfl rfl (any_of HT_.out qa5) (fun _ _ _ h => h) (Or.inr ⟨by rfl, rfl⟩) ?_ ?_; rotate_left
           ·simp only [Act.put, q73zA, q73zB, q73zC, i64_w, i32_w]
            rfl
           refine pure_ (i := 14) (N := some 46) (v := ?_) (a' := ?_) q73y26 rfl rfl (any_of HT_.out qa5) (fun _ _ _ h => h) (Or.inl ⟨by rfl, ?_⟩) ?_ ?_; rotate_left
           ·intro w'
            go_simp; (with_reducible rfl)
           rotate_left
           ·simp only [Act.put, q73zA, q73zB, q73zC, i64_w, i32_w]
            rfl
           refine done_ (done_of HT_.out qa5) ?_
           try go_wp2
           replace HO_102000 := q73O (Kd.N_drew HO_102000.out); replace HL108_0 := q73O (Kd.V_drew HL108_0.out); replace BK101 := q73O (q73kD BK101.out); replace BK102 := q73O (q73kD BK102.out); replace HR108_0 := q73O (Kd.C_drew HR108_0.out); replace HB := q73O (q73bD HB.out); have p145 : 0 ≤ (x5_1 : Int) := q73T qa115; have q145 : x5_1 < (l1.length : Int) := q73T qa115; obtain ⟨ad145, e145, hx145_0, hx145_1⟩ := at_T58 HR1.out x5_1 p145 q145; have hw145_1 := hx145_1; have hw145_0 := hx145_0; obtain rfl : ad107 = ad145 := (by injection e145); replace hx145_0 := (HB.out.cell (q73L w _ hx145_0)).trans hx145_0; replace hx145_1 := (HB.out.cell (q73L w _ hx145_1)).trans hx145_1; replace p145 := eq_true p145; replace q145 := eq_true q145; have p152 : 0 ≤ (x5_1 : Int) := q73T qa115; have q152 : x5_1 < (l1.length : Int) := q73T qa115; obtain ⟨ad152, e152, hx152_0, hx152_1⟩ := at_T58 HR1.out x5_1 p152 q152; have hw152_1 := hx152_1; have hw152_0 := hx152_0; obtain rfl : ad107 = ad152 := (by injection e152); replace hx152_0 := (HB.out.cell (q73L w _ hx152_0)).trans hx152_0; replace hx152_1 := (HB.out.cell (q73L w _ hx152_1)).trans hx152_1; replace p152 := eq_true p152; replace q152 := eq_true q152; refine start_ (n := 22) (S := fun w' => w'.cell? ⟨gb101, 0, none⟩ = some (.slice (some ad108) x102000_1.length co65) ∧ w'.cell? ⟨gb101, 1, none⟩ = some (.int .i64 (wrap64 (t106 + 1))) ∧ w'.cell? (ad107.add ((x5_1).toNat * 2)) = some (.int .i64 ((rd_T58 l1 x5_1).f0)) ∧ w'.cell? ⟨(ad107.add ((x5_1).toNat * 2)).block, (ad107.add ((x5_1).toNat * 2)).off + 1, none⟩ = some (.int .i64 ((rd_T58 l1 x5_1).f1)) ∧ w'.cell? (ad107.add ((x5_1).toNat * 2)) = some (.int .i64 ((rd_T58 l1 x5_1).f0)) ∧ w'.cell? ⟨(ad107.add ((x5_1).toNat * 2)).block, (ad107.add ((x5_1).toNat * 2)).off + 1, none⟩ = some (.int .i64 ((rd_T58 l1 x5_1).f1))) (ds := [21]) q73y27 qa5 rfl rfl ⟨qc0 BK101.out, qc1 BK101.out, ((HB.out.cell (q73L w _ hw145_0)).trans hw145_0), ((HB.out.cell (q73L w _ hw145_1)).trans hw145_1), ((HB.out.cell (q73L w _ hw152_0)).trans hw152_0), ((HB.out.cell (q73L w _ hw152_1)).trans hw152_1)⟩ (fun hHeld => ?_); refine with_tabW spec_l06Write.tab11 spec_l06Write.bits11 (fun HT_ HW_ => ?_); generalize w66.drew = w67 at HO_102000 HL108_0 BK101 BK102 HR108_0 HB hx145_0 hx145_1 hx152_0 hx152_1 hHeld ⊢; refine pure_ (i := 0) (N := some 52) (v := ?_) (a' := ?_) q73y28 rfl rfl (any_of HT_.out qa5) (fun _ _ _ h => h) (Or.inl ⟨by rfl, ?_⟩) ?_ ?_; rotate_left
           ·intro w'
            go_simp; (with_reducible rfl)
           rotate_left
           ·simp only [Act.put, q73zA, q73zB, q73zC, i64_w, i32_w]
            rfl
           refine pure_ (i := 2) (N := some 54) (v := ?_) (a' := ?_) q73y29 rfl rfl (any_of HT_.out qa5) (fun _ _ _ h => h) (Or.inl ⟨by rfl, ?_⟩) ?_ ?_; rotate_left
           ·intro w'
            go_simp; (with_reducible rfl)
           rotate_left
           ·simp only [Act.put, q73zA, q73zB, q73zC, i64_w, i32_w]
            rfl
           refine pure_ (i := 3) (N := some 55) (v := ?_) (a' := ?_) q73y30 rfl rfl (any_of HT_.out qa5) (fun _ _ _ h => h) (Or.inl ⟨by rfl, ?_⟩) ?_ ?_; rotate_left
           ·intro w'
            go_simp; (with_reducible rfl)
           rotate_left
           ·simp only [Act.put, q73zA, q73zB, q73zC, i64_w, i32_w]
            rfl
           refine pure_ (i := 4) (N := some 56) (v := ?_) (a' := ?_) q73y31 rfl rfl (any_of HT_.out qa5) (fun _ _ _ h => h) (Or.inl ⟨by rfl, ?_⟩) ?_ ?_; rotate_left
           ·intro w'
            go_simp; (with_reducible rfl)
           rotate_left
           ·simp only [Act.put, q73zA, q73zB, q73zC, i64_w, i32_w]
            rfl
           refine pure_ (i := 5) (N := some 57) (v := ?_) (a' := ?_) q73y32 rfl rfl (any_of HT_.out qa5) (fun _ _ _ h => h) (Or.inl ⟨by rfl, ?_⟩) ?_ ?_; rotate_left
           ·intro w'
            go_simp; (with_reducible rfl)
           rotate_left
           ·simp only [Act.put, q73zA, q73zB, q73zC, i64_w, i32_w]
            rfl
           refine pure_ (i := 8) (N := some 60) (v := ?_) (a' := ?_) q73y33 rfl rfl (any_of HT_.out qa5) (fun _ _ _ h => h) (Or.inl ⟨by rfl, ?_⟩) ?_ ?_; rotate_left
           ·intro w'
            go_simp; (with_reducible rfl)
           rotate_left
           ·simp only [Act.put, q73zA, q73zB, q73zC, i64_w, i32_w]
            rfl
           refine pure_ (i := 10) (N := some 62) (v := ?_) (a' := ?_) q73y34 rfl rfl (any_of HT_.out qa5) (fun _ _ _ h => h) (Or.inl ⟨by rfl, ?_⟩) ?_ ?_; rotate_left
           ·intro w'
            go_simp; (with_reducible rfl)
           rotate_left
           ·simp only [Act.put, q73zA, q73zB, q73zC, i64_w, i32_w]
            rfl
           refine pure_ (i := 12) (N := some 64) (v := ?_) (a' := ?_) q73y35 rfl rfl (any_of HT_.out qa5) (fun _ _ _ h => h) (Or.inl ⟨by rfl, ?_⟩) ?_ ?_; rotate_left
           ·intro w'
            go_simp; (with_reducible rfl)
           rotate_left
           ·simp only [Act.put, q73zA, q73zB, q73zC, i64_w, i32_w]
            rfl
           refine pure_ (i := 13) (N := some 65) (v := ?_) (a' := ?_) q73y36 rfl rfl (any_of HT_.out qa5) (fun _ _ _ h => h) (Or.inl ⟨by rfl, ?_⟩) ?_ ?_; rotate_left
           ·intro w'
            go_simp; (with_reducible rfl)
           rotate_left
           ·simp only [Act.put, q73zA, q73zB, q73zC, i64_w, i32_w]
            rfl
           refine pure_ (i := 14) (N := some 66) (v := ?_) (a' := ?_) q73y37 rfl rfl (any_of HT_.out qa5) (fun _ _ _ h => h) (Or.inl ⟨by rfl, ?_⟩) ?_ ?_; rotate_left
           ·intro w'
            go_simp; (with_reducible rfl)
           rotate_left
           ·simp only [Act.put, q73zA, q73zB, q73zC, i64_w, i32_w]
            rfl
           refine pure_ (i := 15) (N := some 67) (v := ?_) (a' := ?_) q73y38 rfl rfl (any_of HT_.out qa5) (fun _ _ _ h => h) (Or.inl ⟨by rfl, ?_⟩) ?_ ?_; rotate_left
           ·intro w'
            go_simp; (with_reducible rfl)
           rotate_left
           ·simp only [Act.put, q73zA, q73zB, q73zC, i64_w, i32_w]
            rfl
           refine take_ (i := 1) (N := some 53) (v := ?_) (a' := ?_) q73y39 rfl rfl (take_ofW HT_.out HW_.out qa5) (fun _ _ _ h => h) (Or.inl ⟨by rfl, ?_⟩) hHeld ?_ ?_; rotate_left
           ·rintro w' ⟨s0, s1, s2, s3, s4, s5⟩
            go_simp; (with_reducible rfl)
           rotate_left
           ·simp only [Act.put, q73zA, q73zB, q73zC, i64_w, i32_w]
            rfl
           refine take_ (i := 6) (N := some 58) (v := ?_) (a' := ?_) q73y40 rfl rfl (take_ofW HT_.out HW_.out qa5) (fun _ _ _ h => h) (Or.inl ⟨by rfl, ?_⟩) hHeld ?_ ?_; rotate_left
           ·rintro w' ⟨s0, s1, s2, s3, s4, s5⟩
            go_simp; (with_reducible rfl)
           rotate_left
           ·simp only [Act.put, q73zA, q73zB, q73zC, i64_w, i32_w]
            rfl
           refine take_ (i := 11) (N := some 63) (v := ?_) (a' := ?_) q73y41 rfl rfl (take_ofW HT_.out HW_.out qa5) (fun _ _ _ h => h) (Or.inl ⟨by rfl, ?_⟩) hHeld ?_ ?_; rotate_left
           ·rintro w' ⟨s0, s1, s2, s3, s4, s5⟩
            go_simp; (with_reducible rfl)
           rotate_left
           ·simp only [Act.put, q73zA, q73zB, q73zC, i64_w, i32_w]
            rfl
           refine take_ (i := 16) (N := some 68) (v := ?_) (a' := ?_) q73y42 rfl rfl (take_ofW HT_.out HW_.out qa5) (fun _ _ _ h => h) (Or.inl ⟨by rfl, ?_⟩) hHeld ?_ ?_; rotate_left
           ·rintro w' ⟨s0, s1, s2, s3, s4, s5⟩
            go_simp; (with_reducible rfl)
           rotate_left
           ·simp only [Act.put, q73zA, q73zB, q73zC, i64_w, i32_w]
            rfl
           refine pure_ (i := 17) (N := some 69) (v := ?_) (a' := ?_) q73y43 rfl rfl (any_of HT_.out qa5) (fun _ _ _ h => h) (Or.inl ⟨by rfl, ?_⟩) ?_ ?_; rotate_left
           ·intro w'
            go_simp; (with_reducible rfl)
           rotate_left
           ·simp only [Act.put, q73zA, q73zB, q73zC, i64_w, i32_w]
            rfl
           refine join_ (σ := Value × Value × Value) 3 q73y44 (fun s_ => [(59, s_.1), (61, s_.2.1), (70, s_.2.2)]) (fun s_ w' => (w'.cell? ⟨gb101, 0, none⟩ = some (.slice (some ad108) x102000_1.length co65) ∧ w'.cell? ⟨gb101, 1, none⟩ = some (.int .i64 (wrap64 (t106 + 1))) ∧ w'.cell? (ad107.add ((x5_1).toNat * 2)) = some (.int .i64 ((rd_T58 l1 x5_1).f0)) ∧ w'.cell? ⟨(ad107.add ((x5_1).toNat * 2)).block, (ad107.add ((x5_1).toNat * 2)).off + 1, none⟩ = some (.int .i64 ((rd_T58 l1 x5_1).f1)) ∧ w'.cell? (ad107.add ((x5_1).toNat * 2)) = some (.int .i64 ((rd_T58 l1 x5_1).f0)) ∧ w'.cell? ⟨(ad107.add ((x5_1).toNat * 2)).block, (ad107.add ((x5_1).toNat * 2)).off + 1, none⟩ = some (.int .i64 ((rd_T58 l1 x5_1).f1))) ∧ (Kd.V k43 43 w' w.heap.size (fun k_ => (P0_0_ k_ ∨ w.heap.size ≤ k_) ∧ some k_ ≠ (s_.2.1 : Value).ownBlock ∧ some k_ ≠ (s_.2.2 : Value).ownBlock ∧ some k_ ≠ (.slice (some ad108) x102000_1.length co65 : Value).ownBlock ∧ k_ ≠ gb101 ∧ k_ ≠ gb102) (.slice A108_0 (rd_L4 x102000_1 ((rd_T58 l1 x5_1).f0)).length c108_0) (rd_L4 x102000_1 ((rd_T58 l1 x5_1).f0))) ∧ (Kd.R k43 43 w' w.heap.size (fun k_ => (w.heap.size ≤ k_) ∧ some k_ ≠ (s_.2.2 : Value).ownBlock) s_.2.1 y149) ∧ (Kd.R k43 43 w' w.heap.size (fun k_ => (w.heap.size ≤ k_) ∧ some k_ ≠ (s_.2.1 : Value).ownBlock) s_.2.2 y153) ∧ (Kd.N (Kd.slice 43 k43) 41 w' w.heap.size (fun k_ => (P0_0_ k_ ∨ w.heap.size ≤ k_) ∧ some k_ ≠ (s_.2.1 : Value).ownBlock ∧ some k_ ≠ (s_.2.2 : Value).ownBlock ∧ k_ ≠ gb101 ∧ k_ ≠ gb102) (.slice (some ad108) x102000_1.length co65) x102000_1) ∧ (w'.heap[gb101]? = some (.cells #[.slice (some ad108) x102000_1.length co65, .int .i64 (wrap64 (t106 + 1))] 28 (0, 0))) ∧ (w'.heap[gb102]? = some (.cells #[.slice none 0 0, .int .i64 0] 28 (0, 0))) ∧ (Below w.heap.size w w')) ?_ ?_; rotate_left
           ·intro hCont
            refine two_ (i := 7) (j := 18) (Ni := some 59) (Nj := some 70) q73y45 q73y46 rfl rfl rfl rfl (two_of HT_.out qa5) qa51 qa51 (fun K hK => ?_) (fun K hK => ?_)
            ·skip
             refine Kd.R_lit_step k43 _ 43 ?hg (N := 59) ?hd (xs := ([] : List (S43))) (inner := []) (ok := fun _ => True) (okp := fun _ => True) ?hr ?hp (fun _ hk => hk) trivial (Below.refl _ _) (Nat.le_refl _) qa117 ?_; (case hd => rfl); (case hg => rfl); (case hr => exact qa10); (case hp => exact qa190); intro v147 w68 ho69 hb hg_ hnew_; clear hg_ hnew_; (first | rw [← Ny146.out] at ho69 | (simp only [Int.reduceToNat] at ho69; rw [← Ny146.out] at ho69)); have HO148 := q73O (Kd.R_lower (Kd.R_newM (M := fun k_ => (w.heap.size ≤ k_)) ho69 (below_size qa6) (fun k_ h_ => h_)) (below_size qa6)); replace HO_102000 := q73O (Kd.N_elder' qa41 (Kd.R_base ho69) hb); replace HL108_0 := q73O (Kd.V_elder' qa47 (Kd.R_base ho69) hb); replace BK101 := q73O (blk_below (g := gb101) (o := .cells #[.slice (some ad108) x102000_1.length co65, .int .i64 (wrap64 (t106 + 1))] 28 (0, 0)) qa21 hb); replace BK102 := q73O (blk_below (g := gb102) (o := .cells #[.slice none 0 0, .int .i64 0] 28 (0, 0)) qa23 hb); replace HR108_0 := q73O (Kd.C_below qa27 hb); replace HB := q73O (below_step qa6 hb); clear hb ho69; refine hK.out _ _ ⟨qc0 BK101.out, qc1 BK101.out, ((HB.out.cell (q73L w _ hw145_0)).trans hw145_0), ((HB.out.cell (q73L w _ hw145_1)).trans hw145_1), ((HB.out.cell (q73L w _ hw152_0)).trans hw152_0), ((HB.out.cell (q73L w _ hw152_1)).trans hw152_1)⟩ (fun hHeld => ?_); clear hK K; refine norm_ (a' := ?_) ?_ ?_; rotate_left
             ·exact qa24
             refine two_ (i := 9) (j := 18) (Ni := some 61) (Nj := some 70) q73y47 q73y48 rfl rfl rfl rfl (two_of HT_.out qa5) qa51 qa51 (fun K hK => ?_) (fun K hK => ?_)
             ·skip
              refine Kd.R_append_rows_step k43 (w0 := w) w.heap.size (by rfl) (.tmp 59) (.tmp 60) 41 43 (.agg #[(.int .i64 0), (.int .i64 0)]) 16 rfl Try.underlying41 info43 rfl qa51 qa29 v147 y146 (rd_L4 x102000_1 ((rd_T58 l1 x5_1).f0)) _ _ _ (fun k_ => (w.heap.size ≤ k_)) (fun _ => False) rfl rfl ?aO ?aR (fun _ _ h => h) (fun _ h => h.elim) ?aF ?aB ?aS ?aL ?_; (case aR => exact qa44); (case aB => exact qa40); (case aF => exact qa89); (case aO => exact (by (with_reducible repeat (first | apply Kd.R_alloc | apply Kd.R_drewN | apply Kd.R_drew)); exact Kd.R_mono HO148.out (fun _ hk => hk.1))); (case aS => exact qa32); (case aL => have := LMc61.out; omega); intro v150 w70 ho hb hg hat; rw [← Ny149.out] at ho; have n0_ := q73O (Kd.N_afterv (ok := (fun k_ => (P0_0_ k_ ∨ w.heap.size ≤ k_) ∧ k_ ≠ gb101 ∧ k_ ≠ gb102)) qa41 hg hat); have n1_ := q73O (blk_grown (g := gb101) (o := .cells #[.slice (some ad108) x102000_1.length co65, .int .i64 (wrap64 (t106 + 1))] 28 (0, 0)) qa21 hg (Kd.R_ne HO148.out BK101.out qa51)); have n2_ := q73O (blk_grown (g := gb102) (o := .cells #[.slice none 0 0, .int .i64 0] 28 (0, 0)) qa23 hg (Kd.R_ne HO148.out BK102.out qa51)); have n3_ := q73O (Kd.V_afterv (ok := (fun k_ => (P0_0_ k_ ∨ w.heap.size ≤ k_) ∧ some k_ ≠ (.slice (some ad108) x102000_1.length co65 : Value).ownBlock ∧ k_ ≠ gb101 ∧ k_ ≠ gb102)) qa108 hg hat); have n4_ := q73O (hb); have n5_ := q73O (ho); clear HO_102000 BK101 BK102 HL108_0 HB HO148; have HO_102000 := n0_; have BK101 := n1_; have BK102 := n2_; have HL108_0 := n3_; have HB := n4_; have HO151 := n5_; clear n0_ n1_ n2_ n3_ n4_ n5_ ho hb hg hat; refine hK.out _ _ ⟨qc0 BK101.out, qc1 BK101.out, ((HB.out.cell (q73L w _ hw145_0)).trans hw145_0), ((HB.out.cell (q73L w _ hw145_1)).trans hw145_1), ((HB.out.cell (q73L w _ hw152_0)).trans hw152_0), ((HB.out.cell (q73L w _ hw152_1)).trans hw152_1)⟩ (fun hHeld => ?_); clear hK K; refine norm_ (a' := ?_) ?_ ?_; rotate_left
              ·exact qa24
              refine one_ (i := 18) (N := some 70) q73y44 rfl rfl (one_of HT_.out qa5) qa51 (fun K hK => ?_); refine Kd.R_lit_step k43 _ 43 ?hg (N := 70) ?hd (xs := ([(⟨(wrap64 (t106 + 1)), (rd_T58 l1 x5_1).f1⟩ : S43)] : List (S43))) (inner := [.int .i64 (wrap64 (t106 + 1)), .int .i64 ((rd_T58 l1 x5_1).f1)]) (ok := fun _ => True) (okp := fun _ => True) ?hr ?hp (fun _ hk => hk) trivial (Below.refl _ _) (Nat.le_refl _) qa117 ?_; (case hd => rfl); (case hg => rfl); (case hr => exact qa10); (case hp => exact qa36); intro v154 w71 ho72 hb hg_ hnew_; clear hg_ hnew_; (first | rw [← Ny153.out] at ho72 | (simp only [Int.reduceToNat] at ho72; rw [← Ny153.out] at ho72)); have HO155 := q73O (Kd.R_lower (Kd.R_new' (Kd.R_newM (M := fun k_ => (w.heap.size ≤ k_)) ho72 (below_size qa6) (fun k_ h_ => h_)) (Kd.R_lt qa174)) (below_size qa6)); replace HO_102000 := q73O (Kd.N_elder' qa41 (Kd.R_base ho72) hb); replace HL108_0 := q73O (Kd.V_elder' qa47 (Kd.R_base ho72) hb); replace HO151 := q73O (Kd.R_elder' qa174 (Kd.R_base ho72) hb); replace BK101 := q73O (blk_below (g := gb101) (o := .cells #[.slice (some ad108) x102000_1.length co65, .int .i64 (wrap64 (t106 + 1))] 28 (0, 0)) qa21 hb); replace BK102 := q73O (blk_below (g := gb102) (o := .cells #[.slice none 0 0, .int .i64 0] 28 (0, 0)) qa23 hb); replace HB := q73O (below_step qa6 hb); clear hb ho72; refine hK.out _ _ ⟨qc0 BK101.out, qc1 BK101.out, ((HB.out.cell (q73L w _ hw145_0)).trans hw145_0), ((HB.out.cell (q73L w _ hw145_1)).trans hw145_1), ((HB.out.cell (q73L w _ hw152_0)).trans hw152_0), ((HB.out.cell (q73L w _ hw152_1)).trans hw152_1)⟩ (fun hHeld => ?_); clear hK K; refine norm_ (a' := ?_) ?_ ?_; rotate_left
              ·exact qa24
              exact norm_ (by simp only [putAll, Act.put, q73zA, q73zB, q73zC]) (hCont (v147, v150, v154) _ ⟨hHeld, (by (with_reducible repeat (first | apply Kd.V_alloc | apply Kd.V_drewN | apply Kd.V_drew)); exact Kd.V_mono HL108_0.out (fun _ hk => ⟨hk.1.1.1, ⟨hk.1.2, ⟨hk.2, ⟨hk.1.1.2.1, ⟨hk.1.1.2.2.1, hk.1.1.2.2.2⟩⟩⟩⟩⟩)), (by (with_reducible repeat (first | apply Kd.R_alloc | apply Kd.R_drewN | apply Kd.R_drew)); exact HO151.out), (by (with_reducible repeat (first | apply Kd.R_alloc | apply Kd.R_drewN | apply Kd.R_drew)); exact Kd.R_mono HO155.out (fun _ hk => ⟨hk.1.1, hk.2⟩)), (by (with_reducible repeat (first | apply Kd.N_alloc | apply Kd.N_drewN | apply Kd.N_drew)); exact Kd.N_mono HO_102000.out (fun _ hk => ⟨hk.1.1.1, ⟨hk.1.2, ⟨hk.2, ⟨hk.1.1.2.1, hk.1.1.2.2⟩⟩⟩⟩)), (by (with_reducible repeat (first | refine q73kN ?_ _ | refine q73kD ?_ | refine q73kA ?_ _)); exact BK101.out), (by (with_reducible repeat (first | refine q73kN ?_ _ | refine q73kD ?_ | refine q73kA ?_ _)); exact BK102.out), (by repeat (first | (with_reducible first | exact HB.out | apply q73bA | apply q73bN | apply q73bD | refine q73bS ?_ GE101.out | refine q73bS ?_ GE102.out) | exact HB.out))⟩)
             ·skip
              refine Kd.R_lit_step k43 _ 43 ?hg (N := 70) ?hd (xs := ([(⟨(wrap64 (t106 + 1)), (rd_T58 l1 x5_1).f1⟩ : S43)] : List (S43))) (inner := [.int .i64 (wrap64 (t106 + 1)), .int .i64 ((rd_T58 l1 x5_1).f1)]) (ok := fun _ => True) (okp := fun _ => True) ?hr ?hp (fun _ hk => hk) trivial (Below.refl _ _) (Nat.le_refl _) qa117 ?_; (case hd => rfl); (case hg => rfl); (case hr => exact qa10); (case hp => exact qa36); intro v154 w70 ho71 hb hg_ hnew_; clear hg_ hnew_; (first | rw [← Ny153.out] at ho71 | (simp only [Int.reduceToNat] at ho71; rw [← Ny153.out] at ho71)); have HO155 := q73O (Kd.R_lower (Kd.R_new' (Kd.R_newM (M := fun k_ => (w.heap.size ≤ k_)) ho71 (below_size qa6) (fun k_ h_ => h_)) (Kd.R_lt qa175)) (below_size qa6)); replace HO_102000 := q73O (Kd.N_elder' qa41 (Kd.R_base ho71) hb); replace HL108_0 := q73O (Kd.V_elder' qa47 (Kd.R_base ho71) hb); replace HO148 := q73O (Kd.R_elder' qa175 (Kd.R_base ho71) hb); replace BK101 := q73O (blk_below (g := gb101) (o := .cells #[.slice (some ad108) x102000_1.length co65, .int .i64 (wrap64 (t106 + 1))] 28 (0, 0)) qa21 hb); replace BK102 := q73O (blk_below (g := gb102) (o := .cells #[.slice none 0 0, .int .i64 0] 28 (0, 0)) qa23 hb); replace HR108_0 := q73O (Kd.C_below qa27 hb); replace HB := q73O (below_step qa6 hb); clear hb ho71; refine hK.out _ _ ⟨qc0 BK101.out, qc1 BK101.out, ((HB.out.cell (q73L w _ hw145_0)).trans hw145_0), ((HB.out.cell (q73L w _ hw145_1)).trans hw145_1), ((HB.out.cell (q73L w _ hw152_0)).trans hw152_0), ((HB.out.cell (q73L w _ hw152_1)).trans hw152_1)⟩ (fun hHeld => ?_); clear hK K; refine norm_ (a' := ?_) ?_ ?_; rotate_left
              ·exact qa24
              refine one_ (i := 9) (N := some 61) q73y44 rfl rfl (one_of HT_.out qa5) qa51 (fun K hK => ?_); refine Kd.R_append_rows_step k43 (w0 := w) w.heap.size (by rfl) (.tmp 59) (.tmp 60) 41 43 (.agg #[(.int .i64 0), (.int .i64 0)]) 16 rfl Try.underlying41 info43 rfl qa51 qa29 v147 y146 (rd_L4 x102000_1 ((rd_T58 l1 x5_1).f0)) _ _ _ (fun k_ => (w.heap.size ≤ k_) ∧ some k_ ≠ (v154 : Value).ownBlock) (fun _ => False) rfl rfl ?aO ?aR (fun _ _ h => h) (fun _ h => h.elim) ?aF ?aB ?aS ?aL ?_; (case aR => exact qa44); (case aB => exact qa40); (case aF => exact qa64); (case aO => exact qa158); (case aS => exact qa32); (case aL => have := LMc61.out; omega); intro v150 w72 ho hb hg hat; rw [← Ny149.out] at ho; have n0_ := q73O (Kd.N_afterv (ok := (fun k_ => (P0_0_ k_ ∨ w.heap.size ≤ k_) ∧ some k_ ≠ (v154 : Value).ownBlock ∧ k_ ≠ gb101 ∧ k_ ≠ gb102)) qa105 hg hat); have n1_ := q73O (blk_grown (g := gb101) (o := .cells #[.slice (some ad108) x102000_1.length co65, .int .i64 (wrap64 (t106 + 1))] 28 (0, 0)) qa21 hg (Kd.R_ne HO148.out BK101.out qa51)); have n2_ := q73O (blk_grown (g := gb102) (o := .cells #[.slice none 0 0, .int .i64 0] 28 (0, 0)) qa23 hg (Kd.R_ne HO148.out BK102.out qa51)); have n3_ := q73O (Kd.V_afterv (ok := (fun k_ => (P0_0_ k_ ∨ w.heap.size ≤ k_) ∧ some k_ ≠ (.slice (some ad108) x102000_1.length co65 : Value).ownBlock ∧ some k_ ≠ (v154 : Value).ownBlock ∧ k_ ≠ gb101 ∧ k_ ≠ gb102)) qa94 hg hat); have n4_ := q73O (Kd.R_after (ok := (fun k_ => (w.heap.size ≤ k_))) qa159 hg hat); have n5_ := q73O (hb); have n6_ := q73O (ho); clear HO_102000 BK101 BK102 HL108_0 HO155 HB HO148; have HO_102000 := n0_; have BK101 := n1_; have BK102 := n2_; have HL108_0 := n3_; have HO155 := n4_; have HB := n5_; have HO151 := n6_; clear n0_ n1_ n2_ n3_ n4_ n5_ n6_ ho hb hg hat; refine hK.out _ _ ⟨qc0 BK101.out, qc1 BK101.out, ((HB.out.cell (q73L w _ hw145_0)).trans hw145_0), ((HB.out.cell (q73L w _ hw145_1)).trans hw145_1), ((HB.out.cell (q73L w _ hw152_0)).trans hw152_0), ((HB.out.cell (q73L w _ hw152_1)).trans hw152_1)⟩ (fun hHeld => ?_); clear hK K; refine norm_ (a' := ?_) ?_ ?_; rotate_left
              ·exact qa24
              exact norm_ (by simp only [putAll, Act.put, q73zA, q73zB, q73zC]) (hCont (v147, v150, v154) _ ⟨hHeld, (by (with_reducible repeat (first | apply Kd.V_alloc | apply Kd.V_drewN | apply Kd.V_drew)); exact Kd.V_mono HL108_0.out (fun _ hk => ⟨hk.1.1, ⟨hk.2, ⟨hk.1.2.2.1, ⟨hk.1.2.1, ⟨hk.1.2.2.2.1, hk.1.2.2.2.2⟩⟩⟩⟩⟩)), (by (with_reducible repeat (first | apply Kd.R_alloc | apply Kd.R_drewN | apply Kd.R_drew)); exact HO151.out), (by (with_reducible repeat (first | apply Kd.R_alloc | apply Kd.R_drewN | apply Kd.R_drew)); exact HO155.out), (by (with_reducible repeat (first | apply Kd.N_alloc | apply Kd.N_drewN | apply Kd.N_drew)); exact Kd.N_mono HO_102000.out (fun _ hk => ⟨hk.1.1, ⟨hk.2, ⟨hk.1.2.1, ⟨hk.1.2.2.1, hk.1.2.2.2⟩⟩⟩⟩)), (by (with_reducible repeat (first | refine q73kN ?_ _ | refine q73kD ?_ | refine q73kA ?_ _)); exact BK101.out), (by (with_reducible repeat (first | refine q73kN ?_ _ | refine q73kD ?_ | refine q73kA ?_ _)); exact BK102.out), (by repeat (first | (with_reducible first | exact HB.out | apply q73bA | apply q73bN | apply q73bD | refine q73bS ?_ GE101.out | refine q73bS ?_ GE102.out) | exact HB.out))⟩)
            ·skip
             refine Kd.R_lit_step k43 _ 43 ?hg (N := 70) ?hd (xs := ([(⟨(wrap64 (t106 + 1)), (rd_T58 l1 x5_1).f1⟩ : S43)] : List (S43))) (inner := [.int .i64 (wrap64 (t106 + 1)), .int .i64 ((rd_T58 l1 x5_1).f1)]) (ok := fun _ => True) (okp := fun _ => True) ?hr ?hp (fun _ hk => hk) trivial (Below.refl _ _) (Nat.le_refl _) qa117 ?_; (case hd => rfl); (case hg => rfl); (case hr => exact qa10); (case hp => exact qa36); intro v154 w68 ho69 hb hg_ hnew_; clear hg_ hnew_; (first | rw [← Ny153.out] at ho69 | (simp only [Int.reduceToNat] at ho69; rw [← Ny153.out] at ho69)); have HO155 := q73O (Kd.R_lower (Kd.R_newM (M := fun k_ => (w.heap.size ≤ k_)) ho69 (below_size qa6) (fun k_ h_ => h_)) (below_size qa6)); replace HO_102000 := q73O (Kd.N_elder' qa41 (Kd.R_base ho69) hb); replace HL108_0 := q73O (Kd.V_elder' qa47 (Kd.R_base ho69) hb); replace BK101 := q73O (blk_below (g := gb101) (o := .cells #[.slice (some ad108) x102000_1.length co65, .int .i64 (wrap64 (t106 + 1))] 28 (0, 0)) qa21 hb); replace BK102 := q73O (blk_below (g := gb102) (o := .cells #[.slice none 0 0, .int .i64 0] 28 (0, 0)) qa23 hb); replace HR108_0 := q73O (Kd.C_below qa27 hb); replace HB := q73O (below_step qa6 hb); clear hb ho69; refine hK.out _ _ ⟨qc0 BK101.out, qc1 BK101.out, ((HB.out.cell (q73L w _ hw145_0)).trans hw145_0), ((HB.out.cell (q73L w _ hw145_1)).trans hw145_1), ((HB.out.cell (q73L w _ hw152_0)).trans hw152_0), ((HB.out.cell (q73L w _ hw152_1)).trans hw152_1)⟩ (fun hHeld => ?_); clear hK K; refine norm_ (a' := ?_) ?_ ?_; rotate_left
             ·exact qa24
             refine one_ (i := 7) (N := some 59) q73y48 rfl rfl (one_of HT_.out qa5) qa51 (fun K hK => ?_); refine Kd.R_lit_step k43 _ 43 ?hg (N := 59) ?hd (xs := ([] : List (S43))) (inner := []) (ok := fun _ => True) (okp := fun _ => True) ?hr ?hp (fun _ hk => hk) trivial (Below.refl _ _) (Nat.le_refl _) qa117 ?_; (case hd => rfl); (case hg => rfl); (case hr => exact qa10); (case hp => exact qa190); intro v147 w70 ho71 hb hg_ hnew_; clear hg_ hnew_; (first | rw [← Ny146.out] at ho71 | (simp only [Int.reduceToNat] at ho71; rw [← Ny146.out] at ho71)); have HO148 := q73O (Kd.R_lower (Kd.R_new' (Kd.R_newM (M := fun k_ => (w.heap.size ≤ k_)) ho71 (below_size qa6) (fun k_ h_ => h_)) (Kd.R_lt qa142)) (below_size qa6)); replace HO_102000 := q73O (Kd.N_elder' qa41 (Kd.R_base ho71) hb); replace HL108_0 := q73O (Kd.V_elder' qa47 (Kd.R_base ho71) hb); replace HO155 := q73O (Kd.R_elder' qa142 (Kd.R_base ho71) hb); replace BK101 := q73O (blk_below (g := gb101) (o := .cells #[.slice (some ad108) x102000_1.length co65, .int .i64 (wrap64 (t106 + 1))] 28 (0, 0)) qa21 hb); replace BK102 := q73O (blk_below (g := gb102) (o := .cells #[.slice none 0 0, .int .i64 0] 28 (0, 0)) qa23 hb); replace HR108_0 := q73O (Kd.C_below qa27 hb); replace HB := q73O (below_step qa6 hb); clear hb ho71; refine hK.out _ _ ⟨qc0 BK101.out, qc1 BK101.out, ((HB.out.cell (q73L w _ hw145_0)).trans hw145_0), ((HB.out.cell (q73L w _ hw145_1)).trans hw145_1), ((HB.out.cell (q73L w _ hw152_0)).trans hw152_0), ((HB.out.cell (q73L w _ hw152_1)).trans hw152_1)⟩ (fun hHeld => ?_); clear hK K; refine norm_ (a' := ?_) ?_ ?_; rotate_left
             ·exact qa24
             refine one_ (i := 9) (N := some 61) q73y44 rfl rfl (one_of HT_.out qa5) qa51 (fun K hK => ?_); refine Kd.R_append_rows_step k43 (w0 := w) w.heap.size (by rfl) (.tmp 59) (.tmp 60) 41 43 (.agg #[(.int .i64 0), (.int .i64 0)]) 16 rfl Try.underlying41 info43 rfl qa51 qa29 v147 y146 (rd_L4 x102000_1 ((rd_T58 l1 x5_1).f0)) _ _ _ (fun k_ => (w.heap.size ≤ k_) ∧ some k_ ≠ (v154 : Value).ownBlock) (fun _ => False) rfl rfl ?aO ?aR (fun _ _ h => h) (fun _ h => h.elim) ?aF ?aB ?aS ?aL ?_; (case aR => exact qa44); (case aB => exact qa40); (case aF => exact qa64); (case aO => exact qa158); (case aS => exact qa32); (case aL => have := LMc61.out; omega); intro v150 w72 ho hb hg hat; rw [← Ny149.out] at ho; have n0_ := q73O (Kd.N_afterv (ok := (fun k_ => (P0_0_ k_ ∨ w.heap.size ≤ k_) ∧ some k_ ≠ (v154 : Value).ownBlock ∧ k_ ≠ gb101 ∧ k_ ≠ gb102)) qa106 hg hat); have n1_ := q73O (blk_grown (g := gb101) (o := .cells #[.slice (some ad108) x102000_1.length co65, .int .i64 (wrap64 (t106 + 1))] 28 (0, 0)) qa21 hg (Kd.R_ne HO148.out BK101.out qa51)); have n2_ := q73O (blk_grown (g := gb102) (o := .cells #[.slice none 0 0, .int .i64 0] 28 (0, 0)) qa23 hg (Kd.R_ne HO148.out BK102.out qa51)); have n3_ := q73O (Kd.V_afterv (ok := (fun k_ => (P0_0_ k_ ∨ w.heap.size ≤ k_) ∧ some k_ ≠ (.slice (some ad108) x102000_1.length co65 : Value).ownBlock ∧ some k_ ≠ (v154 : Value).ownBlock ∧ k_ ≠ gb101 ∧ k_ ≠ gb102)) qa95 hg hat); have n4_ := q73O (Kd.R_after (ok := (fun k_ => (w.heap.size ≤ k_))) qa159 hg hat); have n5_ := q73O (hb); have n6_ := q73O (ho); clear HO_102000 BK101 BK102 HL108_0 HO155 HB HO148; have HO_102000 := n0_; have BK101 := n1_; have BK102 := n2_; have HL108_0 := n3_; have HO155 := n4_; have HB := n5_; have HO151 := n6_; clear n0_ n1_ n2_ n3_ n4_ n5_ n6_ ho hb hg hat; refine hK.out _ _ ⟨qc0 BK101.out, qc1 BK101.out, ((HB.out.cell (q73L w _ hw145_0)).trans hw145_0), ((HB.out.cell (q73L w _ hw145_1)).trans hw145_1), ((HB.out.cell (q73L w _ hw152_0)).trans hw152_0), ((HB.out.cell (q73L w _ hw152_1)).trans hw152_1)⟩ (fun hHeld => ?_); clear hK K; refine norm_ (a' := ?_) ?_ ?_; rotate_left
             ·exact qa24
             exact norm_ (by simp only [putAll, Act.put, q73zA, q73zB, q73zC]) (hCont (v147, v150, v154) _ ⟨hHeld, (by (with_reducible repeat (first | apply Kd.V_alloc | apply Kd.V_drewN | apply Kd.V_drew)); exact Kd.V_mono HL108_0.out (fun _ hk => ⟨hk.1.1, ⟨hk.2, ⟨hk.1.2.2.1, ⟨hk.1.2.1, ⟨hk.1.2.2.2.1, hk.1.2.2.2.2⟩⟩⟩⟩⟩)), (by (with_reducible repeat (first | apply Kd.R_alloc | apply Kd.R_drewN | apply Kd.R_drew)); exact HO151.out), (by (with_reducible repeat (first | apply Kd.R_alloc | apply Kd.R_drewN | apply Kd.R_drew)); exact HO155.out), (by (with_reducible repeat (first | apply Kd.N_alloc | apply Kd.N_drewN | apply Kd.N_drew)); exact Kd.N_mono HO_102000.out (fun _ hk => ⟨hk.1.1, ⟨hk.2, ⟨hk.1.2.1, ⟨hk.1.2.2.1, hk.1.2.2.2⟩⟩⟩⟩)), (by (with_reducible repeat (first | refine q73kN ?_ _ | refine q73kD ?_ | refine q73kA ?_ _)); exact BK101.out), (by (with_reducible repeat (first | refine q73kN ?_ _ | refine q73kD ?_ | refine q73kA ?_ _)); exact BK102.out), (by repeat (first | (with_reducible first | exact HB.out | apply q73bA | apply q73bN | apply q73bD | refine q73bS ?_ GE101.out | refine q73bS ?_ GE102.out) | exact HB.out))⟩)
           rintro ⟨v147, v150, v154⟩ w73 ⟨hS_, h0_, h1_, h2_, h3_, h4_, h5_, h6_⟩; have n0_ : Aside0 (Kd.V k43 43 w73 w.heap.size (fun k_ => (P0_0_ k_ ∨ w.heap.size ≤ k_) ∧ some k_ ≠ (v150 : Value).ownBlock ∧ some k_ ≠ (v154 : Value).ownBlock ∧ some k_ ≠ (.slice (some ad108) x102000_1.length co65 : Value).ownBlock ∧ k_ ≠ gb101 ∧ k_ ≠ gb102) (.slice A108_0 (rd_L4 x102000_1 ((rd_T58 l1 x5_1).f0)).length c108_0) (rd_L4 x102000_1 ((rd_T58 l1 x5_1).f0))) := ⟨h0_⟩; have n1_ : Aside0 (Kd.R k43 43 w73 w.heap.size (fun k_ => (w.heap.size ≤ k_) ∧ some k_ ≠ (v154 : Value).ownBlock) v150 y149) := ⟨h1_⟩; have n2_ : Aside0 (Kd.R k43 43 w73 w.heap.size (fun k_ => (w.heap.size ≤ k_) ∧ some k_ ≠ (v150 : Value).ownBlock) v154 y153) := ⟨h2_⟩; have n3_ : Aside0 (Kd.N (Kd.slice 43 k43) 41 w73 w.heap.size (fun k_ => (P0_0_ k_ ∨ w.heap.size ≤ k_) ∧ some k_ ≠ (v150 : Value).ownBlock ∧ some k_ ≠ (v154 : Value).ownBlock ∧ k_ ≠ gb101 ∧ k_ ≠ gb102) (.slice (some ad108) x102000_1.length co65) x102000_1) := ⟨h3_⟩; have n4_ : Aside0 (w73.heap[gb101]? = some (.cells #[.slice (some ad108) x102000_1.length co65, .int .i64 (wrap64 (t106 + 1))] 28 (0, 0))) := ⟨h4_⟩; have n5_ : Aside0 (w73.heap[gb102]? = some (.cells #[.slice none 0 0, .int .i64 0] 28 (0, 0))) := ⟨h5_⟩; have n6_ : Aside0 (Below w.heap.size w w73) := ⟨h6_⟩; clear HO_102000 HL108_0 BK101 BK102 HR108_0 HB h0_ h1_ h2_ h3_ h4_ h5_ h6_; have HL108_0 := n0_; have HO151 := n1_; have HO155 := n2_; have HO_102000 := n3_; have BK101 := n4_; have BK102 := n5_; have HB := n6_; clear n0_ n1_ n2_ n3_ n4_ n5_ n6_; have hHeld : w73.cell? ⟨gb101, 0, none⟩ = some (.slice (some ad108) x102000_1.length co65) ∧ w73.cell? ⟨gb101, 1, none⟩ = some (.int .i64 (wrap64 (t106 + 1))) ∧ w73.cell? (ad107.add ((x5_1).toNat * 2)) = some (.int .i64 ((rd_T58 l1 x5_1).f0)) ∧ w73.cell? ⟨(ad107.add ((x5_1).toNat * 2)).block, (ad107.add ((x5_1).toNat * 2)).off + 1, none⟩ = some (.int .i64 ((rd_T58 l1 x5_1).f1)) ∧ w73.cell? (ad107.add ((x5_1).toNat * 2)) = some (.int .i64 ((rd_T58 l1 x5_1).f0)) ∧ w73.cell? ⟨(ad107.add ((x5_1).toNat * 2)).block, (ad107.add ((x5_1).toNat * 2)).off + 1, none⟩ = some (.int .i64 ((rd_T58 l1 x5_1).f1)) := hS_; obtain ⟨Ao75, co75, eo75⟩ := Kd.R_slice HO155.out; (first | subst eo75 | (injection eo75 with f1_ f2_ f3_; have f4_ := f1_.symm; have f5_ := f3_.symm; clear f1_ f2_ f3_; subst f4_; subst f5_)); refine norm_ (a' := ?_) ?_ ?_; rotate_left
           ·simp only [putAll, Act.put, q73zA, q73zB, q73zC]
            rfl
           refine one_ (i := 19) (N := some 71) q73y49 rfl rfl (one_of HT_.out qa5) qa51 (fun K hK => ?_); refine Kd.R_append_rows_step k43 (w0 := w) w.heap.size (by rfl) (.tmp 61) (.tmp 70) 41 43 (.agg #[(.int .i64 0), (.int .i64 0)]) 16 rfl Try.underlying41 info43 rfl qa51 qa29 v150 y149 y153 _ _ _ (fun k_ => (w.heap.size ≤ k_) ∧ some k_ ≠ (.slice Ao75 y153.length co75 : Value).ownBlock) (fun _ => False) rfl rfl ?aO ?aR (fun _ _ h => h) (fun _ h => h.elim) ?aF ?aB ?aS ?aL ?_; (case aR => repeat (first | exact (Kd.R_reads' HO155.out).2.2 | with_reducible first | refine Kd.C_alloc ?_ _ | refine Kd.C_drewN ?_ _ | refine Kd.C_drew ?_)); (case aB => exact qa40); (case aF => exact qa64); (case aO => exact (by (with_reducible repeat (first | apply Kd.R_alloc | apply Kd.R_drewN | apply Kd.R_drew)); exact HO151.out)); (case aS => exact qa32); (case aL => have := LMc62.out; omega); intro v157 w74 ho hb hg hat; rw [← Ny156.out] at ho; have n0_ := q73O (Kd.N_afterv (ok := (fun k_ => (P0_0_ k_ ∨ w.heap.size ≤ k_) ∧ some k_ ≠ (.slice Ao75 y153.length co75 : Value).ownBlock ∧ k_ ≠ gb101 ∧ k_ ≠ gb102)) qa107 hg hat); have n1_ := q73O (blk_grown (g := gb101) (o := .cells #[.slice (some ad108) x102000_1.length co65, .int .i64 (wrap64 (t106 + 1))] 28 (0, 0)) qa21 hg (Kd.R_ne HO151.out BK101.out qa51)); have n2_ := q73O (blk_grown (g := gb102) (o := .cells #[.slice none 0 0, .int .i64 0] 28 (0, 0)) qa23 hg (Kd.R_ne HO151.out BK102.out qa51)); have n3_ := q73O (Kd.V_afterv (ok := (fun k_ => (P0_0_ k_ ∨ w.heap.size ≤ k_) ∧ some k_ ≠ (.slice (some ad108) x102000_1.length co65 : Value).ownBlock ∧ some k_ ≠ (.slice Ao75 y153.length co75 : Value).ownBlock ∧ k_ ≠ gb101 ∧ k_ ≠ gb102)) qa96 hg hat); have n4_ := q73O (Kd.R_after (ok := (fun k_ => (w.heap.size ≤ k_))) qa142 hg hat); have n5_ := q73O (hb); have n6_ := q73O (ho); clear HO_102000 BK101 BK102 HL108_0 HO155 HB HO151; have HO_102000 := n0_; have BK101 := n1_; have BK102 := n2_; have HL108_0 := n3_; have HO155 := n4_; have HB := n5_; have HO158 := n6_; clear n0_ n1_ n2_ n3_ n4_ n5_ n6_; obtain ⟨Av76, cv76, ev76⟩ := Kd.R_slice HO158.out; subst ev76; clear ho hb hg hat; have p63 : 0 ≤ (((rd_T58 l1 x5_1).f0) : Int) := q73T qa115; have q63 : (((rd_T58 l1 x5_1).f0) : Int) < ((x102000_1.length : Int) : Int) := q73T qa115; obtain ⟨go63, co63, eo63, gb63, gl63, cl63, HG63⟩ := Kd.N_form HO_102000.out qa29; (first | cases eo63 | (injection eo63 with ea_ en_ ec_; (first | subst ea_ | (injection ea_ with ea_; subst ea_)); subst ec_; clear en_)); have GB63 := q73O gb63; have GG63 := q73O HG63; clear gb63 gl63 HG63; (first | simp only [add_plain] at hx108_0 | skip); obtain ⟨ce63, hcl63, hM63, hcc63, hfr63⟩ := Kd.N_elem HO_102000.out [] (((rd_T58 l1 x5_1).f0) : Int) p63 q63; obtain ⟨ua63_0, uc63_0, rfl, ul63_0, ge63_0⟩ := Kd.FK_slice_open hM63; have hx63_0 := hcc63 0 _ rfl; have hf63_0 := hfr63 0; (try simp only [show ((Kd.slice 43 k43)).sz = 1 from rfl, Nat.mul_one, Nat.add_zero] at hx63_0); (try simp only [show ((Kd.slice 43 k43)).sz = 1 from rfl, Nat.mul_one, Nat.add_zero] at hf63_0); clear hcl63 hcc63 hfr63; (try clear hM63); replace p63 := eq_true p63; replace q63 := eq_true q63; have HX76 := q73O (show Kd.N (Kd.slice 43 k43) 41 _ w.heap.size (fun k_ => (P0_0_ k_ ∨ w.heap.size ≤ k_) ∧ some k_ ≠ (.slice Ao75 y153.length co75 : Value).ownBlock ∧ some k_ ≠ ((.slice Av76 y156.length cv76) : Value).ownBlock ∧ k_ ≠ gb101 ∧ k_ ≠ gb102) (.slice (some ⟨go63, 0, none⟩) x102000_1.length co65) x102000_1 from (Kd.N_mono (HO_102000.out) (fun k_ hk => ⟨hk.1.1, ⟨hk.1.2.1, ⟨hk.2, ⟨hk.1.2.2.1, hk.1.2.2.2⟩⟩⟩⟩))); replace HX76 := q73O (show Kd.N (Kd.slice 43 k43) 41 _ w.heap.size (fun k_ => (P0_0_ k_ ∨ w.heap.size ≤ k_) ∧ some k_ ≠ (.slice Ao75 y153.length co75 : Value).ownBlock ∧ k_ ≠ gb101 ∧ k_ ≠ gb102) (.slice (some ⟨go63, 0, none⟩) x102000_1.length co65) x102000_1 from Kd.N_mono HX76.out (fun k_ hk => ⟨hk.1, ⟨hk.2.1, ⟨hk.2.2.2.1, hk.2.2.2.2⟩⟩⟩)); obtain ⟨ce76, hcl76, hM76, hcc76, hfr76⟩ := Kd.N_elem HX76.out [] (((rd_T58 l1 x5_1).f0) : Int) (q73T qa115) (by have h_ : (((rd_T58 l1 x5_1).f0) : Int) < ((x102000_1.length : Int) : Int) := q73T qa115; first | exact h_ | (have e_ := (Kd.N_reads' HO_102000.out).1; omega) | simpa using h_); obtain ⟨ua76_0, uc76_0, rfl, ul76_0, ge76_0⟩ := Kd.FK_slice_open hM76; have HP76 := (Kd.N_seg HX76.out (((rd_T58 l1 x5_1).f0) : Int) (q73T qa115) (by have h_ : (((rd_T58 l1 x5_1).f0) : Int) < ((x102000_1.length : Int) : Int) := q73T qa115; first | exact h_ | (have e_ := (Kd.N_reads' HO_102000.out).1; omega) | simpa using h_) (seg := [(.slice Av76 y156.length cv76)]) (j := 0) hcl76 hcc76 (show 1 ≤ 1 from by decide) (x' := y156) (Kd.FK_slice_mk (Kd.R_reads' (Kd.R_mono (ok' := (fun k_ => ((fun k_ => (P0_0_ k_ ∨ w.heap.size ≤ k_) ∧ some k_ ≠ (.slice Ao75 y153.length co75 : Value).ownBlock ∧ k_ ≠ gb101 ∧ k_ ≠ gb102)) k_ ∧ k_ ≠ go63)) (Kd.R_types (Kd.R_types (Kd.R_apart' (HO158.out) (Kd.N_typed HO_102000.out) qa51) BK101.out qa51) BK102.out qa51) (fun k_ hk => ⟨⟨(.inr (hk.1.1.1.1)), ⟨hk.1.1.1.2, ⟨hk.1.2, hk.2⟩⟩⟩, fun e_ => (hk.1.1.2) qa189⟩))).2.1 (Kd.R_F (Kd.R_mono (ok' := (fun k_ => ((fun k_ => (P0_0_ k_ ∨ w.heap.size ≤ k_) ∧ some k_ ≠ (.slice Ao75 y153.length co75 : Value).ownBlock ∧ k_ ≠ gb101 ∧ k_ ≠ gb102)) k_ ∧ k_ ≠ go63)) (Kd.R_types (Kd.R_types (Kd.R_apart' (HO158.out) (Kd.N_typed HO_102000.out) qa51) BK101.out qa51) BK102.out qa51) (fun k_ hk => ⟨⟨(.inr (hk.1.1.1.1)), ⟨hk.1.1.1.2, ⟨hk.1.2, hk.2⟩⟩⟩, fun e_ => (hk.1.1.2) qa189⟩)))) (fun _ hk => hk)).1; (try simp only [show ((Kd.slice 43 k43)).sz = 1 from rfl, Nat.mul_one, Nat.add_zero] at HP76); rw [← Ny159.out] at HP76; have HQ76 := q73O HP76; clear hcl76 hcc76 hfr76; (try clear hM76); clear HP76; refine hK.out _ _ ⟨qc0 BK101.out, qc1 BK101.out, ((HB.out.cell (q73L w _ hw145_0)).trans hw145_0), ((HB.out.cell (q73L w _ hw145_1)).trans hw145_1), ((HB.out.cell (q73L w _ hw152_0)).trans hw152_0), ((HB.out.cell (q73L w _ hw152_1)).trans hw152_1)⟩ (fun hHeld => ?_); clear hK K; refine norm_ (a' := ?_) ?_ ?_; rotate_left
           ·exact qa24
           refine pure_ (i := 20) (N := some 72) (v := ?_) (a' := ?_) q73y50 rfl rfl (any_of HT_.out qa5) (fun _ _ _ h => h) (Or.inl ⟨by rfl, ?_⟩) ?_ ?_; rotate_left
           ·intro w'
            go_simp; (with_reducible rfl)
           rotate_left
           ·simp only [Act.put, q73zA, q73zB, q73zC, i64_w, i32_w]
            rfl
           refine last_ (i := 21) (N := none) q73y51 rfl rfl (one_of HT_.out qa5) qa51 (fun K hK => ?_); refine skip_ (w1 := ?_) (by rfl) rfl ?_ ?_; rotate_left
           ·go_simp
            rfl
           refine hK.out _ _ ?_; clear hK K; refine done_ (done_of HT_.out qa5) ?_
           try go_wp2
           go_roundg k1
           case measure => have := HK1.out; omega
           case rel => exact ⟨(wrap64 (x5_1 + 1)), (y159), (.slice (some ⟨go63, 0, none⟩) x102000_1.length co65), qa12, H', ⟨qa103⟩, ⟨by (with_reducible repeat (first | apply Kd.N_alloc | apply Kd.N_drewN | apply Kd.N_drew)); exact Kd.N_mono HQ76.out (fun _ hk => ⟨hk.1, ⟨hk.2.2.1, hk.2.2.2⟩⟩)⟩, ⟨qa70⟩, ⟨qa71⟩, ⟨by repeat (first | (with_reducible first | exact HB.out | apply q73bA | apply q73bN | apply q73bD | refine q73bS ?_ GB63.out | refine q73bS ?_ GE101.out | refine q73bS ?_ GE102.out) | exact HB.out)⟩⟩
          ·rw [if_neg c62] at H
           exact absurd H qa117
         ·rw [if_neg c61] at H
          exact absurd H qa117
       ·rw [if_neg c20] at H
        exact absurd H qa117
      ·rw [if_neg c19] at H
       exact absurd H qa117
     ·rw [if_neg c18] at H
      exact absurd H qa117
    ·rw [if_neg c17] at H
     have c17b0 : decide (x5_1 < (l1.length : Int)) = false := decide_eq_false c17; clear c17; simp only [Option.some.injEq, Prod.mk.injEq] at H; obtain ⟨rfl, rfl⟩ := H; have hnb77 := NB101_102.out; have hnc77 := NB102_101.out; obtain ⟨hcz78_0, hcz78_1, hfz78_0, hfz78_1⟩ := qb2 BK101.out; obtain ⟨Ao79, co79, eo79⟩ := Kd.N_slice HO_102000.out; subst eo79; obtain ⟨hcz80_0, hcz80_1, hfz80_0, hfz80_1⟩ := qb2 BK102.out; go_wp2; refine bodyPost_ret (results_cell_row rfl _ _ gb102 28 #[.slice Ao79 x102000_1.length co79, .int .i64 (wrap64 (t106 + 1))] (0, 0) _ rfl (by (with_reducible repeat (first | refine q73kN ?_ _ | refine q73kD ?_ | refine q73kA ?_ _)); refine blk_put (cs := #[.slice Ao79 x102000_1.length co79, .int .i64 0]) ?_ 1 _ rfl; (with_reducible repeat (first | refine q73kN ?_ _ | refine q73kD ?_ | refine q73kA ?_ _)); refine blk_put (cs := #[.slice none 0 0, .int .i64 0]) ?_ 0 _ rfl; (with_reducible repeat (first | refine q73kN ?_ _ | refine q73kD ?_ | refine q73kA ?_ _)); exact BK102.out) Try.underlying28 rfl qa5) rfl ?_
     exact ⟨_, qa7, Kd.N_V (by (with_reducible repeat (first | apply Kd.N_alloc | apply Kd.N_drewN | apply Kd.N_drew)); exact Kd.N_mono (Kd.N_far (p := ⟨gb102, 1, none⟩) (Kd.N_far (p := ⟨gb102, 0, none⟩) (Kd.N_mono HO_102000.out (fun k_ hk => (⟨hk, hk.2.2⟩ : _ ∧ k_ ≠ gb102))) (fun _ hk => hk.2) (.slice Ao79 x102000_1.length co79)) (fun _ hk => hk.2) (.int .i64 (wrap64 (t106 + 1)))) (fun _ hk => hk.1.1)), qa6⟩


def spec_l06Changed.f (l0_0 : List (List (S43))) (a0_1 : Int) (a1 : Int) (a2 : Int) : Option (Bool) := if 0 ≤ a1 then (if a1 < (l0_0.length : Int) then (if ((rd_L4 l0_0 a1).length : Int) > 0 then (if 0 ≤ (wrap64 (((rd_L4 l0_0 a1).length : Int) - 1)) then (if (wrap64 (((rd_L4 l0_0 a1).length : Int) - 1)) < ((rd_L4 l0_0 a1).length : Int) then (some (decide (((rd_T43 (rd_L4 l0_0 a1) (wrap64 (((rd_L4 l0_0 a1).length : Int) - 1))).f0) > a2))) else (none)) else (none)) else (some false)) else (none)) else (none)
set_option maxHeartbeats 8000000 in
set_option maxRecDepth 100000 in
theorem spec_l06Changed.calls (A0_0 : Option Addr) (c0_0 : Nat) (l0_0 : List (List (S43))) (a0_1 : Int) (a1 : Int) (a2 : Int) (r : Bool) (w : World) (hr0_0 : Kd.C (Kd.slice 43 k43) w A0_0 l0_0.length l0_0) (hc0_0 : l0_0.length ≤ c0_0) (h : spec_l06Changed.f l0_0 a0_1 a1 a2 = some r) :
  Calls Try.prog 80 #[.agg #[.slice A0_0 l0_0.length c0_0, .int .i64 a0_1], .int .i64 a1, .int .i64 a2] w fun e w' => e = .returned (.bool r) ∧ Below w.heap.size w w' := by
 have hu28 := Try.underlying28; have HR0_0 := qO hr0_0; have HC0_0 := qO hc0_0; clear hr0_0 hc0_0; have HB := qO (Below.refl w.heap.size w); have H : (if 0 ≤ a1 then (if a1 < (l0_0.length : Int) then (if ((rd_L4 l0_0 a1).length : Int) > 0 then (if 0 ≤ (wrap64 (((rd_L4 l0_0 a1).length : Int) - 1)) then (if (wrap64 (((rd_L4 l0_0 a1).length : Int) - 1)) < ((rd_L4 l0_0 a1).length : Int) then (some (decide (((rd_T43 (rd_L4 l0_0 a1) (wrap64 (((rd_L4 l0_0 a1).length : Int) - 1))).f0) > a2))) else (none)) else (none)) else (some false)) else (none)) else (none)) = some r := h; clear h
 by_cases c4 : 0 ≤ a1
 ·rw [if_pos c4] at H
  have c4b0 : decide (0 ≤ a1) = true := decide_eq_true c4; clear c4
  by_cases c5 : a1 < (l0_0.length : Int)
  ·rw [if_pos c5] at H
   have c5b0 : decide (a1 < (l0_0.length : Int)) = true := decide_eq_true c5; clear c5
   by_cases c6 : ((rd_L4 l0_0 a1).length : Int) > 0
   ·rw [if_pos c6] at H
    have c6b0 : decide (0 < ((rd_L4 l0_0 a1).length : Int)) = true := decide_eq_true c6; have c6b1 : decide (0 < (rd_L4 l0_0 a1).length) = true := decide_eq_true qa29; clear c6; obtain ⟨ji7, hji7⟩ : ∃ j_ : Int, (wrap64 (((rd_L4 l0_0 a1).length : Int) - 1)) = j_ := ⟨_, rfl⟩; replace H : (if 0 ≤ (ji7) then (if (ji7) < ((rd_L4 l0_0 a1).length : Int) then (some (decide (((rd_T43 (rd_L4 l0_0 a1) (ji7)).f0) > a2))) else (none)) else (none)) = some r := by first | (rw [hji7] at H; exact H) | (simp only [hji7] at H ⊢; exact H)
    have hji7w : (IntKind.i64.wrap (((rd_L4 l0_0 a1).length : Int) - 1)) = ji7 := (i64_w _).trans hji7
    by_cases c8 : 0 ≤ (ji7)
    ·rw [if_pos c8] at H
     have c8b0 : decide (0 ≤ (ji7)) = true := decide_eq_true c8; clear c8
     by_cases c9 : (ji7) < ((rd_L4 l0_0 a1).length : Int)
     ·rw [if_pos c9] at H
      have c9b0 : decide ((ji7) < ((rd_L4 l0_0 a1).length : Int)) = true := decide_eq_true c9; clear c9; obtain rfl := Option.some.inj H
      go_enter Try.func80, Try.ntmps80
      go_wp2_with (first | ((with_reducible refine gate_dst (N := 3) rfl ?_); (try (refine gate_guard (by rfl) ?_; dsimp only)); refine qX 3 #[.slice A0_0 l0_0.length c0_0, .int .i64 a0_1] 28 ?_; intro gb101 hg w10 hbox hb; have hx_ := qHX HB hb qa0; have BK101 := qO (hbox); have GW101 := qO ((qa9 : w.heap.size ≤ gb101)); have GE101 := GW101; replace HB := qO (below_step (below_step HB.out hx_) hb); clear hx_ hb hbox hg; obtain ⟨hcz11_0, hcz11_1, hfz11_0, hfz11_1⟩ := qb2 BK101.out; have p102 : 0 ≤ (a1 : Int) := qT qa1; have q102 : a1 < (l0_0.length : Int) := qT qa1; obtain ⟨ad102, A102_0, c102_0, e102, hx102_0, hl102_0, hi102_0⟩ := at_L4 HR0_0.out a1 p102 q102; cases e102; replace hx102_0 := (HB.out.cell (qL w _ hx102_0)).trans hx102_0; have HR102_0 := qO hi102_0; have HC102_0 := qO hl102_0; clear hi102_0 hl102_0; replace p102 := eq_true p102; replace q102 := eq_true q102; have p103 : 0 ≤ ((ji7) : Int) := qT qa1; have q103 : (ji7) < ((rd_L4 l0_0 a1).length : Int) := qT qa1; obtain ⟨ad103, e103, hx103_0, hx103_1⟩ := at_T43 HR102_0.out (ji7) p103 q103; cases e103; replace hx103_0 := (HB.out.cell (qL w _ hx103_0)).trans hx103_0; replace hx103_1 := (HB.out.cell (qL w _ hx103_1)).trans hx103_1; replace p103 := eq_true p103; replace q103 := eq_true q103))
      go_ret
      exact ⟨qa138, qa14⟩
     ·rw [if_neg c9] at H
      exact absurd H qa117
    ·rw [if_neg c8] at H
     exact absurd H qa117
   ·rw [if_neg c6] at H
    have c6b0 : decide (0 < ((rd_L4 l0_0 a1).length : Int)) = false := decide_eq_false c6; have c6b1 : decide (0 < (rd_L4 l0_0 a1).length) = false := decide_eq_false qa29; clear c6; obtain rfl := Option.some.inj H
    go_enter Try.func80, Try.ntmps80
    go_wp2_with (first | ((with_reducible refine gate_dst (N := 3) rfl ?_); (try (refine gate_guard (by rfl) ?_; dsimp only)); refine qX 3 #[.slice A0_0 l0_0.length c0_0, .int .i64 a0_1] 28 ?_; intro gb101 hg w12 hbox hb; have hx_ := qHX HB hb qa0; have BK101 := qO (hbox); have GW101 := qO ((qa9 : w.heap.size ≤ gb101)); have GE101 := GW101; replace HB := qO (below_step (below_step HB.out hx_) hb); clear hx_ hb hbox hg; obtain ⟨hcz13_0, hcz13_1, hfz13_0, hfz13_1⟩ := qb2 BK101.out; have p102 : 0 ≤ (a1 : Int) := qT qa1; have q102 : a1 < (l0_0.length : Int) := qT qa1; obtain ⟨ad102, A102_0, c102_0, e102, hx102_0, hl102_0, hi102_0⟩ := at_L4 HR0_0.out a1 p102 q102; cases e102; replace hx102_0 := (HB.out.cell (qL w _ hx102_0)).trans hx102_0; have HR102_0 := qO hi102_0; have HC102_0 := qO hl102_0; clear hi102_0 hl102_0; replace p102 := eq_true p102; replace q102 := eq_true q102))
    go_ret
    exact ⟨qa7, qa14⟩
  ·rw [if_neg c5] at H
   exact absurd H qa117
 ·rw [if_neg c4] at H
  exact absurd H qa117


def spec_l07Conflicts.l0 : Nat → Int → List (List (S43)) → Int → Int → List Int → List (S58) → Option (Bool)
 | 0, _, _, _, _, _, _ => none
 | k + 1, x5, x102000, x102001, x103000, x103001, x103002 => if x5 < (x103001.length : Int) then (if 0 ≤ x5 then ((spec_l06Changed.f x102000 x102001 (rd x103001 x5) x103000).bind fun t104 => (if t104 = true then (some (decide ((x103002.length : Int) > 0))) else (spec_l07Conflicts.l0 k (wrap64 (x5 + 1)) x102000 x102001 x103000 x103001 x103002))) else (none)) else (some false)
def spec_l07Conflicts.f (k : Nat) (l0_0 : List (List (S43))) (a0_1 : Int) (a1_0 : Int) (l1_1 : List Int) (l1_2 : List (S58)) : Option (Bool) := spec_l07Conflicts.l0 k 0 l0_0 a0_1 a1_0 l1_1 l1_2
def spec_l07Conflicts.T4 : Bool × List (List Nat × List Nat) := (true, [([], []), ([], []), ([1], [1]), ([], []), ([2, 3], [2, 3]), ([4], [4]), ([], []), ([6], [6]), ([0, 5, 7], [0, 5, 7])])
def spec_l07Conflicts.B4 : List Nat := [0, 0, 2, 0, 14, 30, 0, 64, 255]
theorem spec_l07Conflicts.tab4 : rtab .any (opsOf Try.f88 4) = spec_l07Conflicts.T4 := by kernel_rfl
theorem spec_l07Conflicts.bits4 : waitsOk spec_l07Conflicts.T4.2 spec_l07Conflicts.B4 = true := by kernel_rfl
def spec_l07Conflicts.y0 := #[qf,qf,qf,qf,qf,qf,qf,qf,qf]
def spec_l07Conflicts.y1 := #[qf,qt,qf,qf,qf,qf,qf,qf,qf]
def spec_l07Conflicts.y2 := #[qf,qt,qf,qt,qf,qf,qf,qf,qf]
def spec_l07Conflicts.y3 := #[qf,qt,qf,qt,qf,qf,qt,qf,qf]
def spec_l07Conflicts.y4 := #[qt,qt,qf,qt,qf,qf,qt,qf,qf]
def spec_l07Conflicts.y5 := #[qt,qt,qt,qt,qf,qf,qt,qf,qf]
def spec_l07Conflicts.y6 := #[qt,qt,qt,qt,qt,qf,qt,qf,qf]
def spec_l07Conflicts.y7 := #[qt,qt,qt,qt,qt,qt,qt,qf,qf]
def spec_l07Conflicts.y8 := #[qt,qt,qt,qt,qt,qt,qt,qt,qf]
def spec_l07Conflicts.y9 := #[qt,qt,qt,qt,qt,qt,qt,qt,qt]
set_option maxHeartbeats 8000000 in
set_option maxRecDepth 100000 in
theorem spec_l07Conflicts.calls (k : Nat) (A0_0 : Option Addr) (c0_0 : Nat) (l0_0 : List (List (S43))) (a0_1 : Int) (a1_0 : Int) (A1_1 : Option Addr) (c1_1 : Nat) (l1_1 : List Int) (A1_2 : Option Addr) (c1_2 : Nat) (l1_2 : List (S58)) (r : Bool) (w : World) (hr0_0 : Kd.C (Kd.slice 43 k43) w A0_0 l0_0.length l0_0) (hc0_0 : l0_0.length ≤ c0_0) (hr1_1 : Kd.C (Kd.int .i64) w A1_1 l1_1.length l1_1) (hc1_1 : l1_1.length ≤ c1_1) (hr1_2 : Kd.C k58 w A1_2 l1_2.length l1_2) (hc1_2 : l1_2.length ≤ c1_2) (h : spec_l07Conflicts.f k l0_0 a0_1 a1_0 l1_1 l1_2 = some r) :
  Calls Try.prog 88 #[.agg #[.slice A0_0 l0_0.length c0_0, .int .i64 a0_1], .agg #[.int .i64 a1_0, .slice A1_1 l1_1.length c1_1, .slice A1_2 l1_2.length c1_2]] w fun e w' => e = .returned (.bool r) ∧ Below w.heap.size w w' := by
 have hu28 := Try.underlying28; have hu65 := Try.underlying65; have HR0_0 := qO hr0_0; have HC0_0 := qO hc0_0; clear hr0_0 hc0_0; have HR1_1 := qO hr1_1; have HC1_1 := qO hc1_1; clear hr1_1 hc1_1; have HR1_2 := qO hr1_2; have HC1_2 := qO hc1_2; clear hr1_2 hc1_2; have HB := qO (Below.refl w.heap.size w); have H : (spec_l07Conflicts.l0 k 0 l0_0 a0_1 a1_0 l1_1 l1_2) = some r := h; clear h; have H' := qO H; clear H
 go_enter Try.func88, Try.ntmps88
 go_wp2_with (first | ((with_reducible refine gate_dst (N := 2) rfl ?_); refine qX 2 #[.slice A0_0 l0_0.length c0_0, .int .i64 a0_1] 28 ?_; intro gb101 hg w3 hbox hb; have hx_ := qHX HB hb qa0; have BK101 := qO (hbox); have GW101 := qO ((qa9 : w.heap.size ≤ gb101)); have GE101 := GW101; replace HB := qO (below_step (below_step HB.out hx_) hb); clear hx_ hb hbox hg) | ((with_reducible refine gate_dst (N := 3) rfl ?_); refine qX 3 #[.int .i64 a1_0, .slice A1_1 l1_1.length c1_1, .slice A1_2 l1_2.length c1_2] 65 ?_; intro gb102 hg w4 hbox hb; have hx_ := qHX HB hb qa0; have BK102 := qO (hbox); have GW102 := qO ((qa9 : w.heap.size ≤ gb102)); have GE102 := GW102; have NB101_102 := qO ((qa4 : gb101 ≠ gb102)); have NB102_101 := qO (Ne.symm NB101_102.out); replace BK101 := qO (qB BK101.out hx_ hb); replace HB := qO (below_step (below_step HB.out hx_) hb); clear hx_ hb hbox hg))
 go_loopg [5] k (fun kq v5 w' => ∃ (x5_1 : Int), v5 = .int .i64 x5_1 ∧ Aside0 (spec_l07Conflicts.l0 kq x5_1 l0_0 a0_1 a1_0 l1_1 l1_2 = some r) ∧ Aside0 (kq ≤ k) ∧ Aside0 (w'.heap[gb101]? = some (.cells #[(.slice A0_0 l0_0.length c0_0), .int .i64 a0_1] 28 (0, 0))) ∧ Aside0 (w'.heap[gb102]? = some (.cells #[.int .i64 a1_0, (.slice A1_1 l1_1.length c1_1), (.slice A1_2 l1_2.length c1_2)] 65 (0, 0))) ∧ Aside0 (Below w.heap.size w w'))
 case atStart => exact ⟨(0), qa12, H', ⟨Nat.le_refl _⟩, ⟨qa17⟩, ⟨qa28⟩, ⟨qa13⟩⟩
 case round =>
  clear H'
  try clear c1
  try clear p2
  obtain ⟨x5_1, rfl, HA, HK1, BK101, BK102, HB⟩ := hrel
  cases gk with
  | zero => exact absurd HA.out (by simp [spec_l07Conflicts.l0])
  | succ k1 =>
   have H := HA.out; clear HA; simp only [spec_l07Conflicts.l0] at H
   by_cases c5 : x5_1 < (l1_1.length : Int)
   ·rw [if_pos c5] at H
    have c5b0 : decide (x5_1 < (l1_1.length : Int)) = true := decide_eq_true c5; clear c5
    by_cases c6 : 0 ≤ x5_1
    ·rw [if_pos c6] at H
     have c6b0 : decide (0 ≤ x5_1) = true := decide_eq_true c6; clear c6; replace H := Option.bind_eq_some_iff.mp H; obtain ⟨t104, A70, H⟩ := H; replace H : (if t104 = true then (some (decide ((l1_2.length : Int) > 0))) else (spec_l07Conflicts.l0 k1 (wrap64 (x5_1 + 1)) l0_0 a0_1 a1_0 l1_1 l1_2)) = some r := H; have A7 := qO A70; clear A70
     by_cases c8 : t104 = true
     ·subst c8
      have H1 : (some (decide ((l1_2.length : Int) > 0))) = some r := by rw [if_pos rfl] at H; exact H
      clear H; have H := H1; clear H1; obtain rfl := Option.some.inj H; have hnb9 := NB102_101.out; have hnc9 := NB101_102.out; obtain ⟨hcz10_0, hcz10_1, hcz10_2, hfz10_0, hfz10_1, hfz10_2⟩ := qb3 BK102.out
      try go_wp2
      replace BK101 := qO (qkD BK101.out); replace BK102 := qO (qkD BK102.out); replace HB := qO (qbD HB.out); have p103 : 0 ≤ (x5_1 : Int) := qT qa1; have q103 : x5_1 < (l1_1.length : Int) := qT qa1; obtain ⟨ad103, e103, hx103_0⟩ := Kd.at_int HR1_1.out x5_1 p103 q103; have hw103_0 := hx103_0
      cases e103
      replace hx103_0 := (HB.out.cell (qL w _ hx103_0)).trans hx103_0; replace p103 := eq_true p103; replace q103 := eq_true q103; refine start_ (n := 9) (S := fun w' => w'.cell? ⟨gb101, 0, none⟩ = some (.slice A0_0 l0_0.length c0_0) ∧ w'.cell? ⟨gb101, 1, none⟩ = some (.int .i64 a0_1) ∧ w'.cell? ⟨gb102, 0, none⟩ = some (.int .i64 a1_0) ∧ w'.cell? ⟨gb102, 1, none⟩ = some (.slice (some ad103) l1_1.length c1_1) ∧ w'.cell? ⟨gb102, 2, none⟩ = some (.slice A1_2 l1_2.length c1_2) ∧ w'.cell? (ad103.add (x5_1).toNat) = some (.int .i64 (rd l1_1 x5_1))) (ds := []) spec_l07Conflicts.y0 qa5 rfl rfl ⟨qc0 BK101.out, qc1 BK101.out, qc0 BK102.out, qc1 BK102.out, qc2 BK102.out, ((HB.out.cell (qL w _ hw103_0)).trans hw103_0)⟩ (fun hHeld => ?_); refine with_tabW spec_l07Conflicts.tab4 spec_l07Conflicts.bits4 (fun HT_ HW_ => ?_); generalize wr.drew = w11 at BK101 BK102 HB hx103_0 hHeld ⊢; refine qPu 1 14 spec_l07Conflicts.y1 rfl rfl (any_of HT_.out qa5) qa8 qa2 ?_; refine qPu 3 16 spec_l07Conflicts.y2 rfl rfl (any_of HT_.out qa5) qa8 qa2 ?_; refine qPu 6 19 spec_l07Conflicts.y3 rfl rfl (any_of HT_.out qa5) qa8 qa2 ?_; refine qTk 0 13 spec_l07Conflicts.y4 rfl rfl (take_ofW HT_.out HW_.out qa5) qa109 hHeld qa2 ?_; refine qTk 2 15 spec_l07Conflicts.y5 rfl rfl (take_ofW HT_.out HW_.out qa5) qa109 hHeld qa2 ?_; refine qPu 4 17 spec_l07Conflicts.y6 rfl rfl (any_of HT_.out qa5) qa8 qa2 ?_; refine qTk 5 18 spec_l07Conflicts.y7 rfl rfl (take_ofW HT_.out HW_.out qa5) qa109 hHeld qa2 ?_; refine qTk 7 20 spec_l07Conflicts.y8 rfl rfl (take_ofW HT_.out HW_.out qa5) qa109 hHeld qa2 ?_; refine one_ (i := 8) (N := some 21) spec_l07Conflicts.y9 rfl rfl (one_of HT_.out qa5) qa51 (fun K hK => ?_); refine goes_ Try.func80 qa5 rfl #[.agg #[.slice A0_0 l0_0.length c0_0, .int .i64 a0_1], .int .i64 (rd l1_1 x5_1), .int .i64 a1_0] (by rfl) rfl rfl qa3 ?_; (with_reducible refine (spec_l06Changed.calls _ _ l0_0 a0_1 (rd l1_1 x5_1) a1_0 true _ ?side1 ?side2 A7.out).mono ?_); (case side1 => exact qa18); (case side2 => exact HC0_0.out); rintro e w12 ⟨rfl, hb⟩; have hx_ := qHX HB hb qa0; refine ⟨_, rfl, ?_⟩; replace BK101 := qO (qB BK101.out hx_ hb); replace BK102 := qO (qB BK102.out hx_ hb); replace HB := qO (below_step (below_step HB.out hx_) hb); clear hx_; (try clear hb); (try clear hb2); (try clear hk); (try clear hi); refine hK.out _ _ ⟨qc0 BK101.out, qc1 BK101.out, qc0 BK102.out, qc1 BK102.out, qc2 BK102.out, ((HB.out.cell (qL w _ hw103_0)).trans hw103_0)⟩ (fun hHeld => ?_); clear hK K; refine norm_ (a' := ?_) ?_ ?_; rotate_left
      ·exact qa11
      refine done_ (done_of HT_.out qa5) ?_; obtain ⟨hcz13_0, hcz13_1, hcz13_2, hfz13_0, hfz13_1, hfz13_2⟩ := qb3 BK102.out
      try go_wp2
      go_ret
      exact ⟨qa7, qa13⟩
     ·replace c8 := Bool.eq_false_iff.mpr c8
      subst c8; have H1 : (spec_l07Conflicts.l0 k1 (wrap64 (x5_1 + 1)) l0_0 a0_1 a1_0 l1_1 l1_2) = some r := by rw [if_neg (show ¬ (false = true) by decide)] at H; exact H
      clear H; have H := H1; clear H1; have H' := qO H; clear H; have hnb14 := NB102_101.out; have hnc14 := NB101_102.out; obtain ⟨hcz15_0, hcz15_1, hcz15_2, hfz15_0, hfz15_1, hfz15_2⟩ := qb3 BK102.out
      try go_wp2
      replace BK101 := qO (qkD BK101.out); replace BK102 := qO (qkD BK102.out); replace HB := qO (qbD HB.out); have p103 : 0 ≤ (x5_1 : Int) := qT qa1; have q103 : x5_1 < (l1_1.length : Int) := qT qa1; obtain ⟨ad103, e103, hx103_0⟩ := Kd.at_int HR1_1.out x5_1 p103 q103; have hw103_0 := hx103_0
      cases e103
      replace hx103_0 := (HB.out.cell (qL w _ hx103_0)).trans hx103_0; replace p103 := eq_true p103; replace q103 := eq_true q103; refine start_ (n := 9) (S := fun w' => w'.cell? ⟨gb101, 0, none⟩ = some (.slice A0_0 l0_0.length c0_0) ∧ w'.cell? ⟨gb101, 1, none⟩ = some (.int .i64 a0_1) ∧ w'.cell? ⟨gb102, 0, none⟩ = some (.int .i64 a1_0) ∧ w'.cell? ⟨gb102, 1, none⟩ = some (.slice (some ad103) l1_1.length c1_1) ∧ w'.cell? ⟨gb102, 2, none⟩ = some (.slice A1_2 l1_2.length c1_2) ∧ w'.cell? (ad103.add (x5_1).toNat) = some (.int .i64 (rd l1_1 x5_1))) (ds := []) spec_l07Conflicts.y0 qa5 rfl rfl ⟨qc0 BK101.out, qc1 BK101.out, qc0 BK102.out, qc1 BK102.out, qc2 BK102.out, ((HB.out.cell (qL w _ hw103_0)).trans hw103_0)⟩ (fun hHeld => ?_); refine with_tabW spec_l07Conflicts.tab4 spec_l07Conflicts.bits4 (fun HT_ HW_ => ?_); generalize wr.drew = w16 at BK101 BK102 HB hx103_0 hHeld ⊢; refine qPu 1 14 spec_l07Conflicts.y1 rfl rfl (any_of HT_.out qa5) qa8 qa2 ?_; refine qPu 3 16 spec_l07Conflicts.y2 rfl rfl (any_of HT_.out qa5) qa8 qa2 ?_; refine qPu 6 19 spec_l07Conflicts.y3 rfl rfl (any_of HT_.out qa5) qa8 qa2 ?_; refine qTk 0 13 spec_l07Conflicts.y4 rfl rfl (take_ofW HT_.out HW_.out qa5) qa109 hHeld qa2 ?_; refine qTk 2 15 spec_l07Conflicts.y5 rfl rfl (take_ofW HT_.out HW_.out qa5) qa109 hHeld qa2 ?_; refine qPu 4 17 spec_l07Conflicts.y6 rfl rfl (any_of HT_.out qa5) qa8 qa2 ?_; refine qTk 5 18 spec_l07Conflicts.y7 rfl rfl (take_ofW HT_.out HW_.out qa5) qa109 hHeld qa2 ?_; refine qTk 7 20 spec_l07Conflicts.y8 rfl rfl (take_ofW HT_.out HW_.out qa5) qa109 hHeld qa2 ?_; refine one_ (i := 8) (N := some 21) spec_l07Conflicts.y9 rfl rfl (one_of HT_.out qa5) qa51 (fun K hK => ?_); refine goes_ Try.func80 qa5 rfl #[.agg #[.slice A0_0 l0_0.length c0_0, .int .i64 a0_1], .int .i64 (rd l1_1 x5_1), .int .i64 a1_0] (by rfl) rfl rfl qa3 ?_; (with_reducible refine (spec_l06Changed.calls _ _ l0_0 a0_1 (rd l1_1 x5_1) a1_0 false _ ?side1 ?side2 A7.out).mono ?_); (case side1 => exact qa18); (case side2 => exact HC0_0.out); rintro e w17 ⟨rfl, hb⟩; have hx_ := qHX HB hb qa0; refine ⟨_, rfl, ?_⟩; replace BK101 := qO (qB BK101.out hx_ hb); replace BK102 := qO (qB BK102.out hx_ hb); replace HB := qO (below_step (below_step HB.out hx_) hb); clear hx_; (try clear hb); (try clear hb2); (try clear hk); (try clear hi); refine hK.out _ _ ⟨qc0 BK101.out, qc1 BK101.out, qc0 BK102.out, qc1 BK102.out, qc2 BK102.out, ((HB.out.cell (qL w _ hw103_0)).trans hw103_0)⟩ (fun hHeld => ?_); clear hK K; refine norm_ (a' := ?_) ?_ ?_; rotate_left
      ·exact qa11
      refine done_ (done_of HT_.out qa5) ?_
      try go_wp2
      go_roundg k1
      case measure => have := HK1.out; omega
      case rel => exact ⟨(wrap64 (x5_1 + 1)), qa12, H', ⟨qa103⟩, ⟨qa17⟩, ⟨qa28⟩, ⟨qa13⟩⟩
    ·rw [if_neg c6] at H
     exact absurd H qa117
   ·rw [if_neg c5] at H
    have c5b0 : decide (x5_1 < (l1_1.length : Int)) = false := decide_eq_false c5; clear c5; obtain rfl := Option.some.inj H; have hnb18 := NB102_101.out; have hnc18 := NB101_102.out; obtain ⟨hcz19_0, hcz19_1, hcz19_2, hfz19_0, hfz19_1, hfz19_2⟩ := qb3 BK102.out; go_wp2
    go_ret
    exact ⟨qa7, qa13⟩


def spec_l07Commit.f (k : Nat) (l0_0 : List (List (S43))) (a0_1 : Int) (a1_0 : Int) (l1_1 : List Int) (l1_2 : List (S58)) : Option ((List (List (S43))) × Int × Int × Int) := if (l1_2.length : Int) = 0 then (some (l0_0, a0_1, a1_0, 0)) else ((spec_l07Conflicts.f k l0_0 a0_1 a1_0 l1_1 l1_2).bind fun t104 => (if t104 = true then (some (l0_0, a0_1, 0, 16)) else (if a0_1 = 100000 then (some (l0_0, a0_1, 0, 7)) else ((spec_l06Write.f k l0_0 a0_1 l1_2).bind fun bt105 => (some (bt105.1, bt105.2, bt105.2, 0))))))
def spec_l07Commit.y0 := #[qf,qf,qf,qf,qf,qf]
def spec_l07Commit.y1 := #[qf,qt,qf,qf,qf,qf]
def spec_l07Commit.y2 := #[qt,qt,qf,qf,qf,qf]
def spec_l07Commit.y3 := #[qt,qt,qt,qf,qf,qf]
def spec_l07Commit.y4 := #[qt,qt,qt,qt,qf,qf]
def spec_l07Commit.y5 := #[qt,qt,qt,qt,qt,qf]
def spec_l07Commit.y6 := #[qt,qt,qt,qt,qt,qt]
set_option maxHeartbeats 8000000 in
set_option maxRecDepth 100000 in
theorem spec_l07Commit.calls (k : Nat) (P0_0_ : Nat → Prop) (A0_0 : Option Addr) (c0_0 : Nat) (l0_0 : List (List (S43))) (a0_1 : Int) (a1_0 : Int) (A1_1 : Option Addr) (c1_1 : Nat) (l1_1 : List Int) (A1_2 : Option Addr) (c1_2 : Nat) (l1_2 : List (S58)) (r1 : List (List (S43))) (r2 : Int) (r3 : Int) (r4 : Int) (w : World) (hs0_0 : Kd.V (Kd.slice 43 k43) 41 w w.heap.size (fun k_ => P0_0_ k_) (.slice A0_0 l0_0.length c0_0) l0_0) (hr1_1 : Kd.C (Kd.int .i64) w A1_1 l1_1.length l1_1) (hc1_1 : l1_1.length ≤ c1_1) (hr1_2 : Kd.C k58 w A1_2 l1_2.length l1_2) (hc1_2 : l1_2.length ≤ c1_2) (h : spec_l07Commit.f k l0_0 a0_1 a1_0 l1_1 l1_2 = some (r1, r2, r3, r4)) :
  Calls Try.prog 98 #[.agg #[.slice A0_0 l0_0.length c0_0, .int .i64 a0_1], .agg #[.int .i64 a1_0, .slice A1_1 l1_1.length c1_1, .slice A1_2 l1_2.length c1_2]] w fun e w' => ∃ v0_ : Value, e = .returned (.tuple #[.agg #[v0_, .int .i64 r2], .int .i64 r3, .int .i64 r4]) ∧ Kd.V (Kd.slice 43 k43) 41 w' w.heap.size (fun k_ => (P0_0_ k_ ∨ w.heap.size ≤ k_)) v0_ r1 ∧ Below w.heap.size w w' := by
 have hu28 := Try.underlying28; have hu65 := Try.underlying65; have HO0_0 := qO (show Kd.V (Kd.slice 43 k43) 41 w w.heap.size (fun k_ => (P0_0_ k_ ∨ w.heap.size ≤ k_)) (.slice A0_0 l0_0.length c0_0) l0_0 from Kd.V_mono hs0_0 (fun k_ hk => .inl hk)); have HR1_1 := qO hr1_1; have HC1_1 := qO hc1_1; clear hr1_1 hc1_1; have HR1_2 := qO hr1_2; have HC1_2 := qO hc1_2; clear hr1_2 hc1_2; have HB := qO (Below.refl w.heap.size w); have H : (if (l1_2.length : Int) = 0 then (some (l0_0, a0_1, a1_0, 0)) else ((spec_l07Conflicts.f k l0_0 a0_1 a1_0 l1_1 l1_2).bind fun t104 => (if t104 = true then (some (l0_0, a0_1, 0, 16)) else (if a0_1 = 100000 then (some (l0_0, a0_1, 0, 7)) else ((spec_l06Write.f k l0_0 a0_1 l1_2).bind fun bt105 => (some (bt105.1, bt105.2, bt105.2, 0))))))) = some (r1, r2, r3, r4) := h; clear h
 by_cases c3 : (l1_2.length : Int) = 0
 ·rw [if_pos c3] at H
  have c3b0 : ((l1_2.length : Int) == 0) = true := beq_iff_eq.mpr c3; have c3b1 : ((l1_2.length : Int) != 0) = false := bne_eq_false_iff_eq.mpr c3; clear c3; simp only [Option.some.injEq, Prod.mk.injEq] at H; obtain ⟨rfl, rfl, rfl, rfl⟩ := H
  go_enter Try.func98, Try.ntmps98
  try go_wp2_with (first | ((with_reducible refine gate_dst (N := 2) rfl ?_); refine qX 2 #[.slice A0_0 l0_0.length c0_0, .int .i64 a0_1] 28 ?_; intro gb101 hg w4 hbox hb; have hx_ := qHX HB hb qa0; have BK101 := qO (hbox); have GW101 := qO ((qa9 : w.heap.size ≤ gb101)); have GE101 := GW101; replace HO0_0 := qO (Kd.V_below (Kd.V_elderB qa31 gb101 (Nat.le_of_eq hg.symm)) hb); replace HB := qO (below_step (below_step HB.out hx_) hb); clear hx_ hb hbox hg) | ((with_reducible refine gate_dst (N := 3) rfl ?_); refine qX 3 #[.int .i64 a1_0, .slice A1_1 l1_1.length c1_1, .slice A1_2 l1_2.length c1_2] 65 ?_; intro gb102 hg w5 hbox hb; have hx_ := qHX HB hb qa0; have BK102 := qO (hbox); have GW102 := qO ((qa9 : w.heap.size ≤ gb102)); have GE102 := GW102; have NB101_102 := qO ((qa4 : gb101 ≠ gb102)); have NB102_101 := qO (Ne.symm NB101_102.out); replace HO0_0 := qO (Kd.V_below (Kd.V_elderB qa31 gb102 (Nat.le_of_eq hg.symm)) hb); replace BK101 := qO (qB BK101.out hx_ hb); replace HB := qO (below_step (below_step HB.out hx_) hb); clear hx_ hb hbox hg) | ((with_reducible refine gate_dst (N := 4) rfl ?_); refine qX 4 #[.slice none 0 0, .int .i64 0] 28 ?_; intro gb103 hg w6 hbox hb; have hx_ := qHX HB hb qa0; have BK103 := qO (hbox); have GW103 := qO ((qa9 : w.heap.size ≤ gb103)); have GE103 := GW103; have NB101_103 := qO ((qa4 : gb101 ≠ gb103)); have NB103_101 := qO (Ne.symm NB101_103.out); have NB102_103 := qO ((qa20 : gb102 ≠ gb103)); have NB103_102 := qO (Ne.symm NB102_103.out); replace HO0_0 := qO (Kd.V_below (Kd.V_elderB qa31 gb103 (Nat.le_of_eq hg.symm)) hb); replace BK101 := qO (qB BK101.out hx_ hb); replace BK102 := qO (qB BK102.out hx_ hb); replace HB := qO (below_step (below_step HB.out hx_) hb); clear hx_ hb hbox hg; have hnb7 := NB102_101.out; have hnc7 := NB101_102.out; have hnb8 := NB102_103.out; have hnc8 := NB103_102.out; obtain ⟨hcz9_0, hcz9_1, hcz9_2, hfz9_0, hfz9_1, hfz9_2⟩ := qb3 BK102.out))
  replace HO0_0 := qO (Kd.V_drew HO0_0.out); replace BK101 := qO (qkD BK101.out); replace BK102 := qO (qkD BK102.out); replace BK103 := qO (qkD BK103.out); replace HB := qO (qbD HB.out); refine start_ (n := 6) (S := fun w' => w'.cell? ⟨gb101, 0, none⟩ = some (.slice A0_0 l0_0.length c0_0) ∧ w'.cell? ⟨gb101, 1, none⟩ = some (.int .i64 a0_1) ∧ w'.cell? ⟨gb102, 0, none⟩ = some (.int .i64 a1_0) ∧ w'.cell? ⟨gb102, 1, none⟩ = some (.slice A1_1 l1_1.length c1_1) ∧ w'.cell? ⟨gb102, 2, none⟩ = some (.slice A1_2 l1_2.length c1_2)) (ds := []) spec_l07Commit.y0 qa5 rfl rfl ⟨qc0 BK101.out, qc1 BK101.out, qc0 BK102.out, qc1 BK102.out, qc2 BK102.out⟩ (fun hHeld => ?_); generalize w6.drew = w10 at HO0_0 BK101 BK102 BK103 HB hHeld ⊢; refine qPu 1 13 spec_l07Commit.y1 rfl rfl qa5 qa8 qa2 ?_; refine qTk 0 12 spec_l07Commit.y2 rfl rfl qa5 qa65 hHeld qa2 ?_; refine qTk 2 14 spec_l07Commit.y3 rfl rfl qa5 qa65 hHeld qa2 ?_; refine one_ (i := 3) (N := none) spec_l07Commit.y4 rfl rfl qa5 qa51 (fun K hK => ?_); have hs11 := qc0 BK103.out; have hfs11 := blk_frozen BK103.out 0; have hns11_0 := NB101_103.out; have hns11_1 := NB102_103.out; have hms11_0 := NB103_101.out; have hms11_1 := NB103_102.out; have hs12 := qc1 BK103.out; have hfs12 := blk_frozen BK103.out 1; have hns12_0 := NB101_103.out; have hns12_1 := NB102_103.out; have hms12_0 := NB103_101.out; have hms12_1 := NB103_102.out; refine skip_ (w1 := ?_) (by rfl) rfl ?_ ?_; rotate_left
  ·go_simp
   rfl
  refine hK.out _ _ ⟨((cell_far (p := ⟨gb103, _, none⟩) NB101_103.out _).trans (((cell_far (p := ⟨gb103, _, none⟩) NB101_103.out _).trans (hHeld.1)))), ((cell_far (p := ⟨gb103, _, none⟩) NB101_103.out _).trans (((cell_far (p := ⟨gb103, _, none⟩) NB101_103.out _).trans (hHeld.2.1)))), ((cell_far (p := ⟨gb103, _, none⟩) NB102_103.out _).trans (((cell_far (p := ⟨gb103, _, none⟩) NB102_103.out _).trans (hHeld.2.2.1)))), ((cell_far (p := ⟨gb103, _, none⟩) NB102_103.out _).trans (((cell_far (p := ⟨gb103, _, none⟩) NB102_103.out _).trans (hHeld.2.2.2.1)))), ((cell_far (p := ⟨gb103, _, none⟩) NB102_103.out _).trans (((cell_far (p := ⟨gb103, _, none⟩) NB102_103.out _).trans (hHeld.2.2.2.2))))⟩ (fun hHeld => ?_); clear hK K; refine qPu 4 5 spec_l07Commit.y5 rfl rfl qa5 qa8 qa2 ?_; refine qPu 5 6 spec_l07Commit.y6 rfl rfl qa5 qa8 qa2 ?_; refine done_ qa5 ?_
  try go_wp2
  refine bodyPost_ret (results_ctt rfl _ _ gb103 28 #[.slice A0_0 l0_0.length c0_0, .int .i64 a0_1] (0, 0) _ rfl qa53 Try.underlying28 rfl qa5) rfl ?_
  exact ⟨_, qa7, qa66, qa19⟩
 ·rw [if_neg c3] at H
  have c3b0 : ((l1_2.length : Int) == 0) = false := beq_eq_false_iff_ne.mpr c3; have c3b1 : ((l1_2.length : Int) != 0) = true := bne_iff_ne.mpr c3; have c3b2 : ¬ (l1_2 = []) := fun h_ => c3 (by rw [h_]; rfl)
  replace H := Option.bind_eq_some_iff.mp H; obtain ⟨t104, A130, H⟩ := H; replace H : (if t104 = true then (some (l0_0, a0_1, 0, 16)) else (if a0_1 = 100000 then (some (l0_0, a0_1, 0, 7)) else ((spec_l06Write.f k l0_0 a0_1 l1_2).bind fun bt105 => (some (bt105.1, bt105.2, bt105.2, 0))))) = some (r1, r2, r3, r4) := H; have A13 := qO A130; clear A130
  by_cases c14 : t104 = true
  ·subst c14
   have H1 : (some (l0_0, a0_1, 0, 16)) = some (r1, r2, r3, r4) := by rw [if_pos rfl] at H; exact H
   clear H; have H := H1; clear H1; simp only [Option.some.injEq, Prod.mk.injEq] at H; obtain ⟨rfl, rfl, rfl, rfl⟩ := H
   go_enter Try.func98, Try.ntmps98
   go_wp2_with (first | ((with_reducible refine gate_dst (N := 2) rfl ?_); refine qX 2 #[.slice A0_0 l0_0.length c0_0, .int .i64 a0_1] 28 ?_; intro gb101 hg w15 hbox hb; have hx_ := qHX HB hb qa0; have BK101 := qO (hbox); have GW101 := qO ((qa9 : w.heap.size ≤ gb101)); have GE101 := GW101; replace HO0_0 := qO (Kd.V_below (Kd.V_elderB qa31 gb101 (Nat.le_of_eq hg.symm)) hb); replace HB := qO (below_step (below_step HB.out hx_) hb); clear hx_ hb hbox hg) | ((with_reducible refine gate_dst (N := 3) rfl ?_); refine qX 3 #[.int .i64 a1_0, .slice A1_1 l1_1.length c1_1, .slice A1_2 l1_2.length c1_2] 65 ?_; intro gb102 hg w16 hbox hb; have hx_ := qHX HB hb qa0; have BK102 := qO (hbox); have GW102 := qO ((qa9 : w.heap.size ≤ gb102)); have GE102 := GW102; have NB101_102 := qO ((qa4 : gb101 ≠ gb102)); have NB102_101 := qO (Ne.symm NB101_102.out); replace HO0_0 := qO (Kd.V_below (Kd.V_elderB qa31 gb102 (Nat.le_of_eq hg.symm)) hb); replace BK101 := qO (qB BK101.out hx_ hb); replace HB := qO (below_step (below_step HB.out hx_) hb); clear hx_ hb hbox hg) | ((with_reducible refine gate_dst (N := 4) rfl ?_); refine qX 4 #[.slice none 0 0, .int .i64 0] 28 ?_; intro gb103 hg w17 hbox hb; have hx_ := qHX HB hb qa0; have BK103 := qO (hbox); have GW103 := qO ((qa9 : w.heap.size ≤ gb103)); have GE103 := GW103; have NB101_103 := qO ((qa4 : gb101 ≠ gb103)); have NB103_101 := qO (Ne.symm NB101_103.out); have NB102_103 := qO ((qa20 : gb102 ≠ gb103)); have NB103_102 := qO (Ne.symm NB102_103.out); replace HO0_0 := qO (Kd.V_below (Kd.V_elderB qa31 gb103 (Nat.le_of_eq hg.symm)) hb); replace BK101 := qO (qB BK101.out hx_ hb); replace BK102 := qO (qB BK102.out hx_ hb); replace HB := qO (below_step (below_step HB.out hx_) hb); clear hx_ hb hbox hg; have hnb18 := NB102_101.out; have hnc18 := NB101_102.out; have hnb19 := NB102_103.out; have hnc19 := NB103_102.out; obtain ⟨hcz20_0, hcz20_1, hcz20_2, hfz20_0, hfz20_1, hfz20_2⟩ := qb3 BK102.out; have hnb21 := NB101_103.out; have hnc21 := NB103_101.out; obtain ⟨hcz22_0, hcz22_1, hfz22_0, hfz22_1⟩ := qb2 BK101.out) | ((with_reducible refine gate_callee (f := 88) rfl ?_); refine goesL_ (some 17) rfl rfl Try.func88 qa5 rfl #[.agg #[.slice A0_0 l0_0.length c0_0, .int .i64 a0_1], .agg #[.int .i64 a1_0, .slice A1_1 l1_1.length c1_1, .slice A1_2 l1_2.length c1_2]] rfl qa3 ?_; (with_reducible refine (spec_l07Conflicts.calls k _ _ l0_0 a0_1 a1_0 _ _ l1_1 _ _ l1_2 true _ ?side1 ?side2 ?side3 ?side4 ?side5 ?side6 A13.out).mono ?_); (case side1 => exact qa110); (case side2 => exact (Kd.V_reads' HO0_0.out).2.1); (case side3 => exact qa37); (case side4 => exact HC1_1.out); (case side5 => exact qa38); (case side6 => exact HC1_2.out); rintro e w23 ⟨rfl, hb⟩; have hx_ := qHX HB hb qa0; refine ⟨_, rfl, ?_⟩; replace HO0_0 := qO (Kd.V_below qa31 hb); replace BK101 := qO (qB BK101.out hx_ hb); replace BK102 := qO (qB BK102.out hx_ hb); replace BK103 := qO (qB BK103.out hx_ hb); replace HB := qO (below_step (below_step HB.out hx_) hb); clear hx_; (try clear hb); (try clear hb2); (try clear hk); (try clear hi); obtain ⟨hcz24_0, hcz24_1, hfz24_0, hfz24_1⟩ := qb2 BK101.out; obtain ⟨hcz25_0, hcz25_1, hfz25_0, hfz25_1⟩ := qb2 BK103.out))
   refine bodyPost_ret (results_ctt rfl _ _ gb103 28 #[.slice A0_0 l0_0.length c0_0, .int .i64 a0_1] (0, 0) _ rfl qa53 Try.underlying28 rfl qa5) rfl ?_
   exact ⟨_, qa7, qa66, qa19⟩
  ·replace c14 := Bool.eq_false_iff.mpr c14
   subst c14; have H1 : (if a0_1 = 100000 then (some (l0_0, a0_1, 0, 7)) else ((spec_l06Write.f k l0_0 a0_1 l1_2).bind fun bt105 => (some (bt105.1, bt105.2, bt105.2, 0)))) = some (r1, r2, r3, r4) := by rw [if_neg (show ¬ (false = true) by decide)] at H; exact H
   clear H; have H := H1; clear H1
   by_cases c26 : a0_1 = 100000
   ·rw [if_pos c26] at H
    have c26b0 : (a0_1 == 100000) = true := beq_iff_eq.mpr c26; have c26b1 : (a0_1 != 100000) = false := bne_eq_false_iff_eq.mpr c26; clear c26; simp only [Option.some.injEq, Prod.mk.injEq] at H; obtain ⟨rfl, rfl, rfl, rfl⟩ := H
    go_enter Try.func98, Try.ntmps98
    go_wp2_with (first | ((with_reducible refine gate_dst (N := 2) rfl ?_); refine qX 2 #[.slice A0_0 l0_0.length c0_0, .int .i64 a0_1] 28 ?_; intro gb101 hg w27 hbox hb; have hx_ := qHX HB hb qa0; have BK101 := qO (hbox); have GW101 := qO ((qa9 : w.heap.size ≤ gb101)); have GE101 := GW101; replace HO0_0 := qO (Kd.V_below (Kd.V_elderB qa31 gb101 (Nat.le_of_eq hg.symm)) hb); replace HB := qO (below_step (below_step HB.out hx_) hb); clear hx_ hb hbox hg) | ((with_reducible refine gate_dst (N := 3) rfl ?_); refine qX 3 #[.int .i64 a1_0, .slice A1_1 l1_1.length c1_1, .slice A1_2 l1_2.length c1_2] 65 ?_; intro gb102 hg w28 hbox hb; have hx_ := qHX HB hb qa0; have BK102 := qO (hbox); have GW102 := qO ((qa9 : w.heap.size ≤ gb102)); have GE102 := GW102; have NB101_102 := qO ((qa4 : gb101 ≠ gb102)); have NB102_101 := qO (Ne.symm NB101_102.out); replace HO0_0 := qO (Kd.V_below (Kd.V_elderB qa31 gb102 (Nat.le_of_eq hg.symm)) hb); replace BK101 := qO (qB BK101.out hx_ hb); replace HB := qO (below_step (below_step HB.out hx_) hb); clear hx_ hb hbox hg) | ((with_reducible refine gate_dst (N := 4) rfl ?_); refine qX 4 #[.slice none 0 0, .int .i64 0] 28 ?_; intro gb103 hg w29 hbox hb; have hx_ := qHX HB hb qa0; have BK103 := qO (hbox); have GW103 := qO ((qa9 : w.heap.size ≤ gb103)); have GE103 := GW103; have NB101_103 := qO ((qa4 : gb101 ≠ gb103)); have NB103_101 := qO (Ne.symm NB101_103.out); have NB102_103 := qO ((qa20 : gb102 ≠ gb103)); have NB103_102 := qO (Ne.symm NB102_103.out); replace HO0_0 := qO (Kd.V_below (Kd.V_elderB qa31 gb103 (Nat.le_of_eq hg.symm)) hb); replace BK101 := qO (qB BK101.out hx_ hb); replace BK102 := qO (qB BK102.out hx_ hb); replace HB := qO (below_step (below_step HB.out hx_) hb); clear hx_ hb hbox hg; have hnb30 := NB102_101.out; have hnc30 := NB101_102.out; have hnb31 := NB102_103.out; have hnc31 := NB103_102.out; obtain ⟨hcz32_0, hcz32_1, hcz32_2, hfz32_0, hfz32_1, hfz32_2⟩ := qb3 BK102.out; have hnb33 := NB101_103.out; have hnc33 := NB103_101.out; obtain ⟨hcz34_0, hcz34_1, hfz34_0, hfz34_1⟩ := qb2 BK101.out) | ((with_reducible refine gate_callee (f := 88) rfl ?_); refine goesL_ (some 17) rfl rfl Try.func88 qa5 rfl #[.agg #[.slice A0_0 l0_0.length c0_0, .int .i64 a0_1], .agg #[.int .i64 a1_0, .slice A1_1 l1_1.length c1_1, .slice A1_2 l1_2.length c1_2]] rfl qa3 ?_; (with_reducible refine (spec_l07Conflicts.calls k _ _ l0_0 a0_1 a1_0 _ _ l1_1 _ _ l1_2 false _ ?side1 ?side2 ?side3 ?side4 ?side5 ?side6 A13.out).mono ?_); (case side1 => exact qa110); (case side2 => exact (Kd.V_reads' HO0_0.out).2.1); (case side3 => exact qa37); (case side4 => exact HC1_1.out); (case side5 => exact qa38); (case side6 => exact HC1_2.out); rintro e w35 ⟨rfl, hb⟩; have hx_ := qHX HB hb qa0; refine ⟨_, rfl, ?_⟩; replace HO0_0 := qO (Kd.V_below qa31 hb); replace BK101 := qO (qB BK101.out hx_ hb); replace BK102 := qO (qB BK102.out hx_ hb); replace BK103 := qO (qB BK103.out hx_ hb); replace HB := qO (below_step (below_step HB.out hx_) hb); clear hx_; (try clear hb); (try clear hb2); (try clear hk); (try clear hi); obtain ⟨hcz36_0, hcz36_1, hfz36_0, hfz36_1⟩ := qb2 BK101.out; obtain ⟨hcz37_0, hcz37_1, hfz37_0, hfz37_1⟩ := qb2 BK103.out))
    refine bodyPost_ret (results_ctt rfl _ _ gb103 28 #[.slice A0_0 l0_0.length c0_0, .int .i64 a0_1] (0, 0) _ rfl qa53 Try.underlying28 rfl qa5) rfl ?_
    exact ⟨_, qa7, qa66, qa19⟩
   ·rw [if_neg c26] at H
    have c26b0 : (a0_1 == 100000) = false := beq_eq_false_iff_ne.mpr c26; have c26b1 : (a0_1 != 100000) = true := bne_iff_ne.mpr c26; replace H := Option.bind_eq_some_iff.mp H; obtain ⟨⟨t105, t108⟩, A380, H⟩ := H; replace H : (some (t105, t108, t108, 0)) = some (r1, r2, r3, r4) := H; have A38 := qO A380; clear A380; simp only [Option.some.injEq, Prod.mk.injEq] at H; obtain ⟨rfl, rfl, rfl, rfl⟩ := H
    go_enter Try.func98, Try.ntmps98
    try go_wp2_with (first | ((with_reducible refine gate_dst (N := 2) rfl ?_); refine qX 2 #[.slice A0_0 l0_0.length c0_0, .int .i64 a0_1] 28 ?_; intro gb101 hg w39 hbox hb; have hx_ := qHX HB hb qa0; have BK101 := qO (hbox); have GW101 := qO ((qa9 : w.heap.size ≤ gb101)); have GE101 := GW101; replace HO0_0 := qO (Kd.V_below (Kd.V_elderB qa31 gb101 (Nat.le_of_eq hg.symm)) hb); replace HB := qO (below_step (below_step HB.out hx_) hb); clear hx_ hb hbox hg) | ((with_reducible refine gate_dst (N := 3) rfl ?_); refine qX 3 #[.int .i64 a1_0, .slice A1_1 l1_1.length c1_1, .slice A1_2 l1_2.length c1_2] 65 ?_; intro gb102 hg w40 hbox hb; have hx_ := qHX HB hb qa0; have BK102 := qO (hbox); have GW102 := qO ((qa9 : w.heap.size ≤ gb102)); have GE102 := GW102; have NB101_102 := qO ((qa4 : gb101 ≠ gb102)); have NB102_101 := qO (Ne.symm NB101_102.out); replace HO0_0 := qO (Kd.V_below (Kd.V_elderB qa31 gb102 (Nat.le_of_eq hg.symm)) hb); replace BK101 := qO (qB BK101.out hx_ hb); replace HB := qO (below_step (below_step HB.out hx_) hb); clear hx_ hb hbox hg) | ((with_reducible refine gate_dst (N := 4) rfl ?_); refine qX 4 #[.slice none 0 0, .int .i64 0] 28 ?_; intro gb103 hg w41 hbox hb; have hx_ := qHX HB hb qa0; have BK103 := qO (hbox); have GW103 := qO ((qa9 : w.heap.size ≤ gb103)); have GE103 := GW103; have NB101_103 := qO ((qa4 : gb101 ≠ gb103)); have NB103_101 := qO (Ne.symm NB101_103.out); have NB102_103 := qO ((qa20 : gb102 ≠ gb103)); have NB103_102 := qO (Ne.symm NB102_103.out); replace HO0_0 := qO (Kd.V_below (Kd.V_elderB qa31 gb103 (Nat.le_of_eq hg.symm)) hb); replace BK101 := qO (qB BK101.out hx_ hb); replace BK102 := qO (qB BK102.out hx_ hb); replace HB := qO (below_step (below_step HB.out hx_) hb); clear hx_ hb hbox hg; have hnb42 := NB102_101.out; have hnc42 := NB101_102.out; have hnb43 := NB102_103.out; have hnc43 := NB103_102.out; obtain ⟨hcz44_0, hcz44_1, hcz44_2, hfz44_0, hfz44_1, hfz44_2⟩ := qb3 BK102.out; have hnb45 := NB101_103.out; have hnc45 := NB103_101.out; obtain ⟨hcz46_0, hcz46_1, hfz46_0, hfz46_1⟩ := qb2 BK101.out) | ((with_reducible refine gate_callee (f := 88) rfl ?_); refine goesL_ (some 17) rfl rfl Try.func88 qa5 rfl #[.agg #[.slice A0_0 l0_0.length c0_0, .int .i64 a0_1], .agg #[.int .i64 a1_0, .slice A1_1 l1_1.length c1_1, .slice A1_2 l1_2.length c1_2]] rfl qa3 ?_; (with_reducible refine (spec_l07Conflicts.calls k _ _ l0_0 a0_1 a1_0 _ _ l1_1 _ _ l1_2 false _ ?side1 ?side2 ?side3 ?side4 ?side5 ?side6 A13.out).mono ?_); (case side1 => exact qa110); (case side2 => exact (Kd.V_reads' HO0_0.out).2.1); (case side3 => exact qa37); (case side4 => exact HC1_1.out); (case side5 => exact qa38); (case side6 => exact HC1_2.out); rintro e w47 ⟨rfl, hb⟩; have hx_ := qHX HB hb qa0; refine ⟨_, rfl, ?_⟩; replace HO0_0 := qO (Kd.V_below qa31 hb); replace BK101 := qO (qB BK101.out hx_ hb); replace BK102 := qO (qB BK102.out hx_ hb); replace BK103 := qO (qB BK103.out hx_ hb); replace HB := qO (below_step (below_step HB.out hx_) hb); clear hx_; (try clear hb); (try clear hb2); (try clear hk); (try clear hi); obtain ⟨hcz48_0, hcz48_1, hfz48_0, hfz48_1⟩ := qb2 BK101.out; obtain ⟨hcz49_0, hcz49_1, hcz49_2, hfz49_0, hfz49_1, hfz49_2⟩ := qb3 BK102.out) | ((with_reducible refine gate_callee (f := 73) rfl ?_); refine goesL_ (some 26) rfl rfl Try.func73 qa5 rfl #[.agg #[.slice A0_0 l0_0.length c0_0, .int .i64 a0_1], .slice A1_2 l1_2.length c1_2] rfl qa3 ?_; (with_reducible refine (spec_l06Write.calls k (fun k_ => ((((P0_0_ k_ ∨ w.heap.size ≤ k_) ∧ k_ ≠ gb101) ∧ k_ ≠ gb102) ∧ k_ ≠ gb103)) _ _ l0_0 a0_1 _ _ l1_2 t105 t108 _ ?side1 ?side2 ?side3 A38.out).mono ?_); (case side1 => exact HO0_0.out); (case side2 => exact qa38); (case side3 => exact HC1_2.out); rintro e w50 ⟨v106, rfl, ho0, hb⟩; have hx_ := qHX HB hb qa0; refine ⟨_, rfl, ?_⟩; have HO107 := qO (Kd.V_lower (Kd.V_mono (ok' := fun k_ => (P0_0_ k_ ∨ w.heap.size ≤ k_) ∧ k_ ≠ gb101 ∧ k_ ≠ gb102 ∧ k_ ≠ gb103) ho0 (fun k_ hk_ => ⟨Or.elim hk_ (fun hs_ => hs_.1.1.1) (fun hn_ => (.inr (Nat.le_trans (below_size (below_step HB.out hx_)) hn_))), Or.elim hk_ (fun hs_ => hs_.1.1.2) (fun hn_ => (Kd.freshB (g := gb101) (o := .cells #[.slice A0_0 l0_0.length c0_0, .int .i64 a0_1] 28 (0, 0)) qa17 k_ hn_)), Or.elim hk_ (fun hs_ => hs_.1.2) (fun hn_ => (Kd.freshB (g := gb102) (o := .cells #[.int .i64 a1_0, .slice A1_1 l1_1.length c1_1, .slice A1_2 l1_2.length c1_2] 65 (0, 0)) qa28 k_ hn_)), Or.elim hk_ (fun hs_ => hs_.2) (fun hn_ => (Kd.freshB (g := gb103) (o := .cells #[.slice none 0 0, .int .i64 0] 28 (0, 0)) qa147 k_ hn_))⟩)) (below_size (below_step HB.out hx_))); replace HO0_0 := qO (Kd.V_below qa31 hb); replace BK101 := qO (qB BK101.out hx_ hb); replace BK102 := qO (qB BK102.out hx_ hb); replace BK103 := qO (qB BK103.out hx_ hb); replace HB := qO (below_step (below_step HB.out hx_) hb); clear hx_; (try clear hb); (try clear hb2); (try clear hk); (try clear hi); (try clear ho0)) | ((with_reducible refine gate_dst (N := 7) rfl ?_); refine qX 7 #[.slice none 0 0, .int .i64 0] 28 ?_; intro gb109 hg w51 hbox hb; have hx_ := qHX HB hb qa0; have BK109 := qO (hbox); have GW109 := qO ((qa9 : w.heap.size ≤ gb109)); have GE109 := GW109; have NB101_109 := qO ((qa4 : gb101 ≠ gb109)); have NB109_101 := qO (Ne.symm NB101_109.out); have NB102_109 := qO ((qa20 : gb102 ≠ gb109)); have NB109_102 := qO (Ne.symm NB102_109.out); have NB103_109 := qO ((qa126 : gb103 ≠ gb109)); have NB109_103 := qO (Ne.symm NB103_109.out); replace HO0_0 := qO (Kd.V_below (Kd.V_elderB qa31 gb109 (Nat.le_of_eq hg.symm)) hb); replace HO107 := qO (Kd.V_below (Kd.V_elderB qa176 gb109 (Nat.le_of_eq hg.symm)) hb); replace BK101 := qO (qB BK101.out hx_ hb); replace BK102 := qO (qB BK102.out hx_ hb); replace BK103 := qO (qB BK103.out hx_ hb); replace HB := qO (below_step (below_step HB.out hx_) hb); clear hx_ hb hbox hg; obtain ⟨Ao52, co52, eo52⟩ := Kd.V_slice HO107.out; subst eo52; have hnb53 := NB109_101.out; have hnc53 := NB101_109.out; have hnb54 := NB109_102.out; have hnc54 := NB102_109.out; have hnb55 := NB109_103.out; have hnc55 := NB103_109.out; obtain ⟨hcz56_0, hcz56_1, hfz56_0, hfz56_1⟩ := qb2 BK109.out))
    have n0_ : Aside0 (Kd.V (Kd.slice 43 k43) 41 ((w51.setCell ⟨gb109, 0, none⟩ (.slice Ao52 t105.length co52)).setCell ⟨gb109, 1, none⟩ (.int .i64 t108)) w.heap.size (fun k_ => (P0_0_ k_ ∨ w.heap.size ≤ k_) ∧ k_ ≠ gb101 ∧ k_ ≠ gb102 ∧ k_ ≠ gb103 ∧ k_ ≠ gb109) (.slice A0_0 l0_0.length c0_0) l0_0) := ⟨by (with_reducible repeat (first | apply Kd.V_alloc | apply Kd.V_drewN | apply Kd.V_drew)); exact Kd.V_mono (Kd.V_far (p := ⟨gb109, 1, none⟩) (Kd.V_far (p := ⟨gb109, 0, none⟩) (Kd.V_mono HO0_0.out (fun k_ hk => (⟨hk, hk.2⟩ : _ ∧ k_ ≠ gb109))) (fun _ hk => hk.2) (.slice Ao52 t105.length co52)) (fun _ hk => hk.2) (.int .i64 t108)) (fun _ hk => ⟨hk.1.1.1.1.1, ⟨hk.1.1.1.1.2, ⟨hk.1.1.1.2, ⟨hk.1.1.2, hk.1.2⟩⟩⟩⟩)⟩; have n1_ : Aside0 (Kd.V (Kd.slice 43 k43) 41 ((w51.setCell ⟨gb109, 0, none⟩ (.slice Ao52 t105.length co52)).setCell ⟨gb109, 1, none⟩ (.int .i64 t108)) w.heap.size (fun k_ => (P0_0_ k_ ∨ w.heap.size ≤ k_) ∧ k_ ≠ gb101 ∧ k_ ≠ gb102 ∧ k_ ≠ gb103 ∧ k_ ≠ gb109) (.slice Ao52 t105.length co52) t105) := ⟨by (with_reducible repeat (first | apply Kd.V_alloc | apply Kd.V_drewN | apply Kd.V_drew)); exact Kd.V_mono (Kd.V_far (p := ⟨gb109, 1, none⟩) (Kd.V_far (p := ⟨gb109, 0, none⟩) (Kd.V_mono HO107.out (fun k_ hk => (⟨hk, hk.2⟩ : _ ∧ k_ ≠ gb109))) (fun _ hk => hk.2) (.slice Ao52 t105.length co52)) (fun _ hk => hk.2) (.int .i64 t108)) (fun _ hk => ⟨hk.1.1.1, ⟨hk.1.1.2.1, ⟨hk.1.1.2.2.1, ⟨hk.1.1.2.2.2, hk.1.2⟩⟩⟩⟩)⟩; have n2_ : Aside0 (((w51.setCell ⟨gb109, 0, none⟩ (.slice Ao52 t105.length co52)).setCell ⟨gb109, 1, none⟩ (.int .i64 t108)).heap[gb101]? = some (.cells #[.slice A0_0 l0_0.length c0_0, .int .i64 a0_1] 28 (0, 0))) := ⟨by (with_reducible repeat (first | refine qkN ?_ _ | refine qkD ?_ | refine qkA ?_ _)); refine blk_far ?_ NB101_109.out _; (with_reducible repeat (first | refine qkN ?_ _ | refine qkD ?_ | refine qkA ?_ _)); refine blk_far ?_ NB101_109.out _; (with_reducible repeat (first | refine qkN ?_ _ | refine qkD ?_ | refine qkA ?_ _)); exact BK101.out⟩; have n3_ : Aside0 (((w51.setCell ⟨gb109, 0, none⟩ (.slice Ao52 t105.length co52)).setCell ⟨gb109, 1, none⟩ (.int .i64 t108)).heap[gb102]? = some (.cells #[.int .i64 a1_0, .slice A1_1 l1_1.length c1_1, .slice A1_2 l1_2.length c1_2] 65 (0, 0))) := ⟨by (with_reducible repeat (first | refine qkN ?_ _ | refine qkD ?_ | refine qkA ?_ _)); refine blk_far ?_ NB102_109.out _; (with_reducible repeat (first | refine qkN ?_ _ | refine qkD ?_ | refine qkA ?_ _)); refine blk_far ?_ NB102_109.out _; (with_reducible repeat (first | refine qkN ?_ _ | refine qkD ?_ | refine qkA ?_ _)); exact BK102.out⟩; have n4_ : Aside0 (((w51.setCell ⟨gb109, 0, none⟩ (.slice Ao52 t105.length co52)).setCell ⟨gb109, 1, none⟩ (.int .i64 t108)).heap[gb103]? = some (.cells #[.slice none 0 0, .int .i64 0] 28 (0, 0))) := ⟨by (with_reducible repeat (first | refine qkN ?_ _ | refine qkD ?_ | refine qkA ?_ _)); refine blk_far ?_ NB103_109.out _; (with_reducible repeat (first | refine qkN ?_ _ | refine qkD ?_ | refine qkA ?_ _)); refine blk_far ?_ NB103_109.out _; (with_reducible repeat (first | refine qkN ?_ _ | refine qkD ?_ | refine qkA ?_ _)); exact BK103.out⟩; have n5_ : Aside0 (((w51.setCell ⟨gb109, 0, none⟩ (.slice Ao52 t105.length co52)).setCell ⟨gb109, 1, none⟩ (.int .i64 t108)).heap[gb109]? = some (.cells #[.slice Ao52 t105.length co52, .int .i64 t108] 28 (0, 0))) := ⟨by (with_reducible repeat (first | refine qkN ?_ _ | refine qkD ?_ | refine qkA ?_ _)); refine blk_put (cs := #[.slice Ao52 t105.length co52, .int .i64 0]) ?_ 1 _ rfl; (with_reducible repeat (first | refine qkN ?_ _ | refine qkD ?_ | refine qkA ?_ _)); refine blk_put (cs := #[.slice none 0 0, .int .i64 0]) ?_ 0 _ rfl; (with_reducible repeat (first | refine qkN ?_ _ | refine qkD ?_ | refine qkA ?_ _)); exact BK109.out⟩; have n6_ : Aside0 (Below w.heap.size w ((w51.setCell ⟨gb109, 0, none⟩ (.slice Ao52 t105.length co52)).setCell ⟨gb109, 1, none⟩ (.int .i64 t108))) := ⟨qa128⟩; (try clear HO0_0); (try clear HO107); (try clear BK101); (try clear BK102); (try clear BK103); (try clear BK109); (try clear HB); generalize ((w51.setCell ⟨gb109, 0, none⟩ (.slice Ao52 t105.length co52)).setCell ⟨gb109, 1, none⟩ (.int .i64 t108)) = w57 at n0_ n1_ n2_ n3_ n4_ n5_ n6_ ⊢; have HO0_0 := n0_; have HO107 := n1_; have BK101 := n2_; have BK102 := n3_; have BK103 := n4_; have BK109 := n5_; have HB := n6_; clear n0_ n1_ n2_ n3_ n4_ n5_ n6_; replace HO0_0 := qO (Kd.V_drew HO0_0.out); replace HO107 := qO (Kd.V_drew HO107.out); replace BK101 := qO (qkD BK101.out); replace BK102 := qO (qkD BK102.out); replace BK103 := qO (qkD BK103.out); replace BK109 := qO (qkD BK109.out); replace HB := qO (qbD HB.out); refine start_ (n := 6) (S := fun w' => w'.cell? ⟨gb109, 0, none⟩ = some (.slice Ao52 t105.length co52) ∧ w'.cell? ⟨gb109, 1, none⟩ = some (.int .i64 t108)) (ds := []) spec_l07Commit.y0 qa5 rfl rfl ⟨qc0 BK109.out, qc1 BK109.out⟩ (fun hHeld => ?_); generalize w57.drew = w58 at HO0_0 HO107 BK101 BK102 BK103 BK109 HB hHeld ⊢; refine qPu 1 28 spec_l07Commit.y1 rfl rfl qa5 qa8 qa2 ?_; refine qTk 0 27 spec_l07Commit.y2 rfl rfl qa5 qa125 hHeld qa2 ?_; refine qTk 2 29 spec_l07Commit.y3 rfl rfl qa5 qa125 hHeld qa2 ?_; refine one_ (i := 3) (N := none) spec_l07Commit.y4 rfl rfl qa5 qa51 (fun K hK => ?_); have hs59 := qc0 BK103.out; have hfs59 := blk_frozen BK103.out 0; have hns59_0 := NB101_103.out; have hns59_1 := NB102_103.out; have hns59_3 := NB109_103.out; have hms59_0 := NB103_101.out; have hms59_1 := NB103_102.out; have hms59_3 := NB103_109.out; have hs60 := qc1 BK103.out; have hfs60 := blk_frozen BK103.out 1; have hns60_0 := NB101_103.out; have hns60_1 := NB102_103.out; have hns60_3 := NB109_103.out; have hms60_0 := NB103_101.out; have hms60_1 := NB103_102.out; have hms60_3 := NB103_109.out; refine skip_ (w1 := ?_) (by rfl) rfl ?_ ?_; rotate_left
    ·go_simp
     rfl
    refine hK.out _ _ ⟨((cell_far (p := ⟨gb103, _, none⟩) NB109_103.out _).trans (((cell_far (p := ⟨gb103, _, none⟩) NB109_103.out _).trans (hHeld.1)))), ((cell_far (p := ⟨gb103, _, none⟩) NB109_103.out _).trans (((cell_far (p := ⟨gb103, _, none⟩) NB109_103.out _).trans (hHeld.2))))⟩ (fun hHeld => ?_); clear hK K; refine qPu 4 5 spec_l07Commit.y5 rfl rfl qa5 qa8 qa2 ?_; refine qPu 5 6 spec_l07Commit.y6 rfl rfl qa5 qa8 qa2 ?_; refine done_ qa5 ?_
    try go_wp2
    refine bodyPost_ret (results_ctt rfl _ _ gb103 28 #[.slice Ao52 t105.length co52, .int .i64 t108] (0, 0) _ rfl (by (with_reducible repeat (first | refine qkN ?_ _ | refine qkD ?_ | refine qkA ?_ _)); refine blk_put (cs := #[.slice Ao52 t105.length co52, .int .i64 0]) ?_ 1 _ rfl; (with_reducible repeat (first | refine qkN ?_ _ | refine qkD ?_ | refine qkA ?_ _)); refine blk_put (cs := #[.slice none 0 0, .int .i64 0]) ?_ 0 _ rfl; (with_reducible repeat (first | refine qkN ?_ _ | refine qkD ?_ | refine qkA ?_ _)); exact BK103.out) Try.underlying28 rfl qa5) rfl ?_
    exact ⟨_, qa7, by (with_reducible repeat (first | apply Kd.V_alloc | apply Kd.V_drewN | apply Kd.V_drew)); exact Kd.V_mono (Kd.V_far (p := ⟨gb103, 1, none⟩) (Kd.V_far (p := ⟨gb103, 0, none⟩) (Kd.V_mono HO107.out (fun k_ hk => (⟨hk, hk.2.2.2.1⟩ : _ ∧ k_ ≠ gb103))) (fun _ hk => hk.2) (.slice Ao52 t105.length co52)) (fun _ hk => hk.2) (.int .i64 t108)) (fun _ hk => hk.1.1), qa128⟩


def spec_Commit.f (k : Nat) (l0_0 : List (List (S43))) (a0_1 : Int) (a1_0 : Int) (l1_1 : List Int) (l1_2 : List (S58)) : Option ((List (List (S43))) × Int × Int × Int) := (spec_TxnOK.f k l0_0 a0_1 a1_0 l1_1 l1_2).bind fun t104 => (if t104 = true then ((spec_l07Commit.f k l0_0 a0_1 a1_0 l1_1 l1_2).bind fun bt105 => ((spec_l06Own.f k bt105.1 bt105.2.1).bind fun bt112 => (some (bt112.1, bt112.2, bt105.2.2.1, bt105.2.2.2)))) else (some (([] : List (List (S43))), 0, 0, 1)))
set_option maxHeartbeats 8000000 in
set_option maxRecDepth 100000 in
theorem spec_Commit.calls (k : Nat) (A0_0 : Option Addr) (c0_0 : Nat) (l0_0 : List (List (S43))) (a0_1 : Int) (a1_0 : Int) (A1_1 : Option Addr) (c1_1 : Nat) (l1_1 : List Int) (A1_2 : Option Addr) (c1_2 : Nat) (l1_2 : List (S58)) (r1 : List (List (S43))) (r2 : Int) (r3 : Int) (r4 : Int) (w : World) (hr0_0 : Kd.C (Kd.slice 43 k43) w A0_0 l0_0.length l0_0) (hc0_0 : l0_0.length ≤ c0_0) (hr1_1 : Kd.C (Kd.int .i64) w A1_1 l1_1.length l1_1) (hc1_1 : l1_1.length ≤ c1_1) (hr1_2 : Kd.C k58 w A1_2 l1_2.length l1_2) (hc1_2 : l1_2.length ≤ c1_2) (h : spec_Commit.f k l0_0 a0_1 a1_0 l1_1 l1_2 = some (r1, r2, r3, r4)) :
  Calls Try.prog 51 #[.agg #[.slice A0_0 l0_0.length c0_0, .int .i64 a0_1], .agg #[.int .i64 a1_0, .slice A1_1 l1_1.length c1_1, .slice A1_2 l1_2.length c1_2]] w fun e w' => ∃ v0_ : Value, e = .returned (.tuple #[.agg #[v0_, .int .i64 r2], .int .i64 r3, .int .i64 r4]) ∧ Kd.S (Kd.slice 43 k43) 41 w' w.heap.size (fun _ => True) v0_ r1 ∧ Below w.heap.size w w' := by
 have hu28 := Try.underlying28; have hu65 := Try.underlying65; have HR0_0 := qO hr0_0; have HC0_0 := qO hc0_0; clear hr0_0 hc0_0; have HR1_1 := qO hr1_1; have HC1_1 := qO hc1_1; clear hr1_1 hc1_1; have HR1_2 := qO hr1_2; have HC1_2 := qO hc1_2; clear hr1_2 hc1_2; have HB := qO (Below.refl w.heap.size w); have H : ((spec_TxnOK.f k l0_0 a0_1 a1_0 l1_1 l1_2).bind fun t104 => (if t104 = true then ((spec_l07Commit.f k l0_0 a0_1 a1_0 l1_1 l1_2).bind fun bt105 => ((spec_l06Own.f k bt105.1 bt105.2.1).bind fun bt112 => (some (bt112.1, bt112.2, bt105.2.2.1, bt105.2.2.2)))) else (some (([] : List (List (S43))), 0, 0, 1)))) = some (r1, r2, r3, r4) := h; clear h; replace H := Option.bind_eq_some_iff.mp H; obtain ⟨t104, A30, H⟩ := H; replace H : (if t104 = true then ((spec_l07Commit.f k l0_0 a0_1 a1_0 l1_1 l1_2).bind fun bt105 => ((spec_l06Own.f k bt105.1 bt105.2.1).bind fun bt112 => (some (bt112.1, bt112.2, bt105.2.2.1, bt105.2.2.2)))) else (some (([] : List (List (S43))), 0, 0, 1))) = some (r1, r2, r3, r4) := H; have A3 := qO A30; clear A30
 by_cases c4 : t104 = true
 ·subst c4
  have H1 : ((spec_l07Commit.f k l0_0 a0_1 a1_0 l1_1 l1_2).bind fun bt105 => ((spec_l06Own.f k bt105.1 bt105.2.1).bind fun bt112 => (some (bt112.1, bt112.2, bt105.2.2.1, bt105.2.2.2)))) = some (r1, r2, r3, r4) := by rw [if_pos rfl] at H; exact H
  clear H; have H := H1; clear H1; replace H := Option.bind_eq_some_iff.mp H; obtain ⟨⟨t105, t108, t109, t110⟩, A50, H⟩ := H; replace H : ((spec_l06Own.f k t105 t108).bind fun bt112 => (some (bt112.1, bt112.2, t109, t110))) = some (r1, r2, r3, r4) := H; have A5 := qO A50; clear A50; replace H := Option.bind_eq_some_iff.mp H; obtain ⟨⟨t112, t115⟩, A60, H⟩ := H; replace H : (some (t112, t115, t109, t110)) = some (r1, r2, r3, r4) := H; have A6 := qO A60; clear A60; simp only [Option.some.injEq, Prod.mk.injEq] at H; obtain ⟨rfl, rfl, rfl, rfl⟩ := H
  go_enter Try.func51, Try.ntmps51
  go_wp2_with (first | ((with_reducible refine gate_dst (N := 2) rfl ?_); refine qX 2 #[.slice A0_0 l0_0.length c0_0, .int .i64 a0_1] 28 ?_; intro gb101 hg w7 hbox hb; have hx_ := qHX HB hb qa0; have BK101 := qO (hbox); have GW101 := qO ((qa9 : w.heap.size ≤ gb101)); have GE101 := GW101; replace HB := qO (below_step (below_step HB.out hx_) hb); clear hx_ hb hbox hg) | ((with_reducible refine gate_dst (N := 3) rfl ?_); refine qX 3 #[.int .i64 a1_0, .slice A1_1 l1_1.length c1_1, .slice A1_2 l1_2.length c1_2] 65 ?_; intro gb102 hg w8 hbox hb; have hx_ := qHX HB hb qa0; have BK102 := qO (hbox); have GW102 := qO ((qa9 : w.heap.size ≤ gb102)); have GE102 := GW102; have NB101_102 := qO ((qa4 : gb101 ≠ gb102)); have NB102_101 := qO (Ne.symm NB101_102.out); replace BK101 := qO (qB BK101.out hx_ hb); replace HB := qO (below_step (below_step HB.out hx_) hb); clear hx_ hb hbox hg) | ((with_reducible refine gate_dst (N := 4) rfl ?_); refine qX 4 #[.slice none 0 0, .int .i64 0] 28 ?_; intro gb103 hg w9 hbox hb; have hx_ := qHX HB hb qa0; have BK103 := qO (hbox); have GW103 := qO ((qa9 : w.heap.size ≤ gb103)); have GE103 := GW103; have NB101_103 := qO ((qa4 : gb101 ≠ gb103)); have NB103_101 := qO (Ne.symm NB101_103.out); have NB102_103 := qO ((qa20 : gb102 ≠ gb103)); have NB103_102 := qO (Ne.symm NB102_103.out); replace BK101 := qO (qB BK101.out hx_ hb); replace BK102 := qO (qB BK102.out hx_ hb); replace HB := qO (below_step (below_step HB.out hx_) hb); clear hx_ hb hbox hg; have hnb10 := NB101_102.out; have hnc10 := NB102_101.out; have hnb11 := NB101_103.out; have hnc11 := NB103_101.out; obtain ⟨hcz12_0, hcz12_1, hfz12_0, hfz12_1⟩ := qb2 BK101.out; have hnb13 := NB102_103.out; have hnc13 := NB103_102.out; obtain ⟨hcz14_0, hcz14_1, hcz14_2, hfz14_0, hfz14_1, hfz14_2⟩ := qb3 BK102.out) | ((with_reducible refine gate_callee (f := 87) rfl ?_); refine goesL_ (some 12) rfl rfl Try.func87 qa5 rfl #[.agg #[.slice A0_0 l0_0.length c0_0, .int .i64 a0_1], .agg #[.int .i64 a1_0, .slice A1_1 l1_1.length c1_1, .slice A1_2 l1_2.length c1_2]] rfl qa3 ?_; (with_reducible refine (spec_TxnOK.calls k _ _ l0_0 a0_1 a1_0 _ _ l1_1 _ _ l1_2 true _ ?side1 ?side2 ?side3 ?side4 ?side5 ?side6 A3.out).mono ?_); (case side1 => exact qa18); (case side2 => exact HC0_0.out); (case side3 => exact qa37); (case side4 => exact HC1_1.out); (case side5 => exact qa38); (case side6 => exact HC1_2.out); rintro e w15 ⟨rfl, hb⟩; have hx_ := qHX HB hb qa0; refine ⟨_, rfl, ?_⟩; replace BK101 := qO (qB BK101.out hx_ hb); replace BK102 := qO (qB BK102.out hx_ hb); replace BK103 := qO (qB BK103.out hx_ hb); replace HB := qO (below_step (below_step HB.out hx_) hb); clear hx_; (try clear hb); (try clear hb2); (try clear hk); (try clear hi); obtain ⟨hcz16_0, hcz16_1, hfz16_0, hfz16_1⟩ := qb2 BK101.out; obtain ⟨hcz17_0, hcz17_1, hcz17_2, hfz17_0, hfz17_1, hfz17_2⟩ := qb3 BK102.out) | ((with_reducible refine gate_callee (f := 98) rfl ?_); refine goesL_ (some 18) rfl rfl Try.func98 qa5 rfl #[.agg #[.slice A0_0 l0_0.length c0_0, .int .i64 a0_1], .agg #[.int .i64 a1_0, .slice A1_1 l1_1.length c1_1, .slice A1_2 l1_2.length c1_2]] rfl qa3 ?_; (with_reducible refine (spec_l07Commit.calls k (fun k_ => k_ < w.heap.size) _ _ l0_0 a0_1 a1_0 _ _ l1_1 _ _ l1_2 t105 t108 t109 t110 _ ?side1 ?side2 ?side3 ?side4 ?side5 A5.out).mono ?_); (case side1 => exact Kd.V_mk HC0_0.out (Kd.F_below (Kd.C_F (Kd.heap_slice 43 k43_heap) HR0_0.out) (by repeat (first | (with_reducible first | exact HB.out | apply qbA | apply qbN | apply qbD | refine qbS ?_ GE101.out | refine qbS ?_ GE102.out | refine qbS ?_ GE103.out) | exact HB.out)))); (case side2 => exact qa37); (case side3 => exact HC1_1.out); (case side4 => exact qa38); (case side5 => exact HC1_2.out); rintro e w18 ⟨v106, rfl, ho0, hb⟩; have hx_ := qHX HB hb qa0; refine ⟨_, rfl, ?_⟩; have HO107 := qO (Kd.V_lower (Kd.V_mono (ok' := fun k_ => k_ ≠ gb101 ∧ k_ ≠ gb102 ∧ k_ ≠ gb103) ho0 (fun k_ hk_ => ⟨Or.elim hk_ (fun hs_ => fun e_ => Nat.not_le.2 hs_ (by rw [e_]; exact GW101.out)) (fun hn_ => (Kd.freshB (g := gb101) (o := .cells #[.slice A0_0 l0_0.length c0_0, .int .i64 a0_1] 28 (0, 0)) qa17 k_ hn_)), Or.elim hk_ (fun hs_ => fun e_ => Nat.not_le.2 hs_ (by rw [e_]; exact GW102.out)) (fun hn_ => (Kd.freshB (g := gb102) (o := .cells #[.int .i64 a1_0, .slice A1_1 l1_1.length c1_1, .slice A1_2 l1_2.length c1_2] 65 (0, 0)) qa28 k_ hn_)), Or.elim hk_ (fun hs_ => fun e_ => Nat.not_le.2 hs_ (by rw [e_]; exact GW103.out)) (fun hn_ => (Kd.freshB (g := gb103) (o := .cells #[.slice none 0 0, .int .i64 0] 28 (0, 0)) qa147 k_ hn_))⟩)) (below_size (below_step HB.out hx_))); replace BK101 := qO (qB BK101.out hx_ hb); replace BK102 := qO (qB BK102.out hx_ hb); replace BK103 := qO (qB BK103.out hx_ hb); replace HB := qO (below_step (below_step HB.out hx_) hb); clear hx_; (try clear hb); (try clear hb2); (try clear hk); (try clear hi); (try clear ho0)) | ((with_reducible refine gate_dst (N := 7) rfl ?_); refine qX 7 #[.slice none 0 0, .int .i64 0] 28 ?_; intro gb111 hg w19 hbox hb; have hx_ := qHX HB hb qa0; have BK111 := qO (hbox); have GW111 := qO ((qa9 : w.heap.size ≤ gb111)); have GE111 := GW111; have NB101_111 := qO ((qa4 : gb101 ≠ gb111)); have NB111_101 := qO (Ne.symm NB101_111.out); have NB102_111 := qO ((qa20 : gb102 ≠ gb111)); have NB111_102 := qO (Ne.symm NB102_111.out); have NB103_111 := qO ((qa126 : gb103 ≠ gb111)); have NB111_103 := qO (Ne.symm NB103_111.out); replace HO107 := qO (Kd.V_below (Kd.V_elderB qa176 gb111 (Nat.le_of_eq hg.symm)) hb); replace BK101 := qO (qB BK101.out hx_ hb); replace BK102 := qO (qB BK102.out hx_ hb); replace BK103 := qO (qB BK103.out hx_ hb); replace HB := qO (below_step (below_step HB.out hx_) hb); clear hx_ hb hbox hg; obtain ⟨Ao20, co20, eo20⟩ := Kd.V_slice HO107.out; subst eo20; have hnb21 := NB111_101.out; have hnc21 := NB101_111.out; have hnb22 := NB111_102.out; have hnc22 := NB102_111.out; have hnb23 := NB111_103.out; have hnc23 := NB103_111.out; obtain ⟨hcz24_0, hcz24_1, hfz24_0, hfz24_1⟩ := qb2 BK111.out) | ((with_reducible refine gate_callee (f := 72) rfl ?_); refine goesL_ (some 23) rfl rfl Try.func72 qa5 rfl #[.agg #[.slice Ao20 t105.length co20, .int .i64 t108]] rfl qa3 ?_; (with_reducible refine (spec_l06Own.calls k _ _ t105 t108 t112 t115 _ ?side1 ?side2 A6.out).mono ?_); (case side1 => refine (Kd.V_reads' (e := 41) (base := w.heap.size) (ok := fun k_ => ((k_ ≠ gb101 ∧ (k_ ≠ gb102 ∧ k_ ≠ gb103)) ∧ k_ ≠ gb111)) (n := t105.length) (c := co20) ?_).2.2; exact (by (with_reducible repeat (first | apply Kd.V_alloc | apply Kd.V_drewN | apply Kd.V_drew)); exact (Kd.V_mono (Kd.V_far (p := ⟨gb111, 1, none⟩) (Kd.V_far (p := ⟨gb111, 0, none⟩) (Kd.V_mono HO107.out (fun k_ hk => (⟨hk, hk.2⟩ : _ ∧ k_ ≠ gb111))) (fun _ hk => hk.2) (.slice Ao20 t105.length co20)) (fun _ hk => hk.2) (.int .i64 t108)) (fun _ h_ => h_.1)))); (case side2 => exact (Kd.V_reads' HO107.out).2.1); rintro e w25 ⟨v113, rfl, ho0, hb⟩; refine ⟨_, rfl, ?_⟩; have HO114 := qO (Kd.S_lower ho0 (below_size qa92)); replace HO107 := qO (Kd.V_elder' (by (with_reducible repeat (first | apply Kd.V_alloc | apply Kd.V_drewN | apply Kd.V_drew)); exact (Kd.V_mono (Kd.V_far (p := ⟨gb111, 1, none⟩) (Kd.V_far (p := ⟨gb111, 0, none⟩) (Kd.V_mono HO107.out (fun k_ hk => (⟨hk, hk.2⟩ : _ ∧ k_ ≠ gb111))) (fun _ hk => hk.2) (.slice Ao20 t105.length co20)) (fun _ hk => hk.2) (.int .i64 t108)) (fun _ h_ => h_.1))) (Kd.S_base ho0) hb); replace BK101 := qO (blk_below (g := gb101) (o := .cells #[.slice A0_0 l0_0.length c0_0, .int .i64 a0_1] 28 (0, 0)) (by (with_reducible repeat (first | refine qkN ?_ _ | refine qkD ?_ | refine qkA ?_ _)); refine blk_far ?_ NB101_111.out _; (with_reducible repeat (first | refine qkN ?_ _ | refine qkD ?_ | refine qkA ?_ _)); refine blk_far ?_ NB101_111.out _; (with_reducible repeat (first | refine qkN ?_ _ | refine qkD ?_ | refine qkA ?_ _)); exact BK101.out) hb); replace BK102 := qO (blk_below (g := gb102) (o := .cells #[.int .i64 a1_0, .slice A1_1 l1_1.length c1_1, .slice A1_2 l1_2.length c1_2] 65 (0, 0)) (by (with_reducible repeat (first | refine qkN ?_ _ | refine qkD ?_ | refine qkA ?_ _)); refine blk_far ?_ NB102_111.out _; (with_reducible repeat (first | refine qkN ?_ _ | refine qkD ?_ | refine qkA ?_ _)); refine blk_far ?_ NB102_111.out _; (with_reducible repeat (first | refine qkN ?_ _ | refine qkD ?_ | refine qkA ?_ _)); exact BK102.out) hb); replace BK103 := qO (blk_below (g := gb103) (o := .cells #[.slice none 0 0, .int .i64 0] 28 (0, 0)) (by (with_reducible repeat (first | refine qkN ?_ _ | refine qkD ?_ | refine qkA ?_ _)); refine blk_far ?_ NB103_111.out _; (with_reducible repeat (first | refine qkN ?_ _ | refine qkD ?_ | refine qkA ?_ _)); refine blk_far ?_ NB103_111.out _; (with_reducible repeat (first | refine qkN ?_ _ | refine qkD ?_ | refine qkA ?_ _)); exact BK103.out) hb); replace BK111 := qO (blk_below (g := gb111) (o := .cells #[.slice Ao20 t105.length co20, .int .i64 t108] 28 (0, 0)) (by (with_reducible repeat (first | refine qkN ?_ _ | refine qkD ?_ | refine qkA ?_ _)); refine blk_put (cs := #[.slice Ao20 t105.length co20, .int .i64 0]) ?_ 1 _ rfl; (with_reducible repeat (first | refine qkN ?_ _ | refine qkD ?_ | refine qkA ?_ _)); refine blk_put (cs := #[.slice none 0 0, .int .i64 0]) ?_ 0 _ rfl; (with_reducible repeat (first | refine qkN ?_ _ | refine qkD ?_ | refine qkA ?_ _)); exact BK111.out) hb); replace HB := qO (below_step qa92 hb); (try clear hb); (try clear hb2); (try clear hk); (try clear hi); (try clear ho0); obtain ⟨Ao26, co26, eo26⟩ := Kd.S_slice HO114.out; subst eo26; obtain ⟨hcz27_0, hcz27_1, hfz27_0, hfz27_1⟩ := qb2 BK103.out))
  refine bodyPost_ret (results_ctt rfl _ _ gb103 28 #[.slice Ao26 t112.length co26, .int .i64 t115] (0, 0) _ rfl (by (with_reducible repeat (first | refine qkN ?_ _ | refine qkD ?_ | refine qkA ?_ _)); refine blk_put (cs := #[.slice Ao26 t112.length co26, .int .i64 0]) ?_ 1 _ rfl; (with_reducible repeat (first | refine qkN ?_ _ | refine qkD ?_ | refine qkA ?_ _)); refine blk_put (cs := #[.slice none 0 0, .int .i64 0]) ?_ 0 _ rfl; (with_reducible repeat (first | refine qkN ?_ _ | refine qkD ?_ | refine qkA ?_ _)); exact BK103.out) Try.underlying28 rfl qa5) rfl ?_
  exact ⟨_, qa7, by (with_reducible repeat (first | apply Kd.S_alloc | apply Kd.S_drewN | apply Kd.S_drew)); exact Kd.S_mono (Kd.S_far (p := ⟨gb103, 1, none⟩) (Kd.S_far (p := ⟨gb103, 0, none⟩) (Kd.S_types HO114.out BK103.out (by decide)) (fun _ hk => hk.2) (.slice Ao26 t112.length co26)) (fun _ hk => hk.2) (.int .i64 t115)) (fun _ hk => trivial), qa92⟩
 ·replace c4 := Bool.eq_false_iff.mpr c4
  subst c4; have H1 : (some (([] : List (List (S43))), 0, 0, 1)) = some (r1, r2, r3, r4) := by rw [if_neg (show ¬ (false = true) by decide)] at H; exact H
  clear H; have H := H1; clear H1; simp only [Option.some.injEq, Prod.mk.injEq] at H; obtain ⟨rfl, rfl, rfl, rfl⟩ := H
  go_enter Try.func51, Try.ntmps51
  go_wp2_with (first | ((with_reducible refine gate_dst (N := 2) rfl ?_); refine qX 2 #[.slice A0_0 l0_0.length c0_0, .int .i64 a0_1] 28 ?_; intro gb101 hg w28 hbox hb; have hx_ := qHX HB hb qa0; have BK101 := qO (hbox); have GW101 := qO ((qa9 : w.heap.size ≤ gb101)); have GE101 := GW101; replace HB := qO (below_step (below_step HB.out hx_) hb); clear hx_ hb hbox hg) | ((with_reducible refine gate_dst (N := 3) rfl ?_); refine qX 3 #[.int .i64 a1_0, .slice A1_1 l1_1.length c1_1, .slice A1_2 l1_2.length c1_2] 65 ?_; intro gb102 hg w29 hbox hb; have hx_ := qHX HB hb qa0; have BK102 := qO (hbox); have GW102 := qO ((qa9 : w.heap.size ≤ gb102)); have GE102 := GW102; have NB101_102 := qO ((qa4 : gb101 ≠ gb102)); have NB102_101 := qO (Ne.symm NB101_102.out); replace BK101 := qO (qB BK101.out hx_ hb); replace HB := qO (below_step (below_step HB.out hx_) hb); clear hx_ hb hbox hg) | ((with_reducible refine gate_dst (N := 4) rfl ?_); refine qX 4 #[.slice none 0 0, .int .i64 0] 28 ?_; intro gb103 hg w30 hbox hb; have hx_ := qHX HB hb qa0; have BK103 := qO (hbox); have GW103 := qO ((qa9 : w.heap.size ≤ gb103)); have GE103 := GW103; have NB101_103 := qO ((qa4 : gb101 ≠ gb103)); have NB103_101 := qO (Ne.symm NB101_103.out); have NB102_103 := qO ((qa20 : gb102 ≠ gb103)); have NB103_102 := qO (Ne.symm NB102_103.out); replace BK101 := qO (qB BK101.out hx_ hb); replace BK102 := qO (qB BK102.out hx_ hb); replace HB := qO (below_step (below_step HB.out hx_) hb); clear hx_ hb hbox hg; have hnb31 := NB101_102.out; have hnc31 := NB102_101.out; have hnb32 := NB101_103.out; have hnc32 := NB103_101.out; obtain ⟨hcz33_0, hcz33_1, hfz33_0, hfz33_1⟩ := qb2 BK101.out; have hnb34 := NB102_103.out; have hnc34 := NB103_102.out; obtain ⟨hcz35_0, hcz35_1, hcz35_2, hfz35_0, hfz35_1, hfz35_2⟩ := qb3 BK102.out) | ((with_reducible refine gate_callee (f := 87) rfl ?_); refine goesL_ (some 12) rfl rfl Try.func87 qa5 rfl #[.agg #[.slice A0_0 l0_0.length c0_0, .int .i64 a0_1], .agg #[.int .i64 a1_0, .slice A1_1 l1_1.length c1_1, .slice A1_2 l1_2.length c1_2]] rfl qa3 ?_; (with_reducible refine (spec_TxnOK.calls k _ _ l0_0 a0_1 a1_0 _ _ l1_1 _ _ l1_2 false _ ?side1 ?side2 ?side3 ?side4 ?side5 ?side6 A3.out).mono ?_); (case side1 => exact qa18); (case side2 => exact HC0_0.out); (case side3 => exact qa37); (case side4 => exact HC1_1.out); (case side5 => exact qa38); (case side6 => exact HC1_2.out); rintro e w36 ⟨rfl, hb⟩; have hx_ := qHX HB hb qa0; refine ⟨_, rfl, ?_⟩; replace BK101 := qO (qB BK101.out hx_ hb); replace BK102 := qO (qB BK102.out hx_ hb); replace BK103 := qO (qB BK103.out hx_ hb); replace HB := qO (below_step (below_step HB.out hx_) hb); clear hx_; (try clear hb); (try clear hb2); (try clear hk); (try clear hi); obtain ⟨hcz37_0, hcz37_1, hfz37_0, hfz37_1⟩ := qb2 BK103.out))
  refine bodyPost_ret (results_ctt rfl _ _ gb103 28 #[.slice none 0 0, .int .i64 0] (0, 0) _ rfl qa56 Try.underlying28 rfl qa5) rfl ?_
  exact ⟨_, qa7, qa129, qa19⟩


def impl_within.f (a0 : Int) (a1 : Int) (a2 : Int) : Option (Bool) := if a0 ≥ a1 then (some (decide (a0 ≤ a2))) else (some false)
set_option maxHeartbeats 8000000 in
set_option maxRecDepth 100000 in
theorem impl_within.calls (a0 : Int) (a1 : Int) (a2 : Int) (r : Bool) (w : World) (h : impl_within.f a0 a1 a2 = some r) :
  Calls Try.prog 65 #[.int .i64 a0, .int .i64 a1, .int .i64 a2] w fun e w' => e = .returned (.bool r) ∧ Drawn0 w w' := by
 have H : (if a0 ≥ a1 then (some (decide (a0 ≤ a2))) else (some false)) = some r := h; clear h
 by_cases c4 : a0 ≥ a1
 ·rw [if_pos c4] at H
  have c4b0 : decide (a1 ≤ a0) = true := decide_eq_true c4; clear c4; obtain rfl := Option.some.inj H
  go_enter Try.func65, Try.ntmps65
  go_wp2
  go_ret
  exact ⟨qa12, qa22⟩
 ·rw [if_neg c4] at H
  have c4b0 : decide (a1 ≤ a0) = false := decide_eq_false c4; clear c4; obtain rfl := Option.some.inj H
  go_enter Try.func65, Try.ntmps65
  go_wp2
  go_ret
  exact ⟨qa12, qa22⟩


def impl_IsInt.f (a0 : Int) : Option (Bool) := (impl_within.f a0 (-2147483648) 2147483647).bind fun t101 => (some t101)
set_option maxHeartbeats 8000000 in
set_option maxRecDepth 100000 in
theorem impl_IsInt.calls (a0 : Int) (r : Bool) (w : World) (h : impl_IsInt.f a0 = some r) :
  Calls Try.prog 111 #[.int .i64 a0] w fun e w' => e = .returned (.bool r) ∧ Drawn0 w w' := by
 have H : ((impl_within.f a0 (-2147483648) 2147483647).bind fun t101 => (some t101)) = some r := h; clear h; replace H := Option.bind_eq_some_iff.mp H; obtain ⟨t101, A20, H⟩ := H; replace H : (some t101) = some r := H; have A2 := qO A20; clear A20; obtain rfl := Option.some.inj H
 go_enter Try.func111, Try.ntmps111
 go_wp2_with (first | ((with_reducible refine gate_callee (f := 65) rfl ?_); refine goesL_ (some 4) rfl rfl Try.func65 qa5 rfl #[.int .i64 a0, .int .i64 (-2147483648), .int .i64 2147483647] rfl qa3 ?_; (with_reducible refine (impl_within.calls a0 (-2147483648) 2147483647 t101 _ A2.out).mono ?_); rintro e w' ⟨rfl, ⟨nd, rfl⟩⟩; refine ⟨_, rfl, ?_⟩))
 go_ret
 exact ⟨qa12, qa22⟩


def impl_fits.f (a0 : Int) (a1 : Int) : Option (Bool) := if (Int.tmod a0 2) = 1 then ((impl_within.f a1 0 8).bind fun t101 => (some t101)) else ((impl_IsInt.f a1).bind fun t102 => (some t102))
set_option maxHeartbeats 8000000 in
set_option maxRecDepth 100000 in
theorem impl_fits.calls (a0 : Int) (a1 : Int) (r : Bool) (w : World) (h : impl_fits.f a0 a1 = some r) :
  Calls Try.prog 66 #[.int .i64 a0, .int .i64 a1] w fun e w' => e = .returned (.bool r) ∧ Drawn0 w w' := by
 have H : (if (Int.tmod a0 2) = 1 then ((impl_within.f a1 0 8).bind fun t101 => (some t101)) else ((impl_IsInt.f a1).bind fun t102 => (some t102))) = some r := h; clear h
 by_cases c3 : (Int.tmod a0 2) = 1
 ·rw [if_pos c3] at H
  have c3b0 : ((Int.tmod a0 2) == 1) = true := beq_iff_eq.mpr c3; have c3b1 : ((Int.tmod a0 2) != 1) = false := bne_eq_false_iff_eq.mpr c3; clear c3; replace H := Option.bind_eq_some_iff.mp H; obtain ⟨t101, A40, H⟩ := H; replace H : (some t101) = some r := H; have A4 := qO A40; clear A40; obtain rfl := Option.some.inj H
  go_enter Try.func66, Try.ntmps66
  go_wp2_with (first | ((with_reducible refine gate_callee (f := 65) rfl ?_); refine goesL_ (some 9) rfl rfl Try.func65 qa5 rfl #[.int .i64 a1, .int .i64 0, .int .i64 8] rfl qa3 ?_; (with_reducible refine (impl_within.calls a1 0 8 t101 _ A4.out).mono ?_); rintro e w' ⟨rfl, ⟨nd, rfl⟩⟩; refine ⟨_, rfl, ?_⟩))
  go_ret
  exact ⟨qa12, qa22⟩
 ·rw [if_neg c3] at H
  have c3b0 : ((Int.tmod a0 2) == 1) = false := beq_eq_false_iff_ne.mpr c3; have c3b1 : ((Int.tmod a0 2) != 1) = true := bne_iff_ne.mpr c3; replace H := Option.bind_eq_some_iff.mp H; obtain ⟨t102, A50, H⟩ := H; replace H : (some t102) = some r := H; have A5 := qO A50; clear A50; obtain rfl := Option.some.inj H
  go_enter Try.func66, Try.ntmps66
  go_wp2_with (first | ((with_reducible refine gate_callee (f := 111) rfl ?_); refine goesL_ (some 11) rfl rfl Try.func111 qa5 rfl #[.int .i64 a1] rfl qa3 ?_; (with_reducible refine (impl_IsInt.calls a1 t102 _ A5.out).mono ?_); rintro e w' ⟨rfl, ⟨nd, rfl⟩⟩; refine ⟨_, rfl, ?_⟩))
  go_ret
  exact ⟨qa12, qa22⟩

end Go.Proofs.Ytfiboooflebdpaa.Q
