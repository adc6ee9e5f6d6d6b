/- Texts of the claim on FnExactSameOut, gathered by a program of this session: what the program's functions compute (proved by walks), and the plain part. -/
import Derived.Test.YtfpkooafbeejmaaKFnExactSameOuta
namespace Go.Proofs.Ytfpkooafbeejmaa.Q
open Go.RowKit Go.Proofs.YtfpkooafbeejmaaW.PrintWords Go.Proofs.YtfpkooafbeejmaaW.PrintLast Go.Proofs.YtfpkooafbeejmaaW.PrintMore
attribute [local go_sem] max2_int min2_int max_two min_two max_three min_three max_four min_four
set_option linter.unusedVariables false
set_option linter.unusedSimpArgs false

mutual
def spec_l08OK.j0 : Nat → Int → Bool → Int → Int → ByteArray → List ByteArray → List (S46) → Option (Int × Bool)
 | 0, _, _, _, _, _, _, _ => none
 | k + 1, x1, x6, x102000, x102001, x102002, x102003, x102004 => if x102000 = 0 then (if x6 = true then (if x102001 = 0 then (some (1, (x102002.toList == ([] : List UInt8)))) else (some (1, false))) else (some (1, false))) else (if x102000 = 1 then (if x6 = true then ((spec_IsInt.f x102001).bind fun t102 => (if t102 = true then (some (1, (x102002.toList == ([] : List UInt8)))) else (some (1, false)))) else (some (1, false))) else (if x102000 = 2 then (if x6 = true then (if x102001 = 0 then ((spec_NameOK.f k x102002).bind fun t103 => (some (1, t103))) else (some (1, false))) else (some (1, false))) else (if x102000 = 3 then (if x102001 = 0 then (if x102002.toList = ([] : List UInt8) then (if (x102003.length : Int) > 0 then (spec_l08OK.j1 k x1 true x102000 x102001 x102002 x102003 x102004) else (if x102000 = 4 then (spec_l08OK.j1 k x1 ((x102003.length : Int) != (x102004.length : Int)) x102000 x102001 x102002 x102003 x102004) else (spec_l08OK.j1 k x1 false x102000 x102001 x102002 x102003 x102004))) else (spec_l08OK.j1 k x1 true x102000 x102001 x102002 x102003 x102004)) else (spec_l08OK.j1 k x1 true x102000 x102001 x102002 x102003 x102004)) else (if x102000 = 4 then (if x102001 = 0 then (if x102002.toList = ([] : List UInt8) then (spec_l08OK.j1 k x1 ((x102003.length : Int) != (x102004.length : Int)) x102000 x102001 x102002 x102003 x102004) else (spec_l08OK.j1 k x1 true x102000 x102001 x102002 x102003 x102004)) else (spec_l08OK.j1 k x1 true x102000 x102001 x102002 x102003 x102004)) else (spec_l08OK.j1 k x1 true x102000 x102001 x102002 x102003 x102004)))))
def spec_l08OK.j1 : Nat → Int → Bool → Int → Int → ByteArray → List ByteArray → List (S46) → Option (Int × Bool)
 | 0, _, _, _, _, _, _, _ => none
 | k + 1, x1, x106, x102000, x102001, x102002, x102003, x102004 => if x106 = true then (some (0, false)) else (spec_l08OK.l0 k x1 1 0 x102000 x102001 x102002 x102003 x102004)
def spec_l08OK.l0 : Nat → Int → Int → Int → Int → Int → ByteArray → List ByteArray → List (S46) → Option (Int × Bool)
 | 0, _, _, _, _, _, _, _, _ => none
 | k + 1, x1, x7, x8, x102000, x102001, x102002, x102003, x102004 => if x8 < (x102004.length : Int) then (if x102000 = 4 then (if 0 ≤ x8 then (if x8 < (x102003.length : Int) then ((spec_NameOK.f k (rdOf ByteArray.empty x102003 x8)).bind fun t105 => (if t105 = true then (if x8 ≤ (x102003.length : Int) then ((spec_l04In.f k (x102003.take (x8 : Int).toNat) (rdOf ByteArray.empty x102003 x8)).bind fun t108 => (spec_l08OK.j3 k x1 x7 x8 t108 x102000 x102001 x102002 x102003 x102004)) else (none)) else (spec_l08OK.j3 k x1 x7 x8 true x102000 x102001 x102002 x102003 x102004))) else (none)) else (none)) else (spec_l08OK.j3 k x1 x7 x8 false x102000 x102001 x102002 x102003 x102004)) else (some (x7, true))
def spec_l08OK.j3 : Nat → Int → Int → Int → Bool → Int → Int → ByteArray → List ByteArray → List (S46) → Option (Int × Bool)
 | 0, _, _, _, _, _, _, _, _, _ => none
 | k + 1, x1, x7, x8, x137, x102000, x102001, x102002, x102003, x102004 => if x137 = true then (some (0, false)) else (if 0 ≤ x8 then (if x8 < (x102004.length : Int) then ((spec_l08OK.f k ((rd_T46 x102004 x8).f0) ((rd_T46 x102004 x8).f1) ((rd_T46 x102004 x8).f2) ((rd_T46 x102004 x8).f3) ((rd_T46 x102004 x8).f4) (wrap64 (x1 - 1))).bind fun bt110 => (if bt110.2 = true then (if (wrap64 (x7 + bt110.1)) > 4000 then (some (0, false)) else (spec_l08OK.l0 k x1 (wrap64 (x7 + bt110.1)) (wrap64 (x8 + 1)) x102000 x102001 x102002 x102003 x102004)) else (some (0, false)))) else (none)) else (none))
def spec_l08OK.f : Nat → Int → Int → ByteArray → List ByteArray → List (S46) → Int → Option (Int × Bool)
 | 0, _, _, _, _, _, _ => none
 | k + 1, a0_0, a0_1, a0_2, l0_3, l0_4, a1 => if a1 = 0 then (some (0, false)) else (if (l0_3.length : Int) = 0 then (spec_l08OK.j0 k a1 ((l0_4.length : Int) == 0) a0_0 a0_1 a0_2 l0_3 l0_4) else (spec_l08OK.j0 k a1 false a0_0 a0_1 a0_2 l0_3 l0_4))
end
def spec_l08OK.T6 : Bool × List (List Nat × List Nat) := (true, [([], []), ([0], [0]), ([1], [1]), ([2, 1], [1, 2]), ([3, 1], [1, 3]), ([1, 4], [1, 4]), ([5, 1], [5]), ([6], [6]), ([7, 6], [6, 7]), ([8, 6], [6, 8]), ([6, 9], [6, 9]), ([6], []), ([10, 11, 0, 1, 2, 3, 4, 5, 6, 7, 8, 9, 10, 11], [10])])
def spec_l08OK.B6 : List Nat := [0, 1, 3, 7, 15, 31, 63, 127, 255, 511, 1023, 127, 4095]
theorem spec_l08OK.tab6 : rtab .any (opsOf Try.f60 6) = spec_l08OK.T6 := by kernel_rfl
theorem spec_l08OK.bits6 : waitsOk spec_l08OK.T6.2 spec_l08OK.B6 = true := by kernel_rfl
def spec_l08OK.T8 : Bool × List (List Nat × List Nat) := (true, [([], []), ([0], [0]), ([1], [1]), ([2, 1], [1, 2]), ([3, 1, 1], [1, 3]), ([1, 4], [1, 4]), ([5, 4], [5]), ([6], [6]), ([7, 6], [6, 7]), ([8, 6], [6, 8]), ([6, 9], [6, 9]), ([6], []), ([10, 11, 0, 1, 2, 3, 4, 5, 6, 7, 8, 9, 10, 11], [10])])
def spec_l08OK.B8 : List Nat := [0, 1, 3, 7, 15, 31, 63, 127, 255, 511, 1023, 127, 4095]
theorem spec_l08OK.tab8 : rtab .any (opsOf Try.f60 8) = spec_l08OK.T8 := by kernel_rfl
theorem spec_l08OK.bits8 : waitsOk spec_l08OK.T8.2 spec_l08OK.B8 = true := by kernel_rfl
def spec_l08OK.T17 : Bool × List (List Nat × List Nat) := (true, [([], []), ([0], [0]), ([1], [1]), ([2], [2]), ([3], [3]), ([4, 3], [3, 4]), ([3], [3]), ([5, 6, 3], [3, 5, 6]), ([7, 3], [3, 7]), ([8, 3, 3], [3, 8]), ([9, 3], [3, 9]), ([10, 9, 3], [3, 10]), ([11], [11]), ([12, 11], [11, 12]), ([11], [11]), ([13, 14, 11], [11, 13, 14]), ([11], [11]), ([16, 11], [11, 16]), ([11], [11]), ([17, 18, 11], [11, 17, 18]), ([19, 11], [11, 19]), ([15, 20, 11, 11], [11, 15, 20]), ([11, 21, 3], [3, 11, 21]), ([3, 22], [3, 22])])
def spec_l08OK.B17 : List Nat := [0, 1, 3, 7, 15, 31, 15, 127, 255, 511, 1023, 2047, 4095, 8191, 4095, 32767, 4095, 69631, 4095, 462847, 987135, 2097151, 4194303, 8388607]
theorem spec_l08OK.tab17 : rtab .any (opsOf Try.f60 17) = spec_l08OK.T17 := by kernel_rfl
theorem spec_l08OK.bits17 : waitsOk spec_l08OK.T17.2 spec_l08OK.B17 = true := by kernel_rfl
def spec_l08OK.y0 : Array Bool := #[false, false, false, false, false, false, false, false, false, false, false, false, false]
def spec_l08OK.y1 : Array Bool := #[true, false, false, false, false, false, false, false, false, false, false, false, false]
def spec_l08OK.y2 : Array Bool := #[true, true, false, false, false, false, false, false, false, false, false, false, false]
def spec_l08OK.y3 : Array Bool := #[true, true, true, false, false, false, false, false, false, false, false, false, false]
def spec_l08OK.y4 : Array Bool := #[true, true, true, true, false, false, false, false, false, false, false, false, false]
def spec_l08OK.y5 : Array Bool := #[true, true, true, true, true, false, false, false, false, false, false, false, false]
def spec_l08OK.y6 : Array Bool := #[true, true, true, true, true, true, false, false, false, false, false, false, false]
def spec_l08OK.y7 : Array Bool := #[true, true, true, true, true, true, true, false, false, false, false, false, false]
def spec_l08OK.y8 : Array Bool := #[true, true, true, true, true, true, true, true, false, false, false, false, false]
def spec_l08OK.y9 : Array Bool := #[true, true, true, true, true, true, true, true, false, false, false, true, false]
def spec_l08OK.y10 : Array Bool := #[true, true, true, true, true, true, true, true, true, false, false, true, false]
def spec_l08OK.y11 : Array Bool := #[true, true, true, true, true, true, true, true, true, true, false, true, false]
def spec_l08OK.y12 : Array Bool := #[true, true, true, true, true, true, true, true, true, true, true, true, false]
def spec_l08OK.y13 : Array Bool := #[true, true, true, true, true, true, true, true, true, true, true, true, true]
def spec_l08OK.y14 : Array Bool := #[true, true, true, true, true, true, true, true, true, false, false, false, false]
def spec_l08OK.y15 : Array Bool := #[true, true, true, true, true, true, true, true, true, true, false, false, false]
def spec_l08OK.y16 : Array Bool := #[true, true, true, true, true, true, true, true, true, true, true, false, false]
def spec_l08OK.y17 : Array Bool := #[false, false, false, false, false, false, false, false, false, false, false, false, false, false, false, false, false, false, false, false, false, false, false, false]
def spec_l08OK.y18 : Array Bool := #[true, false, false, false, false, false, false, false, false, false, false, false, false, false, false, false, false, false, false, false, false, false, false, false]
def spec_l08OK.y19 : Array Bool := #[true, true, false, false, false, false, false, false, false, false, false, false, false, false, false, false, false, false, false, false, false, false, false, false]
def spec_l08OK.y20 : Array Bool := #[true, true, true, false, false, false, false, false, false, false, false, false, false, false, false, false, false, false, false, false, false, false, false, false]
def spec_l08OK.y21 : Array Bool := #[true, true, true, true, false, false, false, false, false, false, false, false, false, false, false, false, false, false, false, false, false, false, false, false]
def spec_l08OK.y22 : Array Bool := #[true, true, true, true, true, false, false, false, false, false, false, false, false, false, false, false, false, false, false, false, false, false, false, false]
def spec_l08OK.y23 : Array Bool := #[true, true, true, true, true, false, true, false, false, false, false, false, false, false, false, false, false, false, false, false, false, false, false, false]
def spec_l08OK.y24 : Array Bool := #[true, true, true, true, true, true, true, false, false, false, false, false, false, false, false, false, false, false, false, false, false, false, false, false]
def spec_l08OK.y25 : Array Bool := #[true, true, true, true, true, true, true, true, false, false, false, false, false, false, false, false, false, false, false, false, false, false, false, false]
def spec_l08OK.y26 : Array Bool := #[true, true, true, true, true, true, true, true, true, false, false, false, false, false, false, false, false, false, false, false, false, false, false, false]
def spec_l08OK.y27 : Array Bool := #[true, true, true, true, true, true, true, true, true, true, false, false, false, false, false, false, false, false, false, false, false, false, false, false]
def spec_l08OK.y28 : Array Bool := #[true, true, true, true, true, true, true, true, true, true, true, false, false, false, false, false, false, false, false, false, false, false, false, false]
def spec_l08OK.y29 : Array Bool := #[true, true, true, true, true, true, true, true, true, true, true, true, false, false, false, false, false, false, false, false, false, false, false, false]
def spec_l08OK.y30 : Array Bool := #[true, true, true, true, true, true, true, true, true, true, true, true, true, false, false, false, false, false, false, false, false, false, false, false]
def spec_l08OK.y31 : Array Bool := #[true, true, true, true, true, true, true, true, true, true, true, true, true, false, true, false, false, false, false, false, false, false, false, false]
def spec_l08OK.y32 : Array Bool := #[true, true, true, true, true, true, true, true, true, true, true, true, true, false, true, false, true, false, false, false, false, false, false, false]
def spec_l08OK.y33 : Array Bool := #[true, true, true, true, true, true, true, true, true, true, true, true, true, false, true, false, true, false, true, false, false, false, false, false]
def spec_l08OK.y34 : Array Bool := #[true, true, true, true, true, true, true, true, true, true, true, true, true, true, true, false, true, false, true, false, false, false, false, false]
def spec_l08OK.y35 : Array Bool := #[true, true, true, true, true, true, true, true, true, true, true, true, true, true, true, true, true, false, true, false, false, false, false, false]
def spec_l08OK.y36 : Array Bool := #[true, true, true, true, true, true, true, true, true, true, true, true, true, true, true, true, true, true, true, false, false, false, false, false]
def spec_l08OK.y37 : Array Bool := #[true, true, true, true, true, true, true, true, true, true, true, true, true, true, true, true, true, true, true, true, false, false, false, false]
def spec_l08OK.y38 : Array Bool := #[true, true, true, true, true, true, true, true, true, true, true, true, true, true, true, true, true, true, true, true, true, false, false, false]
def spec_l08OK.y39 : Array Bool := #[true, true, true, true, true, true, true, true, true, true, true, true, true, true, true, true, true, true, true, true, true, true, false, false]
def spec_l08OK.y40 : Array Bool := #[true, true, true, true, true, true, true, true, true, true, true, true, true, true, true, true, true, true, true, true, true, true, true, false]
def spec_l08OK.y41 : Array Bool := #[true, true, true, true, true, true, true, true, true, true, true, true, true, true, true, true, true, true, true, true, true, true, true, true]
def spec_l08OK.y42 : Array Bool := #[true, true, true, true, true, true, true, true, true, true, true, true, true, true, false, false, false, false, false, false, false, false, false, false]
def spec_l08OK.y43 : Array Bool := #[true, true, true, true, true, true, true, true, true, true, true, true, true, true, true, false, false, false, false, false, false, false, false, false]
def spec_l08OK.y44 : Array Bool := #[true, true, true, true, true, true, true, true, true, true, true, true, true, true, true, true, false, false, false, false, false, false, false, false]
def spec_l08OK.y45 : Array Bool := #[true, true, true, true, true, true, true, true, true, true, true, true, true, true, true, true, true, false, false, false, false, false, false, false]
def spec_l08OK.y46 : Array Bool := #[true, true, true, true, true, true, true, true, true, true, true, true, true, true, true, true, true, true, false, false, false, false, false, false]
def spec_l08OK.y47 : Array Bool := #[true, true, true, true, true, true, false, false, false, false, false, false, false, false, false, false, false, false, false, false, false, false, false, false]
set_option maxHeartbeats 8000000 in
set_option maxRecDepth 100000 in
theorem spec_l08OK.calls (k : Nat) : ∀ (a0_0 : Int) (a0_1 : Int) (a0_2 : ByteArray) (A0_3 : Option Addr) (c0_3 : Nat) (l0_3 : List ByteArray) (A0_4 : Option Addr) (c0_4 : Nat) (l0_4 : List (S46)) (a1 : Int) (r1 : Int) (r2 : Bool) (w : World) (hr0_3 : Kd.C Kd.string w A0_3 l0_3.length l0_3) (hc0_3 : l0_3.length ≤ c0_3) (hr0_4 : Kd.C k46 w A0_4 l0_4.length l0_4) (hc0_4 : l0_4.length ≤ c0_4) (h : spec_l08OK.f k a0_0 a0_1 a0_2 l0_3 l0_4 a1 = some (r1, r2)),
  Calls Try.prog 60 #[.agg #[.int .i64 a0_0, .int .i64 a0_1, .string a0_2, .slice A0_3 l0_3.length c0_3, .slice A0_4 l0_4.length c0_4], .int .i64 a1] w fun e w' => e = .returned (.tuple #[.int .i64 r1, .bool r2]) ∧ Below w.heap.size w w' := by
 induction k using Nat.strongRecOn with
 | _ k ih =>
 intro a0_0 a0_1 a0_2 A0_3 c0_3 l0_3 A0_4 c0_4 l0_4 a1 r1 r2 w hr0_3 hc0_3 hr0_4 hc0_4 h
 cases k with
 | zero => exact absurd h (by simp [spec_l08OK.f])
 | succ k =>
 simp only [spec_l08OK.f] at h; have hu46 := Try.underlying46; have HR0_3 := qO hr0_3; have HC0_3 := qO hc0_3; clear hr0_3 hc0_3; have HR0_4 := qO hr0_4; have HC0_4 := qO hc0_4; clear hr0_4 hc0_4; have HB := qO (Below.refl w.heap.size w); have H : (if a1 = 0 then (some (0, false)) else (if (l0_3.length : Int) = 0 then (spec_l08OK.j0 k a1 ((l0_4.length : Int) == 0) a0_0 a0_1 a0_2 l0_3 l0_4) else (spec_l08OK.j0 k a1 false a0_0 a0_1 a0_2 l0_3 l0_4))) = some (r1, r2) := h; clear h
 by_cases c3 : a1 = 0
 ·rw [if_pos c3] at H
  have c3b0 : (a1 == 0) = true := beq_iff_eq.mpr c3; have c3b1 : (a1 != 0) = false := bne_eq_false_iff_eq.mpr c3; clear c3; simp only [Option.some.injEq, Prod.mk.injEq] at H; obtain ⟨rfl, rfl⟩ := H
  go_enter Try.func60, Try.ntmps60
  go_wp2_with (first | ((with_reducible refine gate_dst (N := 2) rfl ?_); (try (refine gate_guard (by rfl) ?_; dsimp only)); refine box_event ?hg (N := 2) ?hd (cs := #[.int .i64 a0_0, .int .i64 a0_1, .string a0_2, .slice A0_3 l0_3.length c0_3, .slice A0_4 l0_4.length c0_4]) (t := 46) ?hr ?_; (case hd => rfl); (case hg => rfl); (case hr => exact qa21); intro gb101 hg w4 hbox hb; have hx_ := qHX HB hb qa0; have n0_ := qO (below_step (below_step HB.out hx_) hb); have n1_ := qO (hbox); have n2_ := qO ((qa15 : w.heap.size ≤ gb101)); have n3_ := n2_; clear HB; have HB := n0_; have BK101 := n1_; have GW101 := n2_; have GE101 := n3_; clear n0_ n1_ n2_ n3_; clear hx_; clear hb hbox hg))
  go_ret2
  exact ⟨qa4, qa2⟩
 ·rw [if_neg c3] at H
  have c3b0 : (a1 == 0) = false := beq_eq_false_iff_ne.mpr c3; have c3b1 : (a1 != 0) = true := bne_iff_ne.mpr c3; have HC5 := qO H; clear H
  go_enter Try.func60, Try.ntmps60
  go_upto_region 3 with (first | ((with_reducible refine gate_dst (N := 2) rfl ?_); (try (refine gate_guard (by rfl) ?_; dsimp only)); refine box_event ?hg (N := 2) ?hd (cs := #[.int .i64 a0_0, .int .i64 a0_1, .string a0_2, .slice A0_3 l0_3.length c0_3, .slice A0_4 l0_4.length c0_4]) (t := 46) ?hr ?_; (case hd => rfl); (case hg => rfl); (case hr => exact qa21); intro gb101 hg w6 hbox hb; have n0_ := qO (below_step qa12 hb); have n1_ := qO (hbox); have n2_ := qO ((qa43 : w.heap.size ≤ gb101)); have n3_ := qO ((qa43 : w.heap.size ≤ gb101)); clear HB; have HB := n0_; have BK101 := n1_; have GW101 := n2_; have GE101 := n3_; clear n0_ n1_ n2_ n3_; clear hb hbox hg))
  (try simp only [Act.put, qzA, qzB, qzC])
  go_cut [6] (fun v6 wc => ∃ (kq : Nat) (x6_4 : Bool), v6 = .bool x6_4 ∧ Aside0 (spec_l08OK.j0 kq a1 x6_4 a0_0 a0_1 a0_2 l0_3 l0_4 = some (r1, r2)) ∧ Aside0 (kq ≤ k) ∧ Aside0 (wc.heap[gb101]? = some (.cells #[.int .i64 a0_0, .int .i64 a0_1, .string a0_2, (.slice A0_3 l0_3.length c0_3), (.slice A0_4 l0_4.length c0_4)] 46 (0, 0))) ∧ Aside0 (Below w.heap.size w wc))
  case first =>
   have H := HC5.out; clear HC5
   by_cases c7 : (l0_3.length : Int) = 0
   ·rw [if_pos c7] at H
    have c7b0 : ((l0_3.length : Int) == 0) = true := beq_iff_eq.mpr c7; have c7b1 : ((l0_3.length : Int) != 0) = false := bne_eq_false_iff_eq.mpr c7; clear c7; (first | rw [c7b0] | (simp only [i64_w, i32_w]; rw [c7b0]) | skip); have H' := qO H; clear H; have hcz8_0 : w6.cell? ⟨gb101, 0, none⟩ = some (.int .i64 a0_0) := (blk_cell BK101.out 0).trans rfl; have hcz8_1 : w6.cell? ⟨gb101, 1, none⟩ = some (.int .i64 a0_1) := (blk_cell BK101.out 1).trans rfl; have hcz8_2 : w6.cell? ⟨gb101, 2, none⟩ = some (.string a0_2) := (blk_cell BK101.out 2).trans rfl; have hcz8_3 : w6.cell? ⟨gb101, 3, none⟩ = some (.slice A0_3 l0_3.length c0_3) := (blk_cell BK101.out 3).trans rfl; have hcz8_4 : w6.cell? ⟨gb101, 4, none⟩ = some (.slice A0_4 l0_4.length c0_4) := (blk_cell BK101.out 4).trans rfl; have hfz8_0 := blk_frozen BK101.out 0; have hfz8_1 := blk_frozen BK101.out 1; have hfz8_2 := blk_frozen BK101.out 2; have hfz8_3 := blk_frozen BK101.out 3; have hfz8_4 := blk_frozen BK101.out 4; go_wp2
    go_meet
    case rel => exact ⟨_, (((l0_4.length : Int) == 0)), qa5, H', ⟨qa44⟩, ⟨qa9⟩, ⟨qa2⟩⟩
   ·rw [if_neg c7] at H
    have c7b0 : ((l0_3.length : Int) == 0) = false := beq_eq_false_iff_ne.mpr c7; have c7b1 : ((l0_3.length : Int) != 0) = true := bne_iff_ne.mpr c7; have c7b2 : ¬ (l0_3 = []) := fun h_ => c7 (by rw [h_]; rfl)
    (first | rw [c7b0] | (simp only [i64_w, i32_w]; rw [c7b0]) | skip); have H' := qO H; clear H; have hcz9_0 : w6.cell? ⟨gb101, 0, none⟩ = some (.int .i64 a0_0) := (blk_cell BK101.out 0).trans rfl; have hcz9_1 : w6.cell? ⟨gb101, 1, none⟩ = some (.int .i64 a0_1) := (blk_cell BK101.out 1).trans rfl; have hcz9_2 : w6.cell? ⟨gb101, 2, none⟩ = some (.string a0_2) := (blk_cell BK101.out 2).trans rfl; have hcz9_3 : w6.cell? ⟨gb101, 3, none⟩ = some (.slice A0_3 l0_3.length c0_3) := (blk_cell BK101.out 3).trans rfl; have hcz9_4 : w6.cell? ⟨gb101, 4, none⟩ = some (.slice A0_4 l0_4.length c0_4) := (blk_cell BK101.out 4).trans rfl; have hfz9_0 := blk_frozen BK101.out 0; have hfz9_1 := blk_frozen BK101.out 1; have hfz9_2 := blk_frozen BK101.out 2; have hfz9_3 := blk_frozen BK101.out 3; have hfz9_4 := blk_frozen BK101.out 4; go_wp2
    go_meet
    case rel => exact ⟨_, (false), qa5, H', ⟨qa44⟩, ⟨qa9⟩, ⟨qa2⟩⟩
  case rest =>
   clear HC5
   try clear p2
   try clear c3
   try clear c3b0
   try clear c3b1
   try clear c6
   try clear c7
   try clear c7b0
   try clear c7b1
   try clear c7b2
   try clear hcz8_0
   try clear hcz8_1
   try clear hcz8_2
   try clear hcz8_3
   try clear hcz8_4
   try clear hcz9_0
   try clear hcz9_1
   try clear hcz9_2
   try clear hcz9_3
   try clear hcz9_4
   try clear hfz8_0
   try clear hfz8_1
   try clear hfz8_2
   try clear hfz8_3
   try clear hfz8_4
   try clear hfz9_0
   try clear hfz9_1
   try clear hfz9_2
   try clear hfz9_3
   try clear hfz9_4
   obtain ⟨kq, x6_4, rfl, HA, HJ4, BK101, HB⟩ := hcut
   cases kq with
   | zero => exact absurd HA.out (by simp [spec_l08OK.j0])
   | succ kj4 =>
    have H := HA.out; clear HA; simp only [spec_l08OK.j0] at H
    by_cases c10 : a0_0 = 0
    ·rw [if_pos c10] at H
     have c10b0 : (a0_0 == 0) = true := beq_iff_eq.mpr c10; have c10b1 : (a0_0 != 0) = false := bne_eq_false_iff_eq.mpr c10; clear c10
     by_cases c11 : x6_4 = true
     ·subst c11
      have H1 : (if a0_1 = 0 then (some (1, (a0_2.toList == ([] : List UInt8)))) else (some (1, false))) = some (r1, r2) := by rw [if_pos rfl] at H; exact H
      clear H; have H := H1; clear H1
      by_cases c12 : a0_1 = 0
      ·rw [if_pos c12] at H
       have c12b0 : (a0_1 == 0) = true := beq_iff_eq.mpr c12; have c12b1 : (a0_1 != 0) = false := bne_eq_false_iff_eq.mpr c12; clear c12; simp only [Option.some.injEq, Prod.mk.injEq] at H; obtain ⟨rfl, rfl⟩ := H; have hcz13_0 : wc.cell? ⟨gb101, 0, none⟩ = some (.int .i64 a0_0) := (blk_cell BK101.out 0).trans rfl; have hcz13_1 : wc.cell? ⟨gb101, 1, none⟩ = some (.int .i64 a0_1) := (blk_cell BK101.out 1).trans rfl; have hcz13_2 : wc.cell? ⟨gb101, 2, none⟩ = some (.string a0_2) := (blk_cell BK101.out 2).trans rfl; have hcz13_3 : wc.cell? ⟨gb101, 3, none⟩ = some (.slice A0_3 l0_3.length c0_3) := (blk_cell BK101.out 3).trans rfl; have hcz13_4 : wc.cell? ⟨gb101, 4, none⟩ = some (.slice A0_4 l0_4.length c0_4) := (blk_cell BK101.out 4).trans rfl; have hfz13_0 := blk_frozen BK101.out 0; have hfz13_1 := blk_frozen BK101.out 1; have hfz13_2 := blk_frozen BK101.out 2; have hfz13_3 := blk_frozen BK101.out 3; have hfz13_4 := blk_frozen BK101.out 4
       try go_wp2
       have n0_ := qO (qkD BK101.out); have n1_ := qO (qbD HB.out); clear BK101; clear HB; have BK101 := n0_; have HB := n1_; clear n0_ n1_; refine start_ (n := 13) (S := fun w' => w'.cell? ⟨gb101, 0, none⟩ = some (.int .i64 a0_0) ∧ w'.cell? ⟨gb101, 1, none⟩ = some (.int .i64 a0_1) ∧ w'.cell? ⟨gb101, 2, none⟩ = some (.string a0_2) ∧ w'.cell? ⟨gb101, 3, none⟩ = some (.slice A0_3 l0_3.length c0_3) ∧ w'.cell? ⟨gb101, 4, none⟩ = some (.slice A0_4 l0_4.length c0_4)) (ds := []) spec_l08OK.y0 qa10 rfl rfl ⟨(blk_cell BK101.out 0).trans rfl, (blk_cell BK101.out 1).trans rfl, (blk_cell BK101.out 2).trans rfl, (blk_cell BK101.out 3).trans rfl, (blk_cell BK101.out 4).trans rfl⟩ (fun hHeld => ?_); refine with_tabW spec_l08OK.tab6 spec_l08OK.bits6 (fun HT_ HW_ => ?_); generalize wc.drew = w14 at BK101 HB hHeld ⊢; refine pure_ (i := 0) (N := some 27) (v := ?_) (a' := ?_) spec_l08OK.y1 rfl rfl (any_of HT_.out qa10) (fun _ _ _ h => h) (Or.inl ⟨by rfl, ?_⟩) ?_ ?_; rotate_left; exact qa11; rotate_left; exact qa3; refine pure_ (i := 1) (N := some 28) (v := ?_) (a' := ?_) spec_l08OK.y2 rfl rfl (any_of HT_.out qa10) (fun _ _ _ h => h) (Or.inl ⟨by rfl, ?_⟩) ?_ ?_; rotate_left; exact qa11; rotate_left; exact qa3; refine pure_ (i := 2) (N := some 29) (v := ?_) (a' := ?_) spec_l08OK.y3 rfl rfl (any_of HT_.out qa10) (fun _ _ _ h => h) (Or.inl ⟨by rfl, ?_⟩) ?_ ?_; rotate_left; exact qa11; rotate_left; exact qa3; refine take_ (i := 3) (N := some 30) (v := ?_) (a' := ?_) spec_l08OK.y4 rfl rfl (take_ofW HT_.out HW_.out qa10) (fun _ _ _ h => h) (Or.inl ⟨by rfl, ?_⟩) hHeld ?_ ?_; rotate_left; exact qa63; rotate_left; exact qa3; refine pure_ (i := 4) (N := some 31) (v := ?_) (a' := ?_) spec_l08OK.y5 rfl rfl (any_of HT_.out qa10) (fun _ _ _ h => h) (Or.inl ⟨by rfl, ?_⟩) ?_ ?_; rotate_left; exact qa11; rotate_left; exact qa3; refine pure_ (i := 5) (N := some 32) (v := ?_) (a' := ?_) spec_l08OK.y6 rfl rfl (any_of HT_.out qa10) (fun _ _ _ h => h) (Or.inl ⟨by rfl, ?_⟩) ?_ ?_; rotate_left; exact qa11; rotate_left; exact qa3; refine pure_ (i := 6) (N := some 33) (v := ?_) (a' := ?_) spec_l08OK.y7 rfl rfl (any_of HT_.out qa10) (fun _ _ _ h => h) (Or.inl ⟨by rfl, ?_⟩) ?_ ?_; rotate_left; exact qa11; rotate_left; exact qa3; refine pure_ (i := 7) (N := some 34) (v := ?_) (a' := ?_) spec_l08OK.y8 rfl rfl (any_of HT_.out qa10) (fun _ _ _ h => h) (Or.inl ⟨by rfl, ?_⟩) ?_ ?_; rotate_left; exact qa11; rotate_left; exact qa3; refine pure_ (i := 11) (N := some 4) (v := ?_) (a' := ?_) spec_l08OK.y9 rfl rfl (any_of HT_.out qa10) (fun _ _ _ h => h) (Or.inl ⟨by rfl, ?_⟩) ?_ ?_; rotate_left; exact qa11; rotate_left; exact qa3; refine take_ (i := 8) (N := some 35) (v := ?_) (a' := ?_) spec_l08OK.y10 rfl rfl (take_ofW HT_.out HW_.out qa10) (fun _ _ _ h => h) (Or.inl ⟨by rfl, ?_⟩) hHeld ?_ ?_; rotate_left; exact qa63; rotate_left; exact qa3; refine pure_ (i := 9) (N := some 36) (v := ?_) (a' := ?_) spec_l08OK.y11 rfl rfl (any_of HT_.out qa10) (fun _ _ _ h => h) (Or.inl ⟨by rfl, ?_⟩) ?_ ?_; rotate_left; exact qa11; rotate_left; exact qa3; refine pure_ (i := 10) (N := some 37) (v := ?_) (a' := ?_) spec_l08OK.y12 rfl rfl (any_of HT_.out qa10) (fun _ _ _ h => h) (Or.inl ⟨by rfl, ?_⟩) ?_ ?_; rotate_left; exact qa11; rotate_left; exact qa3; refine pure_ (i := 12) (N := some 5) (v := ?_) (a' := ?_) spec_l08OK.y13 rfl rfl (any_of HT_.out qa10) (fun _ _ _ h => h) (Or.inl ⟨by rfl, ?_⟩) ?_ ?_; rotate_left; exact qa11; rotate_left; exact qa3; refine done_ (done_of HT_.out qa10) ?_
       try go_wp2
       go_ret2
       exact ⟨qa4, qa2⟩
      ·rw [if_neg c12] at H
       have c12b0 : (a0_1 == 0) = false := beq_eq_false_iff_ne.mpr c12; have c12b1 : (a0_1 != 0) = true := bne_iff_ne.mpr c12; simp only [Option.some.injEq, Prod.mk.injEq] at H; obtain ⟨rfl, rfl⟩ := H; have hcz15_0 : wc.cell? ⟨gb101, 0, none⟩ = some (.int .i64 a0_0) := (blk_cell BK101.out 0).trans rfl; have hcz15_1 : wc.cell? ⟨gb101, 1, none⟩ = some (.int .i64 a0_1) := (blk_cell BK101.out 1).trans rfl; have hcz15_2 : wc.cell? ⟨gb101, 2, none⟩ = some (.string a0_2) := (blk_cell BK101.out 2).trans rfl; have hcz15_3 : wc.cell? ⟨gb101, 3, none⟩ = some (.slice A0_3 l0_3.length c0_3) := (blk_cell BK101.out 3).trans rfl; have hcz15_4 : wc.cell? ⟨gb101, 4, none⟩ = some (.slice A0_4 l0_4.length c0_4) := (blk_cell BK101.out 4).trans rfl; have hfz15_0 := blk_frozen BK101.out 0; have hfz15_1 := blk_frozen BK101.out 1; have hfz15_2 := blk_frozen BK101.out 2; have hfz15_3 := blk_frozen BK101.out 3; have hfz15_4 := blk_frozen BK101.out 4
       try go_wp2
       have n0_ := qO (qkD BK101.out); have n1_ := qO (qbD HB.out); clear BK101; clear HB; have BK101 := n0_; have HB := n1_; clear n0_ n1_; refine start_ (n := 13) (S := fun w' => w'.cell? ⟨gb101, 0, none⟩ = some (.int .i64 a0_0) ∧ w'.cell? ⟨gb101, 1, none⟩ = some (.int .i64 a0_1) ∧ w'.cell? ⟨gb101, 2, none⟩ = some (.string a0_2) ∧ w'.cell? ⟨gb101, 3, none⟩ = some (.slice A0_3 l0_3.length c0_3) ∧ w'.cell? ⟨gb101, 4, none⟩ = some (.slice A0_4 l0_4.length c0_4)) (ds := []) spec_l08OK.y0 qa10 rfl rfl ⟨(blk_cell BK101.out 0).trans rfl, (blk_cell BK101.out 1).trans rfl, (blk_cell BK101.out 2).trans rfl, (blk_cell BK101.out 3).trans rfl, (blk_cell BK101.out 4).trans rfl⟩ (fun hHeld => ?_); refine with_tabW spec_l08OK.tab6 spec_l08OK.bits6 (fun HT_ HW_ => ?_); generalize wc.drew = w16 at BK101 HB hHeld ⊢; refine pure_ (i := 0) (N := some 27) (v := ?_) (a' := ?_) spec_l08OK.y1 rfl rfl (any_of HT_.out qa10) (fun _ _ _ h => h) (Or.inl ⟨by rfl, ?_⟩) ?_ ?_; rotate_left; exact qa11; rotate_left; exact qa3; refine pure_ (i := 1) (N := some 28) (v := ?_) (a' := ?_) spec_l08OK.y2 rfl rfl (any_of HT_.out qa10) (fun _ _ _ h => h) (Or.inl ⟨by rfl, ?_⟩) ?_ ?_; rotate_left; exact qa11; rotate_left; exact qa3; refine pure_ (i := 2) (N := some 29) (v := ?_) (a' := ?_) spec_l08OK.y3 rfl rfl (any_of HT_.out qa10) (fun _ _ _ h => h) (Or.inl ⟨by rfl, ?_⟩) ?_ ?_; rotate_left; exact qa11; rotate_left; exact qa3; refine take_ (i := 3) (N := some 30) (v := ?_) (a' := ?_) spec_l08OK.y4 rfl rfl (take_ofW HT_.out HW_.out qa10) (fun _ _ _ h => h) (Or.inl ⟨by rfl, ?_⟩) hHeld ?_ ?_; rotate_left; exact qa63; rotate_left; exact qa3; refine pure_ (i := 4) (N := some 31) (v := ?_) (a' := ?_) spec_l08OK.y5 rfl rfl (any_of HT_.out qa10) (fun _ _ _ h => h) (Or.inl ⟨by rfl, ?_⟩) ?_ ?_; rotate_left; exact qa11; rotate_left; exact qa3; refine pure_ (i := 5) (N := some 32) (v := ?_) (a' := ?_) spec_l08OK.y6 rfl rfl (any_of HT_.out qa10) (fun _ _ _ h => h) (Or.inl ⟨by rfl, ?_⟩) ?_ ?_; rotate_left; exact qa11; rotate_left; exact qa3; refine pure_ (i := 6) (N := some 33) (v := ?_) (a' := ?_) spec_l08OK.y7 rfl rfl (any_of HT_.out qa10) (fun _ _ _ h => h) (Or.inl ⟨by rfl, ?_⟩) ?_ ?_; rotate_left; exact qa11; rotate_left; exact qa3; refine pure_ (i := 7) (N := some 34) (v := undef) (a' := ?_) spec_l08OK.y8 rfl rfl (any_of HT_.out qa10) (fun _ _ _ h => h) (Or.inr ⟨by rfl, rfl⟩) ?_ ?_; rotate_left
       ·simp only [Act.put, qzA, qzB, qzC, i64_w, i32_w]
        rfl
       refine pure_ (i := 8) (N := some 35) (v := undef) (a' := ?_) spec_l08OK.y14 rfl rfl (any_of HT_.out qa10) (fun _ _ _ h => h) (Or.inr ⟨by rfl, rfl⟩) ?_ ?_; rotate_left
       ·simp only [Act.put, qzA, qzB, qzC, i64_w, i32_w]
        rfl
       refine pure_ (i := 9) (N := some 36) (v := undef) (a' := ?_) spec_l08OK.y15 rfl rfl (any_of HT_.out qa10) (fun _ _ _ h => h) (Or.inr ⟨by rfl, rfl⟩) ?_ ?_; rotate_left
       ·simp only [Act.put, qzA, qzB, qzC, i64_w, i32_w]
        rfl
       refine pure_ (i := 10) (N := some 37) (v := ?_) (a' := ?_) spec_l08OK.y16 rfl rfl (any_of HT_.out qa10) (fun _ _ _ h => h) (Or.inl ⟨by rfl, ?_⟩) ?_ ?_; rotate_left; exact qa11; rotate_left; exact qa3; refine pure_ (i := 11) (N := some 4) (v := ?_) (a' := ?_) spec_l08OK.y12 rfl rfl (any_of HT_.out qa10) (fun _ _ _ h => h) (Or.inl ⟨by rfl, ?_⟩) ?_ ?_; rotate_left; exact qa11; rotate_left; exact qa3; refine pure_ (i := 12) (N := some 5) (v := ?_) (a' := ?_) spec_l08OK.y13 rfl rfl (any_of HT_.out qa10) (fun _ _ _ h => h) (Or.inl ⟨by rfl, ?_⟩) ?_ ?_; rotate_left; exact qa11; rotate_left; exact qa3; refine done_ (done_of HT_.out qa10) ?_
       try go_wp2
       go_ret2
       exact ⟨qa4, qa2⟩
     ·replace c11 := Bool.eq_false_iff.mpr c11
      subst c11; have H1 : (some (1, false)) = some (r1, r2) := by rw [if_neg (show ¬ (false = true) by decide)] at H; exact H
      clear H; have H := H1; clear H1; simp only [Option.some.injEq, Prod.mk.injEq] at H; obtain ⟨rfl, rfl⟩ := H; have hcz17_0 : wc.cell? ⟨gb101, 0, none⟩ = some (.int .i64 a0_0) := (blk_cell BK101.out 0).trans rfl; have hcz17_1 : wc.cell? ⟨gb101, 1, none⟩ = some (.int .i64 a0_1) := (blk_cell BK101.out 1).trans rfl; have hcz17_2 : wc.cell? ⟨gb101, 2, none⟩ = some (.string a0_2) := (blk_cell BK101.out 2).trans rfl; have hcz17_3 : wc.cell? ⟨gb101, 3, none⟩ = some (.slice A0_3 l0_3.length c0_3) := (blk_cell BK101.out 3).trans rfl; have hcz17_4 : wc.cell? ⟨gb101, 4, none⟩ = some (.slice A0_4 l0_4.length c0_4) := (blk_cell BK101.out 4).trans rfl; have hfz17_0 := blk_frozen BK101.out 0; have hfz17_1 := blk_frozen BK101.out 1; have hfz17_2 := blk_frozen BK101.out 2; have hfz17_3 := blk_frozen BK101.out 3; have hfz17_4 := blk_frozen BK101.out 4
      try go_wp2
      have n0_ := qO (qkD BK101.out); have n1_ := qO (qbD HB.out); clear BK101; clear HB; have BK101 := n0_; have HB := n1_; clear n0_ n1_; refine start_ (n := 13) (S := fun w' => True) (ds := []) spec_l08OK.y0 qa10 rfl rfl trivial (fun hHeld => ?_); refine with_tabW spec_l08OK.tab6 spec_l08OK.bits6 (fun HT_ HW_ => ?_); generalize wc.drew = w18 at BK101 HB hHeld ⊢; refine pure_ (i := 0) (N := some 27) (v := ?_) (a' := ?_) spec_l08OK.y1 rfl rfl (any_of HT_.out qa10) (fun _ _ _ h => h) (Or.inl ⟨by rfl, ?_⟩) ?_ ?_; rotate_left; exact qa11; rotate_left; exact qa3; refine pure_ (i := 1) (N := some 28) (v := ?_) (a' := ?_) spec_l08OK.y2 rfl rfl (any_of HT_.out qa10) (fun _ _ _ h => h) (Or.inl ⟨by rfl, ?_⟩) ?_ ?_; rotate_left; exact qa11; rotate_left; exact qa3; refine pure_ (i := 2) (N := some 29) (v := undef) (a' := ?_) spec_l08OK.y3 rfl rfl (any_of HT_.out qa10) (fun _ _ _ h => h) (Or.inr ⟨by rfl, rfl⟩) ?_ ?_; rotate_left
      ·simp only [Act.put, qzA, qzB, qzC, i64_w, i32_w]
       rfl
      refine pure_ (i := 3) (N := some 30) (v := undef) (a' := ?_) spec_l08OK.y4 rfl rfl (any_of HT_.out qa10) (fun _ _ _ h => h) (Or.inr ⟨by rfl, rfl⟩) ?_ ?_; rotate_left
      ·simp only [Act.put, qzA, qzB, qzC, i64_w, i32_w]
       rfl
      refine pure_ (i := 4) (N := some 31) (v := undef) (a' := ?_) spec_l08OK.y5 rfl rfl (any_of HT_.out qa10) (fun _ _ _ h => h) (Or.inr ⟨by rfl, rfl⟩) ?_ ?_; rotate_left
      ·simp only [Act.put, qzA, qzB, qzC, i64_w, i32_w]
       rfl
      refine pure_ (i := 5) (N := some 32) (v := ?_) (a' := ?_) spec_l08OK.y6 rfl rfl (any_of HT_.out qa10) (fun _ _ _ h => h) (Or.inl ⟨by rfl, ?_⟩) ?_ ?_; rotate_left; exact qa11; rotate_left; exact qa3; refine pure_ (i := 6) (N := some 33) (v := ?_) (a' := ?_) spec_l08OK.y7 rfl rfl (any_of HT_.out qa10) (fun _ _ _ h => h) (Or.inl ⟨by rfl, ?_⟩) ?_ ?_; rotate_left; exact qa11; rotate_left; exact qa3; refine pure_ (i := 7) (N := some 34) (v := undef) (a' := ?_) spec_l08OK.y8 rfl rfl (any_of HT_.out qa10) (fun _ _ _ h => h) (Or.inr ⟨by rfl, rfl⟩) ?_ ?_; rotate_left
      ·simp only [Act.put, qzA, qzB, qzC, i64_w, i32_w]
       rfl
      refine pure_ (i := 8) (N := some 35) (v := undef) (a' := ?_) spec_l08OK.y14 rfl rfl (any_of HT_.out qa10) (fun _ _ _ h => h) (Or.inr ⟨by rfl, rfl⟩) ?_ ?_; rotate_left
      ·simp only [Act.put, qzA, qzB, qzC, i64_w, i32_w]
       rfl
      refine pure_ (i := 9) (N := some 36) (v := undef) (a' := ?_) spec_l08OK.y15 rfl rfl (any_of HT_.out qa10) (fun _ _ _ h => h) (Or.inr ⟨by rfl, rfl⟩) ?_ ?_; rotate_left
      ·simp only [Act.put, qzA, qzB, qzC, i64_w, i32_w]
       rfl
      refine pure_ (i := 10) (N := some 37) (v := ?_) (a' := ?_) spec_l08OK.y16 rfl rfl (any_of HT_.out qa10) (fun _ _ _ h => h) (Or.inl ⟨by rfl, ?_⟩) ?_ ?_; rotate_left; exact qa11; rotate_left; exact qa3; refine pure_ (i := 11) (N := some 4) (v := ?_) (a' := ?_) spec_l08OK.y12 rfl rfl (any_of HT_.out qa10) (fun _ _ _ h => h) (Or.inl ⟨by rfl, ?_⟩) ?_ ?_; rotate_left; exact qa11; rotate_left; exact qa3; refine pure_ (i := 12) (N := some 5) (v := ?_) (a' := ?_) spec_l08OK.y13 rfl rfl (any_of HT_.out qa10) (fun _ _ _ h => h) (Or.inl ⟨by rfl, ?_⟩) ?_ ?_; rotate_left; exact qa11; rotate_left; exact qa3; refine done_ (done_of HT_.out qa10) ?_
      try go_wp2
      go_ret2
      exact ⟨qa4, qa2⟩
    ·rw [if_neg c10] at H
     have c10b0 : (a0_0 == 0) = false := beq_eq_false_iff_ne.mpr c10; have c10b1 : (a0_0 != 0) = true := bne_iff_ne.mpr c10
     by_cases c19 : a0_0 = 1
     ·rw [if_pos c19] at H
      have c19b0 : (a0_0 == 1) = true := beq_iff_eq.mpr c19; have c19b1 : (a0_0 != 1) = false := bne_eq_false_iff_eq.mpr c19; clear c19
      by_cases c20 : x6_4 = true
      ·subst c20
       have H1 : ((spec_IsInt.f a0_1).bind fun t102 => (if t102 = true then (some (1, (a0_2.toList == ([] : List UInt8)))) else (some (1, false)))) = some (r1, r2) := by rw [if_pos rfl] at H; exact H
       clear H; have H := H1; clear H1; replace H := Option.bind_eq_some_iff.mp H; obtain ⟨t102, A210, H⟩ := H; replace H : (if t102 = true then (some (1, (a0_2.toList == ([] : List UInt8)))) else (some (1, false))) = some (r1, r2) := H; have A21 := qO A210; clear A210
       by_cases c22 : t102 = true
       ·subst c22
        have H1 : (some (1, (a0_2.toList == ([] : List UInt8)))) = some (r1, r2) := by rw [if_pos rfl] at H; exact H
        clear H; have H := H1; clear H1; simp only [Option.some.injEq, Prod.mk.injEq] at H; obtain ⟨rfl, rfl⟩ := H; have hcz23_0 : wc.cell? ⟨gb101, 0, none⟩ = some (.int .i64 a0_0) := (blk_cell BK101.out 0).trans rfl; have hcz23_1 : wc.cell? ⟨gb101, 1, none⟩ = some (.int .i64 a0_1) := (blk_cell BK101.out 1).trans rfl; have hcz23_2 : wc.cell? ⟨gb101, 2, none⟩ = some (.string a0_2) := (blk_cell BK101.out 2).trans rfl; have hcz23_3 : wc.cell? ⟨gb101, 3, none⟩ = some (.slice A0_3 l0_3.length c0_3) := (blk_cell BK101.out 3).trans rfl; have hcz23_4 : wc.cell? ⟨gb101, 4, none⟩ = some (.slice A0_4 l0_4.length c0_4) := (blk_cell BK101.out 4).trans rfl; have hfz23_0 := blk_frozen BK101.out 0; have hfz23_1 := blk_frozen BK101.out 1; have hfz23_2 := blk_frozen BK101.out 2; have hfz23_3 := blk_frozen BK101.out 3; have hfz23_4 := blk_frozen BK101.out 4
        try go_wp2
        have n0_ := qO (qkD BK101.out); have n1_ := qO (qbD HB.out); clear BK101; clear HB; have BK101 := n0_; have HB := n1_; clear n0_ n1_; refine start_ (n := 13) (S := fun w' => w'.cell? ⟨gb101, 0, none⟩ = some (.int .i64 a0_0) ∧ w'.cell? ⟨gb101, 1, none⟩ = some (.int .i64 a0_1) ∧ w'.cell? ⟨gb101, 2, none⟩ = some (.string a0_2) ∧ w'.cell? ⟨gb101, 3, none⟩ = some (.slice A0_3 l0_3.length c0_3) ∧ w'.cell? ⟨gb101, 4, none⟩ = some (.slice A0_4 l0_4.length c0_4)) (ds := []) spec_l08OK.y0 qa10 rfl rfl ⟨(blk_cell BK101.out 0).trans rfl, (blk_cell BK101.out 1).trans rfl, (blk_cell BK101.out 2).trans rfl, (blk_cell BK101.out 3).trans rfl, (blk_cell BK101.out 4).trans rfl⟩ (fun hHeld => ?_); refine with_tabW spec_l08OK.tab8 spec_l08OK.bits8 (fun HT_ HW_ => ?_); generalize wc.drew = w24 at BK101 HB hHeld ⊢; refine pure_ (i := 0) (N := some 40) (v := ?_) (a' := ?_) spec_l08OK.y1 rfl rfl (any_of HT_.out qa10) (fun _ _ _ h => h) (Or.inl ⟨by rfl, ?_⟩) ?_ ?_; rotate_left; exact qa11; rotate_left; exact qa3; refine pure_ (i := 1) (N := some 41) (v := ?_) (a' := ?_) spec_l08OK.y2 rfl rfl (any_of HT_.out qa10) (fun _ _ _ h => h) (Or.inl ⟨by rfl, ?_⟩) ?_ ?_; rotate_left; exact qa11; rotate_left; exact qa3; refine pure_ (i := 2) (N := some 42) (v := ?_) (a' := ?_) spec_l08OK.y3 rfl rfl (any_of HT_.out qa10) (fun _ _ _ h => h) (Or.inl ⟨by rfl, ?_⟩) ?_ ?_; rotate_left; exact qa11; rotate_left; exact qa3; refine take_ (i := 3) (N := some 43) (v := ?_) (a' := ?_) spec_l08OK.y4 rfl rfl (take_ofW HT_.out HW_.out qa10) (fun _ _ _ h => h) (Or.inl ⟨by rfl, ?_⟩) hHeld ?_ ?_; rotate_left; exact qa63; rotate_left; exact qa3; refine one_ (i := 4) (N := some 44) spec_l08OK.y5 rfl rfl (one_of HT_.out qa10) qa68 (fun K hK => ?_); refine goes_ Try.func93 qa10 rfl #[.int .i64 a0_1] (by rfl) rfl rfl qa1 ?_; (with_reducible refine (spec_IsInt.calls a0_1 true _ A21.out).mono ?_); rintro e w' ⟨rfl, ⟨nd, rfl⟩⟩; refine ⟨_, rfl, ?_⟩; refine hK.out _ _ ⟨(blk_cell BK101.out 0).trans rfl, (blk_cell BK101.out 1).trans rfl, (blk_cell BK101.out 2).trans rfl, (blk_cell BK101.out 3).trans rfl, (blk_cell BK101.out 4).trans rfl⟩ (fun hHeld => ?_); clear hK K; refine norm_ (a' := ?_) ?_ ?_; rotate_left
        ·exact qa16
        refine pure_ (i := 5) (N := some 45) (v := ?_) (a' := ?_) spec_l08OK.y6 rfl rfl (any_of HT_.out qa10) (fun _ _ _ h => h) (Or.inl ⟨by rfl, ?_⟩) ?_ ?_; rotate_left; exact qa11; rotate_left; exact qa3; refine pure_ (i := 6) (N := some 46) (v := ?_) (a' := ?_) spec_l08OK.y7 rfl rfl (any_of HT_.out qa10) (fun _ _ _ h => h) (Or.inl ⟨by rfl, ?_⟩) ?_ ?_; rotate_left; exact qa11; rotate_left; exact qa3; refine pure_ (i := 7) (N := some 47) (v := ?_) (a' := ?_) spec_l08OK.y8 rfl rfl (any_of HT_.out qa10) (fun _ _ _ h => h) (Or.inl ⟨by rfl, ?_⟩) ?_ ?_; rotate_left; exact qa11; rotate_left; exact qa3; refine pure_ (i := 11) (N := some 4) (v := ?_) (a' := ?_) spec_l08OK.y9 rfl rfl (any_of HT_.out qa10) (fun _ _ _ h => h) (Or.inl ⟨by rfl, ?_⟩) ?_ ?_; rotate_left; exact qa11; rotate_left; exact qa3; refine take_ (i := 8) (N := some 48) (v := ?_) (a' := ?_) spec_l08OK.y10 rfl rfl (take_ofW HT_.out HW_.out qa10) (fun _ _ _ h => h) (Or.inl ⟨by rfl, ?_⟩) hHeld ?_ ?_; rotate_left; exact qa63; rotate_left; exact qa3; refine pure_ (i := 9) (N := some 49) (v := ?_) (a' := ?_) spec_l08OK.y11 rfl rfl (any_of HT_.out qa10) (fun _ _ _ h => h) (Or.inl ⟨by rfl, ?_⟩) ?_ ?_; rotate_left; exact qa11; rotate_left; exact qa3; refine pure_ (i := 10) (N := some 50) (v := ?_) (a' := ?_) spec_l08OK.y12 rfl rfl (any_of HT_.out qa10) (fun _ _ _ h => h) (Or.inl ⟨by rfl, ?_⟩) ?_ ?_; rotate_left; exact qa11; rotate_left; exact qa3; refine pure_ (i := 12) (N := some 5) (v := ?_) (a' := ?_) spec_l08OK.y13 rfl rfl (any_of HT_.out qa10) (fun _ _ _ h => h) (Or.inl ⟨by rfl, ?_⟩) ?_ ?_; rotate_left; exact qa11; rotate_left; exact qa3; refine done_ (done_of HT_.out qa10) ?_
        try go_wp2
        go_ret2
        exact ⟨qa4, qa2⟩
       ·replace c22 := Bool.eq_false_iff.mpr c22
        subst c22; have H1 : (some (1, false)) = some (r1, r2) := by rw [if_neg (show ¬ (false = true) by decide)] at H; exact H
        clear H; have H := H1; clear H1; simp only [Option.some.injEq, Prod.mk.injEq] at H; obtain ⟨rfl, rfl⟩ := H; have hcz25_0 : wc.cell? ⟨gb101, 0, none⟩ = some (.int .i64 a0_0) := (blk_cell BK101.out 0).trans rfl; have hcz25_1 : wc.cell? ⟨gb101, 1, none⟩ = some (.int .i64 a0_1) := (blk_cell BK101.out 1).trans rfl; have hcz25_2 : wc.cell? ⟨gb101, 2, none⟩ = some (.string a0_2) := (blk_cell BK101.out 2).trans rfl; have hcz25_3 : wc.cell? ⟨gb101, 3, none⟩ = some (.slice A0_3 l0_3.length c0_3) := (blk_cell BK101.out 3).trans rfl; have hcz25_4 : wc.cell? ⟨gb101, 4, none⟩ = some (.slice A0_4 l0_4.length c0_4) := (blk_cell BK101.out 4).trans rfl; have hfz25_0 := blk_frozen BK101.out 0; have hfz25_1 := blk_frozen BK101.out 1; have hfz25_2 := blk_frozen BK101.out 2; have hfz25_3 := blk_frozen BK101.out 3; have hfz25_4 := blk_frozen BK101.out 4
        try go_wp2
        have n0_ := qO (qkD BK101.out); have n1_ := qO (qbD HB.out); clear BK101; clear HB; have BK101 := n0_; have HB := n1_; clear n0_ n1_; refine start_ (n := 13) (S := fun w' => w'.cell? ⟨gb101, 0, none⟩ = some (.int .i64 a0_0) ∧ w'.cell? ⟨gb101, 1, none⟩ = some (.int .i64 a0_1) ∧ w'.cell? ⟨gb101, 2, none⟩ = some (.string a0_2) ∧ w'.cell? ⟨gb101, 3, none⟩ = some (.slice A0_3 l0_3.length c0_3) ∧ w'.cell? ⟨gb101, 4, none⟩ = some (.slice A0_4 l0_4.length c0_4)) (ds := []) spec_l08OK.y0 qa10 rfl rfl ⟨(blk_cell BK101.out 0).trans rfl, (blk_cell BK101.out 1).trans rfl, (blk_cell BK101.out 2).trans rfl, (blk_cell BK101.out 3).trans rfl, (blk_cell BK101.out 4).trans rfl⟩ (fun hHeld => ?_); refine with_tabW spec_l08OK.tab8 spec_l08OK.bits8 (fun HT_ HW_ => ?_); generalize wc.drew = w26 at BK101 HB hHeld ⊢; refine pure_ (i := 0) (N := some 40) (v := ?_) (a' := ?_) spec_l08OK.y1 rfl rfl (any_of HT_.out qa10) (fun _ _ _ h => h) (Or.inl ⟨by rfl, ?_⟩) ?_ ?_; rotate_left; exact qa11; rotate_left; exact qa3; refine pure_ (i := 1) (N := some 41) (v := ?_) (a' := ?_) spec_l08OK.y2 rfl rfl (any_of HT_.out qa10) (fun _ _ _ h => h) (Or.inl ⟨by rfl, ?_⟩) ?_ ?_; rotate_left; exact qa11; rotate_left; exact qa3; refine pure_ (i := 2) (N := some 42) (v := ?_) (a' := ?_) spec_l08OK.y3 rfl rfl (any_of HT_.out qa10) (fun _ _ _ h => h) (Or.inl ⟨by rfl, ?_⟩) ?_ ?_; rotate_left; exact qa11; rotate_left; exact qa3; refine take_ (i := 3) (N := some 43) (v := ?_) (a' := ?_) spec_l08OK.y4 rfl rfl (take_ofW HT_.out HW_.out qa10) (fun _ _ _ h => h) (Or.inl ⟨by rfl, ?_⟩) hHeld ?_ ?_; rotate_left; exact qa63; rotate_left; exact qa3; refine one_ (i := 4) (N := some 44) spec_l08OK.y5 rfl rfl (one_of HT_.out qa10) qa68 (fun K hK => ?_); refine goes_ Try.func93 qa10 rfl #[.int .i64 a0_1] (by rfl) rfl rfl qa1 ?_; (with_reducible refine (spec_IsInt.calls a0_1 false _ A21.out).mono ?_); rintro e w' ⟨rfl, ⟨nd, rfl⟩⟩; refine ⟨_, rfl, ?_⟩; refine hK.out _ _ ⟨(blk_cell BK101.out 0).trans rfl, (blk_cell BK101.out 1).trans rfl, (blk_cell BK101.out 2).trans rfl, (blk_cell BK101.out 3).trans rfl, (blk_cell BK101.out 4).trans rfl⟩ (fun hHeld => ?_); clear hK K; refine norm_ (a' := ?_) ?_ ?_; rotate_left
        ·exact qa16
        refine pure_ (i := 5) (N := some 45) (v := ?_) (a' := ?_) spec_l08OK.y6 rfl rfl (any_of HT_.out qa10) (fun _ _ _ h => h) (Or.inl ⟨by rfl, ?_⟩) ?_ ?_; rotate_left; exact qa11; rotate_left; exact qa3; refine pure_ (i := 6) (N := some 46) (v := ?_) (a' := ?_) spec_l08OK.y7 rfl rfl (any_of HT_.out qa10) (fun _ _ _ h => h) (Or.inl ⟨by rfl, ?_⟩) ?_ ?_; rotate_left; exact qa11; rotate_left; exact qa3; refine pure_ (i := 7) (N := some 47) (v := undef) (a' := ?_) spec_l08OK.y8 rfl rfl (any_of HT_.out qa10) (fun _ _ _ h => h) (Or.inr ⟨by rfl, rfl⟩) ?_ ?_; rotate_left
        ·simp only [Act.put, qzA, qzB, qzC, i64_w, i32_w]
         rfl
        refine pure_ (i := 8) (N := some 48) (v := undef) (a' := ?_) spec_l08OK.y14 rfl rfl (any_of HT_.out qa10) (fun _ _ _ h => h) (Or.inr ⟨by rfl, rfl⟩) ?_ ?_; rotate_left
        ·simp only [Act.put, qzA, qzB, qzC, i64_w, i32_w]
         rfl
        refine pure_ (i := 9) (N := some 49) (v := undef) (a' := ?_) spec_l08OK.y15 rfl rfl (any_of HT_.out qa10) (fun _ _ _ h => h) (Or.inr ⟨by rfl, rfl⟩) ?_ ?_; rotate_left
        ·simp only [Act.put, qzA, qzB, qzC, i64_w, i32_w]
         rfl
        refine pure_ (i := 10) (N := some 50) (v := ?_) (a' := ?_) spec_l08OK.y16 rfl rfl (any_of HT_.out qa10) (fun _ _ _ h => h) (Or.inl ⟨by rfl, ?_⟩) ?_ ?_; rotate_left; exact qa11; rotate_left; exact qa3; refine pure_ (i := 11) (N := some 4) (v := ?_) (a' := ?_) spec_l08OK.y12 rfl rfl (any_of HT_.out qa10) (fun _ _ _ h => h) (Or.inl ⟨by rfl, ?_⟩) ?_ ?_; rotate_left; exact qa11; rotate_left; exact qa3; refine pure_ (i := 12) (N := some 5) (v := ?_) (a' := ?_) spec_l08OK.y13 rfl rfl (any_of HT_.out qa10) (fun _ _ _ h => h) (Or.inl ⟨by rfl, ?_⟩) ?_ ?_; rotate_left; exact qa11; rotate_left; exact qa3; refine done_ (done_of HT_.out qa10) ?_
        try go_wp2
        go_ret2
        exact ⟨qa4, qa2⟩
      ·replace c20 := Bool.eq_false_iff.mpr c20
       subst c20; have H1 : (some (1, false)) = some (r1, r2) := by rw [if_neg (show ¬ (false = true) by decide)] at H; exact H
       clear H; have H := H1; clear H1; simp only [Option.some.injEq, Prod.mk.injEq] at H; obtain ⟨rfl, rfl⟩ := H; have hcz27_0 : wc.cell? ⟨gb101, 0, none⟩ = some (.int .i64 a0_0) := (blk_cell BK101.out 0).trans rfl; have hcz27_1 : wc.cell? ⟨gb101, 1, none⟩ = some (.int .i64 a0_1) := (blk_cell BK101.out 1).trans rfl; have hcz27_2 : wc.cell? ⟨gb101, 2, none⟩ = some (.string a0_2) := (blk_cell BK101.out 2).trans rfl; have hcz27_3 : wc.cell? ⟨gb101, 3, none⟩ = some (.slice A0_3 l0_3.length c0_3) := (blk_cell BK101.out 3).trans rfl; have hcz27_4 : wc.cell? ⟨gb101, 4, none⟩ = some (.slice A0_4 l0_4.length c0_4) := (blk_cell BK101.out 4).trans rfl; have hfz27_0 := blk_frozen BK101.out 0; have hfz27_1 := blk_frozen BK101.out 1; have hfz27_2 := blk_frozen BK101.out 2; have hfz27_3 := blk_frozen BK101.out 3; have hfz27_4 := blk_frozen BK101.out 4
       try go_wp2
       have n0_ := qO (qkD BK101.out); have n1_ := qO (qbD HB.out); clear BK101; clear HB; have BK101 := n0_; have HB := n1_; clear n0_ n1_; refine start_ (n := 13) (S := fun w' => True) (ds := []) spec_l08OK.y0 qa10 rfl rfl trivial (fun hHeld => ?_); refine with_tabW spec_l08OK.tab8 spec_l08OK.bits8 (fun HT_ HW_ => ?_); generalize wc.drew = w28 at BK101 HB hHeld ⊢; refine pure_ (i := 0) (N := some 40) (v := ?_) (a' := ?_) spec_l08OK.y1 rfl rfl (any_of HT_.out qa10) (fun _ _ _ h => h) (Or.inl ⟨by rfl, ?_⟩) ?_ ?_; rotate_left; exact qa11; rotate_left; exact qa3; refine pure_ (i := 1) (N := some 41) (v := ?_) (a' := ?_) spec_l08OK.y2 rfl rfl (any_of HT_.out qa10) (fun _ _ _ h => h) (Or.inl ⟨by rfl, ?_⟩) ?_ ?_; rotate_left; exact qa11; rotate_left; exact qa3; refine pure_ (i := 2) (N := some 42) (v := undef) (a' := ?_) spec_l08OK.y3 rfl rfl (any_of HT_.out qa10) (fun _ _ _ h => h) (Or.inr ⟨by rfl, rfl⟩) ?_ ?_; rotate_left
       ·simp only [Act.put, qzA, qzB, qzC, i64_w, i32_w]
        rfl
       refine pure_ (i := 3) (N := some 43) (v := undef) (a' := ?_) spec_l08OK.y4 rfl rfl (any_of HT_.out qa10) (fun _ _ _ h => h) (Or.inr ⟨by rfl, rfl⟩) ?_ ?_; rotate_left
       ·simp only [Act.put, qzA, qzB, qzC, i64_w, i32_w]
        rfl
       refine pure_ (i := 4) (N := some 44) (v := undef) (a' := ?_) spec_l08OK.y5 rfl rfl (any_of HT_.out qa10) (fun _ _ _ h => h) (Or.inr ⟨by rfl, rfl⟩) ?_ ?_; rotate_left
       ·simp only [Act.put, qzA, qzB, qzC, i64_w, i32_w]
        rfl
       refine pure_ (i := 5) (N := some 45) (v := ?_) (a' := ?_) spec_l08OK.y6 rfl rfl (any_of HT_.out qa10) (fun _ _ _ h => h) (Or.inl ⟨by rfl, ?_⟩) ?_ ?_; rotate_left; exact qa11; rotate_left; exact qa3; refine pure_ (i := 6) (N := some 46) (v := ?_) (a' := ?_) spec_l08OK.y7 rfl rfl (any_of HT_.out qa10) (fun _ _ _ h => h) (Or.inl ⟨by rfl, ?_⟩) ?_ ?_; rotate_left; exact qa11; rotate_left; exact qa3; refine pure_ (i := 7) (N := some 47) (v := undef) (a' := ?_) spec_l08OK.y8 rfl rfl (any_of HT_.out qa10) (fun _ _ _ h => h) (Or.inr ⟨by rfl, rfl⟩) ?_ ?_; rotate_left
       ·simp only [Act.put, qzA, qzB, qzC, i64_w, i32_w]
        rfl
       refine pure_ (i := 8) (N := some 48) (v := undef) (a' := ?_) spec_l08OK.y14 rfl rfl (any_of HT_.out qa10) (fun _ _ _ h => h) (Or.inr ⟨by rfl, rfl⟩) ?_ ?_; rotate_left
       ·simp only [Act.put, qzA, qzB, qzC, i64_w, i32_w]
        rfl
       refine pure_ (i := 9) (N := some 49) (v := undef) (a' := ?_) spec_l08OK.y15 rfl rfl (any_of HT_.out qa10) (fun _ _ _ h => h) (Or.inr ⟨by rfl, rfl⟩) ?_ ?_; rotate_left
       ·simp only [Act.put, qzA, qzB, qzC, i64_w, i32_w]
        rfl
       refine pure_ (i := 10) (N := some 50) (v := ?_) (a' := ?_) spec_l08OK.y16 rfl rfl (any_of HT_.out qa10) (fun _ _ _ h => h) (Or.inl ⟨by rfl, ?_⟩) ?_ ?_; rotate_left; exact qa11; rotate_left; exact qa3; refine pure_ (i := 11) (N := some 4) (v := ?_) (a' := ?_) spec_l08OK.y12 rfl rfl (any_of HT_.out qa10) (fun _ _ _ h => h) (Or.inl ⟨by rfl, ?_⟩) ?_ ?_; rotate_left; exact qa11; rotate_left; exact qa3; refine pure_ (i := 12) (N := some 5) (v := ?_) (a' := ?_) spec_l08OK.y13 rfl rfl (any_of HT_.out qa10) (fun _ _ _ h => h) (Or.inl ⟨by rfl, ?_⟩) ?_ ?_; rotate_left; exact qa11; rotate_left; exact qa3; refine done_ (done_of HT_.out qa10) ?_
       try go_wp2
       go_ret2
       exact ⟨qa4, qa2⟩
     ·rw [if_neg c19] at H
      have c19b0 : (a0_0 == 1) = false := beq_eq_false_iff_ne.mpr c19; have c19b1 : (a0_0 != 1) = true := bne_iff_ne.mpr c19
      by_cases c29 : a0_0 = 2
      ·rw [if_pos c29] at H
       have c29b0 : (a0_0 == 2) = true := beq_iff_eq.mpr c29; have c29b1 : (a0_0 != 2) = false := bne_eq_false_iff_eq.mpr c29; clear c29
       by_cases c30 : x6_4 = true
       ·subst c30
        have H1 : (if a0_1 = 0 then ((spec_NameOK.f kj4 a0_2).bind fun t103 => (some (1, t103))) else (some (1, false))) = some (r1, r2) := by rw [if_pos rfl] at H; exact H
        clear H; have H := H1; clear H1
        by_cases c31 : a0_1 = 0
        ·rw [if_pos c31] at H
         have c31b0 : (a0_1 == 0) = true := beq_iff_eq.mpr c31; have c31b1 : (a0_1 != 0) = false := bne_eq_false_iff_eq.mpr c31; clear c31; replace H := Option.bind_eq_some_iff.mp H; obtain ⟨t103, A320, H⟩ := H; replace H : (some (1, t103)) = some (r1, r2) := H; have A32 := qO A320; clear A320; simp only [Option.some.injEq, Prod.mk.injEq] at H; obtain ⟨rfl, rfl⟩ := H; have hcz33_0 : wc.cell? ⟨gb101, 0, none⟩ = some (.int .i64 a0_0) := (blk_cell BK101.out 0).trans rfl; have hcz33_1 : wc.cell? ⟨gb101, 1, none⟩ = some (.int .i64 a0_1) := (blk_cell BK101.out 1).trans rfl; have hcz33_2 : wc.cell? ⟨gb101, 2, none⟩ = some (.string a0_2) := (blk_cell BK101.out 2).trans rfl; have hcz33_3 : wc.cell? ⟨gb101, 3, none⟩ = some (.slice A0_3 l0_3.length c0_3) := (blk_cell BK101.out 3).trans rfl; have hcz33_4 : wc.cell? ⟨gb101, 4, none⟩ = some (.slice A0_4 l0_4.length c0_4) := (blk_cell BK101.out 4).trans rfl; have hfz33_0 := blk_frozen BK101.out 0; have hfz33_1 := blk_frozen BK101.out 1; have hfz33_2 := blk_frozen BK101.out 2; have hfz33_3 := blk_frozen BK101.out 3; have hfz33_4 := blk_frozen BK101.out 4
         go_wp2_with (first | (go_at_call 47; (with_reducible refine (spec_NameOK.calls kj4 a0_2 t103 _ A32.out).mono ?_); rintro e w' ⟨rfl, ⟨nd, rfl⟩⟩))
         go_ret2
         exact ⟨qa4, qa2⟩
        ·rw [if_neg c31] at H
         have c31b0 : (a0_1 == 0) = false := beq_eq_false_iff_ne.mpr c31; have c31b1 : (a0_1 != 0) = true := bne_iff_ne.mpr c31; simp only [Option.some.injEq, Prod.mk.injEq] at H; obtain ⟨rfl, rfl⟩ := H; have hcz34_0 : wc.cell? ⟨gb101, 0, none⟩ = some (.int .i64 a0_0) := (blk_cell BK101.out 0).trans rfl; have hcz34_1 : wc.cell? ⟨gb101, 1, none⟩ = some (.int .i64 a0_1) := (blk_cell BK101.out 1).trans rfl; have hcz34_2 : wc.cell? ⟨gb101, 2, none⟩ = some (.string a0_2) := (blk_cell BK101.out 2).trans rfl; have hcz34_3 : wc.cell? ⟨gb101, 3, none⟩ = some (.slice A0_3 l0_3.length c0_3) := (blk_cell BK101.out 3).trans rfl; have hcz34_4 : wc.cell? ⟨gb101, 4, none⟩ = some (.slice A0_4 l0_4.length c0_4) := (blk_cell BK101.out 4).trans rfl; have hfz34_0 := blk_frozen BK101.out 0; have hfz34_1 := blk_frozen BK101.out 1; have hfz34_2 := blk_frozen BK101.out 2; have hfz34_3 := blk_frozen BK101.out 3; have hfz34_4 := blk_frozen BK101.out 4; go_wp2
         go_ret2
         exact ⟨qa4, qa2⟩
       ·replace c30 := Bool.eq_false_iff.mpr c30
        subst c30; have H1 : (some (1, false)) = some (r1, r2) := by rw [if_neg (show ¬ (false = true) by decide)] at H; exact H
        clear H; have H := H1; clear H1; simp only [Option.some.injEq, Prod.mk.injEq] at H; obtain ⟨rfl, rfl⟩ := H; have hcz35_0 : wc.cell? ⟨gb101, 0, none⟩ = some (.int .i64 a0_0) := (blk_cell BK101.out 0).trans rfl; have hcz35_1 : wc.cell? ⟨gb101, 1, none⟩ = some (.int .i64 a0_1) := (blk_cell BK101.out 1).trans rfl; have hcz35_2 : wc.cell? ⟨gb101, 2, none⟩ = some (.string a0_2) := (blk_cell BK101.out 2).trans rfl; have hcz35_3 : wc.cell? ⟨gb101, 3, none⟩ = some (.slice A0_3 l0_3.length c0_3) := (blk_cell BK101.out 3).trans rfl; have hcz35_4 : wc.cell? ⟨gb101, 4, none⟩ = some (.slice A0_4 l0_4.length c0_4) := (blk_cell BK101.out 4).trans rfl; have hfz35_0 := blk_frozen BK101.out 0; have hfz35_1 := blk_frozen BK101.out 1; have hfz35_2 := blk_frozen BK101.out 2; have hfz35_3 := blk_frozen BK101.out 3; have hfz35_4 := blk_frozen BK101.out 4; go_wp2
        go_ret2
        exact ⟨qa4, qa2⟩
      ·rw [if_neg c29] at H
       have c29b0 : (a0_0 == 2) = false := beq_eq_false_iff_ne.mpr c29; have c29b1 : (a0_0 != 2) = true := bne_iff_ne.mpr c29; have HC36 := qO H; clear H; have hcz37_0 : wc.cell? ⟨gb101, 0, none⟩ = some (.int .i64 a0_0) := (blk_cell BK101.out 0).trans rfl; have hcz37_1 : wc.cell? ⟨gb101, 1, none⟩ = some (.int .i64 a0_1) := (blk_cell BK101.out 1).trans rfl; have hcz37_2 : wc.cell? ⟨gb101, 2, none⟩ = some (.string a0_2) := (blk_cell BK101.out 2).trans rfl; have hcz37_3 : wc.cell? ⟨gb101, 3, none⟩ = some (.slice A0_3 l0_3.length c0_3) := (blk_cell BK101.out 3).trans rfl; have hcz37_4 : wc.cell? ⟨gb101, 4, none⟩ = some (.slice A0_4 l0_4.length c0_4) := (blk_cell BK101.out 4).trans rfl; have hfz37_0 := blk_frozen BK101.out 0; have hfz37_1 := blk_frozen BK101.out 1; have hfz37_2 := blk_frozen BK101.out 2; have hfz37_3 := blk_frozen BK101.out 3; have hfz37_4 := blk_frozen BK101.out 4
       go_upto_region 11 with (fail)
       go_cut [106] (fun v106 wc => ∃ (kq : Nat) (x106_35 : Bool), v106 = .bool x106_35 ∧ Aside0 (spec_l08OK.j1 kq a1 x106_35 a0_0 a0_1 a0_2 l0_3 l0_4 = some (r1, r2)) ∧ Aside0 (kq ≤ kj4) ∧ Aside0 (wc.heap[gb101]? = some (.cells #[.int .i64 a0_0, .int .i64 a0_1, .string a0_2, (.slice A0_3 l0_3.length c0_3), (.slice A0_4 l0_4.length c0_4)] 46 (0, 0))) ∧ Aside0 (Below w.heap.size w wc))
       case first =>
        have H := HC36.out; clear HC36
        by_cases c38 : a0_0 = 3
        ·rw [if_pos c38] at H
         have c38b0 : (a0_0 == 3) = true := beq_iff_eq.mpr c38; have c38b1 : (a0_0 != 3) = false := bne_eq_false_iff_eq.mpr c38; clear c38; (first | rw [c38b0] | (simp only [i64_w, i32_w]; rw [c38b0]) | skip)
         by_cases c39 : a0_1 = 0
         ·rw [if_pos c39] at H
          have c39b0 : (a0_1 == 0) = true := beq_iff_eq.mpr c39; have c39b1 : (a0_1 != 0) = false := bne_eq_false_iff_eq.mpr c39; clear c39
          by_cases c40 : a0_2.toList = ([] : List UInt8)
          ·rw [if_pos c40] at H
           have c40b0 : (a0_2.toList == ([] : List UInt8)) = true := beq_iff_eq.mpr c40; have c40b1 : (a0_2.toList != ([] : List UInt8)) = false := bne_eq_false_iff_eq.mpr c40; clear c40
           by_cases c41 : (l0_3.length : Int) > 0
           ·rw [if_pos c41] at H
            have c41b0 : decide (0 < (l0_3.length : Int)) = true := decide_eq_true c41; have c41b1 : decide (0 < l0_3.length) = true := decide_eq_true qa22; clear c41; have H' := qO H; clear H; have hcz42_0 : wc.cell? ⟨gb101, 0, none⟩ = some (.int .i64 a0_0) := (blk_cell BK101.out 0).trans rfl; have hcz42_1 : wc.cell? ⟨gb101, 1, none⟩ = some (.int .i64 a0_1) := (blk_cell BK101.out 1).trans rfl; have hcz42_2 : wc.cell? ⟨gb101, 2, none⟩ = some (.string a0_2) := (blk_cell BK101.out 2).trans rfl; have hcz42_3 : wc.cell? ⟨gb101, 3, none⟩ = some (.slice A0_3 l0_3.length c0_3) := (blk_cell BK101.out 3).trans rfl; have hcz42_4 : wc.cell? ⟨gb101, 4, none⟩ = some (.slice A0_4 l0_4.length c0_4) := (blk_cell BK101.out 4).trans rfl; have hfz42_0 := blk_frozen BK101.out 0; have hfz42_1 := blk_frozen BK101.out 1; have hfz42_2 := blk_frozen BK101.out 2; have hfz42_3 := blk_frozen BK101.out 3; have hfz42_4 := blk_frozen BK101.out 4; go_wp2
            go_meet
            case rel => exact ⟨_, (true), qa5, H', ⟨qa57⟩, ⟨qa9⟩, ⟨qa2⟩⟩
           ·rw [if_neg c41] at H
            have c41b0 : decide (0 < (l0_3.length : Int)) = false := decide_eq_false c41; have c41b1 : decide (0 < l0_3.length) = false := decide_eq_false qa22; clear c41
            by_cases c43 : a0_0 = 4
            ·rw [if_pos c43] at H
             have c43b0 : (a0_0 == 4) = true := beq_iff_eq.mpr c43; have c43b1 : (a0_0 != 4) = false := bne_eq_false_iff_eq.mpr c43; clear c43; have H' := qO H; clear H; have hcz44_0 : wc.cell? ⟨gb101, 0, none⟩ = some (.int .i64 a0_0) := (blk_cell BK101.out 0).trans rfl; have hcz44_1 : wc.cell? ⟨gb101, 1, none⟩ = some (.int .i64 a0_1) := (blk_cell BK101.out 1).trans rfl; have hcz44_2 : wc.cell? ⟨gb101, 2, none⟩ = some (.string a0_2) := (blk_cell BK101.out 2).trans rfl; have hcz44_3 : wc.cell? ⟨gb101, 3, none⟩ = some (.slice A0_3 l0_3.length c0_3) := (blk_cell BK101.out 3).trans rfl; have hcz44_4 : wc.cell? ⟨gb101, 4, none⟩ = some (.slice A0_4 l0_4.length c0_4) := (blk_cell BK101.out 4).trans rfl; have hfz44_0 := blk_frozen BK101.out 0; have hfz44_1 := blk_frozen BK101.out 1; have hfz44_2 := blk_frozen BK101.out 2; have hfz44_3 := blk_frozen BK101.out 3; have hfz44_4 := blk_frozen BK101.out 4; go_wp2
             go_meet
             case rel => exact ⟨_, (((l0_3.length : Int) != (l0_4.length : Int))), qa5, H', ⟨qa57⟩, ⟨qa9⟩, ⟨qa2⟩⟩
            ·rw [if_neg c43] at H
             have c43b0 : (a0_0 == 4) = false := beq_eq_false_iff_ne.mpr c43; have c43b1 : (a0_0 != 4) = true := bne_iff_ne.mpr c43; have H' := qO H; clear H; have hcz45_0 : wc.cell? ⟨gb101, 0, none⟩ = some (.int .i64 a0_0) := (blk_cell BK101.out 0).trans rfl; have hcz45_1 : wc.cell? ⟨gb101, 1, none⟩ = some (.int .i64 a0_1) := (blk_cell BK101.out 1).trans rfl; have hcz45_2 : wc.cell? ⟨gb101, 2, none⟩ = some (.string a0_2) := (blk_cell BK101.out 2).trans rfl; have hcz45_3 : wc.cell? ⟨gb101, 3, none⟩ = some (.slice A0_3 l0_3.length c0_3) := (blk_cell BK101.out 3).trans rfl; have hcz45_4 : wc.cell? ⟨gb101, 4, none⟩ = some (.slice A0_4 l0_4.length c0_4) := (blk_cell BK101.out 4).trans rfl; have hfz45_0 := blk_frozen BK101.out 0; have hfz45_1 := blk_frozen BK101.out 1; have hfz45_2 := blk_frozen BK101.out 2; have hfz45_3 := blk_frozen BK101.out 3; have hfz45_4 := blk_frozen BK101.out 4; go_wp2
             go_meet
             case rel => exact ⟨_, (false), qa5, H', ⟨qa57⟩, ⟨qa9⟩, ⟨qa2⟩⟩
          ·rw [if_neg c40] at H
           have c40b0 : (a0_2.toList == ([] : List UInt8)) = false := beq_eq_false_iff_ne.mpr c40; have c40b1 : (a0_2.toList != ([] : List UInt8)) = true := bne_iff_ne.mpr c40; have H' := qO H; clear H; have hcz46_0 : wc.cell? ⟨gb101, 0, none⟩ = some (.int .i64 a0_0) := (blk_cell BK101.out 0).trans rfl; have hcz46_1 : wc.cell? ⟨gb101, 1, none⟩ = some (.int .i64 a0_1) := (blk_cell BK101.out 1).trans rfl; have hcz46_2 : wc.cell? ⟨gb101, 2, none⟩ = some (.string a0_2) := (blk_cell BK101.out 2).trans rfl; have hcz46_3 : wc.cell? ⟨gb101, 3, none⟩ = some (.slice A0_3 l0_3.length c0_3) := (blk_cell BK101.out 3).trans rfl; have hcz46_4 : wc.cell? ⟨gb101, 4, none⟩ = some (.slice A0_4 l0_4.length c0_4) := (blk_cell BK101.out 4).trans rfl; have hfz46_0 := blk_frozen BK101.out 0; have hfz46_1 := blk_frozen BK101.out 1; have hfz46_2 := blk_frozen BK101.out 2; have hfz46_3 := blk_frozen BK101.out 3; have hfz46_4 := blk_frozen BK101.out 4; go_wp2
           go_meet
           case rel => exact ⟨_, (true), qa5, H', ⟨qa57⟩, ⟨qa9⟩, ⟨qa2⟩⟩
         ·rw [if_neg c39] at H
          have c39b0 : (a0_1 == 0) = false := beq_eq_false_iff_ne.mpr c39; have c39b1 : (a0_1 != 0) = true := bne_iff_ne.mpr c39; have H' := qO H; clear H; have hcz47_0 : wc.cell? ⟨gb101, 0, none⟩ = some (.int .i64 a0_0) := (blk_cell BK101.out 0).trans rfl; have hcz47_1 : wc.cell? ⟨gb101, 1, none⟩ = some (.int .i64 a0_1) := (blk_cell BK101.out 1).trans rfl; have hcz47_2 : wc.cell? ⟨gb101, 2, none⟩ = some (.string a0_2) := (blk_cell BK101.out 2).trans rfl; have hcz47_3 : wc.cell? ⟨gb101, 3, none⟩ = some (.slice A0_3 l0_3.length c0_3) := (blk_cell BK101.out 3).trans rfl; have hcz47_4 : wc.cell? ⟨gb101, 4, none⟩ = some (.slice A0_4 l0_4.length c0_4) := (blk_cell BK101.out 4).trans rfl; have hfz47_0 := blk_frozen BK101.out 0; have hfz47_1 := blk_frozen BK101.out 1; have hfz47_2 := blk_frozen BK101.out 2; have hfz47_3 := blk_frozen BK101.out 3; have hfz47_4 := blk_frozen BK101.out 4; go_wp2
          go_meet
          case rel => exact ⟨_, (true), qa5, H', ⟨qa57⟩, ⟨qa9⟩, ⟨qa2⟩⟩
        ·rw [if_neg c38] at H
         have c38b0 : (a0_0 == 3) = false := beq_eq_false_iff_ne.mpr c38; have c38b1 : (a0_0 != 3) = true := bne_iff_ne.mpr c38; (first | rw [c38b0] | (simp only [i64_w, i32_w]; rw [c38b0]) | skip)
         by_cases c48 : a0_0 = 4
         ·rw [if_pos c48] at H
          have c48b0 : (a0_0 == 4) = true := beq_iff_eq.mpr c48; have c48b1 : (a0_0 != 4) = false := bne_eq_false_iff_eq.mpr c48; clear c48
          by_cases c49 : a0_1 = 0
          ·rw [if_pos c49] at H
           have c49b0 : (a0_1 == 0) = true := beq_iff_eq.mpr c49; have c49b1 : (a0_1 != 0) = false := bne_eq_false_iff_eq.mpr c49; clear c49
           by_cases c50 : a0_2.toList = ([] : List UInt8)
           ·rw [if_pos c50] at H
            have c50b0 : (a0_2.toList == ([] : List UInt8)) = true := beq_iff_eq.mpr c50; have c50b1 : (a0_2.toList != ([] : List UInt8)) = false := bne_eq_false_iff_eq.mpr c50; clear c50; have H' := qO H; clear H; have hcz51_0 : wc.cell? ⟨gb101, 0, none⟩ = some (.int .i64 a0_0) := (blk_cell BK101.out 0).trans rfl; have hcz51_1 : wc.cell? ⟨gb101, 1, none⟩ = some (.int .i64 a0_1) := (blk_cell BK101.out 1).trans rfl; have hcz51_2 : wc.cell? ⟨gb101, 2, none⟩ = some (.string a0_2) := (blk_cell BK101.out 2).trans rfl; have hcz51_3 : wc.cell? ⟨gb101, 3, none⟩ = some (.slice A0_3 l0_3.length c0_3) := (blk_cell BK101.out 3).trans rfl; have hcz51_4 : wc.cell? ⟨gb101, 4, none⟩ = some (.slice A0_4 l0_4.length c0_4) := (blk_cell BK101.out 4).trans rfl; have hfz51_0 := blk_frozen BK101.out 0; have hfz51_1 := blk_frozen BK101.out 1; have hfz51_2 := blk_frozen BK101.out 2; have hfz51_3 := blk_frozen BK101.out 3; have hfz51_4 := blk_frozen BK101.out 4; go_wp2
            go_meet
            case rel => exact ⟨_, (((l0_3.length : Int) != (l0_4.length : Int))), qa5, H', ⟨qa57⟩, ⟨qa9⟩, ⟨qa2⟩⟩
           ·rw [if_neg c50] at H
            have c50b0 : (a0_2.toList == ([] : List UInt8)) = false := beq_eq_false_iff_ne.mpr c50; have c50b1 : (a0_2.toList != ([] : List UInt8)) = true := bne_iff_ne.mpr c50; have H' := qO H; clear H; have hcz52_0 : wc.cell? ⟨gb101, 0, none⟩ = some (.int .i64 a0_0) := (blk_cell BK101.out 0).trans rfl; have hcz52_1 : wc.cell? ⟨gb101, 1, none⟩ = some (.int .i64 a0_1) := (blk_cell BK101.out 1).trans rfl; have hcz52_2 : wc.cell? ⟨gb101, 2, none⟩ = some (.string a0_2) := (blk_cell BK101.out 2).trans rfl; have hcz52_3 : wc.cell? ⟨gb101, 3, none⟩ = some (.slice A0_3 l0_3.length c0_3) := (blk_cell BK101.out 3).trans rfl; have hcz52_4 : wc.cell? ⟨gb101, 4, none⟩ = some (.slice A0_4 l0_4.length c0_4) := (blk_cell BK101.out 4).trans rfl; have hfz52_0 := blk_frozen BK101.out 0; have hfz52_1 := blk_frozen BK101.out 1; have hfz52_2 := blk_frozen BK101.out 2; have hfz52_3 := blk_frozen BK101.out 3; have hfz52_4 := blk_frozen BK101.out 4; go_wp2
            go_meet
            case rel => exact ⟨_, (true), qa5, H', ⟨qa57⟩, ⟨qa9⟩, ⟨qa2⟩⟩
          ·rw [if_neg c49] at H
           have c49b0 : (a0_1 == 0) = false := beq_eq_false_iff_ne.mpr c49; have c49b1 : (a0_1 != 0) = true := bne_iff_ne.mpr c49; have H' := qO H; clear H; have hcz53_0 : wc.cell? ⟨gb101, 0, none⟩ = some (.int .i64 a0_0) := (blk_cell BK101.out 0).trans rfl; have hcz53_1 : wc.cell? ⟨gb101, 1, none⟩ = some (.int .i64 a0_1) := (blk_cell BK101.out 1).trans rfl; have hcz53_2 : wc.cell? ⟨gb101, 2, none⟩ = some (.string a0_2) := (blk_cell BK101.out 2).trans rfl; have hcz53_3 : wc.cell? ⟨gb101, 3, none⟩ = some (.slice A0_3 l0_3.length c0_3) := (blk_cell BK101.out 3).trans rfl; have hcz53_4 : wc.cell? ⟨gb101, 4, none⟩ = some (.slice A0_4 l0_4.length c0_4) := (blk_cell BK101.out 4).trans rfl; have hfz53_0 := blk_frozen BK101.out 0; have hfz53_1 := blk_frozen BK101.out 1; have hfz53_2 := blk_frozen BK101.out 2; have hfz53_3 := blk_frozen BK101.out 3; have hfz53_4 := blk_frozen BK101.out 4; go_wp2
           go_meet
           case rel => exact ⟨_, (true), qa5, H', ⟨qa57⟩, ⟨qa9⟩, ⟨qa2⟩⟩
         ·rw [if_neg c48] at H
          have c48b0 : (a0_0 == 4) = false := beq_eq_false_iff_ne.mpr c48; have c48b1 : (a0_0 != 4) = true := bne_iff_ne.mpr c48; have H' := qO H; clear H; have hcz54_0 : wc.cell? ⟨gb101, 0, none⟩ = some (.int .i64 a0_0) := (blk_cell BK101.out 0).trans rfl; have hcz54_1 : wc.cell? ⟨gb101, 1, none⟩ = some (.int .i64 a0_1) := (blk_cell BK101.out 1).trans rfl; have hcz54_2 : wc.cell? ⟨gb101, 2, none⟩ = some (.string a0_2) := (blk_cell BK101.out 2).trans rfl; have hcz54_3 : wc.cell? ⟨gb101, 3, none⟩ = some (.slice A0_3 l0_3.length c0_3) := (blk_cell BK101.out 3).trans rfl; have hcz54_4 : wc.cell? ⟨gb101, 4, none⟩ = some (.slice A0_4 l0_4.length c0_4) := (blk_cell BK101.out 4).trans rfl; have hfz54_0 := blk_frozen BK101.out 0; have hfz54_1 := blk_frozen BK101.out 1; have hfz54_2 := blk_frozen BK101.out 2; have hfz54_3 := blk_frozen BK101.out 3; have hfz54_4 := blk_frozen BK101.out 4; go_wp2
          go_meet
          case rel => exact ⟨_, (true), qa5, H', ⟨qa57⟩, ⟨qa9⟩, ⟨qa2⟩⟩
       case rest =>
        clear HC36
        try clear c1
        try clear c2
        try clear p2
        try clear c3
        try clear c4
        try clear c5
        try clear c9
        try clear c19
        try clear c19b0
        try clear c19b1
        try clear c20
        try clear c22
        try clear c29
        try clear c29b0
        try clear c29b1
        try clear c30
        try clear c31
        try clear c31b0
        try clear c31b1
        try clear c38
        try clear c38b0
        try clear c38b1
        try clear c39
        try clear c39b0
        try clear c39b1
        try clear c40
        try clear c40b0
        try clear c40b1
        try clear c41
        try clear c41b0
        try clear c41b1
        try clear c43
        try clear c43b0
        try clear c43b1
        try clear c48
        try clear c48b0
        try clear c48b1
        try clear c49
        try clear c49b0
        try clear c49b1
        try clear c50
        try clear c50b0
        try clear c50b1
        try clear hcz25_0
        try clear hcz25_1
        try clear hcz25_2
        try clear hcz25_3
        try clear hcz25_4
        try clear hcz27_0
        try clear hcz27_1
        try clear hcz27_2
        try clear hcz27_3
        try clear hcz27_4
        try clear hcz33_0
        try clear hcz33_1
        try clear hcz33_2
        try clear hcz33_3
        try clear hcz33_4
        try clear hcz34_0
        try clear hcz34_1
        try clear hcz34_2
        try clear hcz34_3
        try clear hcz34_4
        try clear hcz35_0
        try clear hcz35_1
        try clear hcz35_2
        try clear hcz35_3
        try clear hcz35_4
        try clear hcz37_0
        try clear hcz37_1
        try clear hcz37_2
        try clear hcz37_3
        try clear hcz37_4
        try clear hcz42_0
        try clear hcz42_1
        try clear hcz42_2
        try clear hcz42_3
        try clear hcz42_4
        try clear hcz44_0
        try clear hcz44_1
        try clear hcz44_2
        try clear hcz44_3
        try clear hcz44_4
        try clear hcz45_0
        try clear hcz45_1
        try clear hcz45_2
        try clear hcz45_3
        try clear hcz45_4
        try clear hcz46_0
        try clear hcz46_1
        try clear hcz46_2
        try clear hcz46_3
        try clear hcz46_4
        try clear hcz47_0
        try clear hcz47_1
        try clear hcz47_2
        try clear hcz47_3
        try clear hcz47_4
        try clear hcz51_0
        try clear hcz51_1
        try clear hcz51_2
        try clear hcz51_3
        try clear hcz51_4
        try clear hcz52_0
        try clear hcz52_1
        try clear hcz52_2
        try clear hcz52_3
        try clear hcz52_4
        try clear hcz53_0
        try clear hcz53_1
        try clear hcz53_2
        try clear hcz53_3
        try clear hcz53_4
        try clear hcz54_0
        try clear hcz54_1
        try clear hcz54_2
        try clear hcz54_3
        try clear hcz54_4
        try clear hfz25_0
        try clear hfz25_1
        try clear hfz25_2
        try clear hfz25_3
        try clear hfz25_4
        try clear hfz27_0
        try clear hfz27_1
        try clear hfz27_2
        try clear hfz27_3
        try clear hfz27_4
        try clear hfz33_0
        try clear hfz33_1
        try clear hfz33_2
        try clear hfz33_3
        try clear hfz33_4
        try clear hfz34_0
        try clear hfz34_1
        try clear hfz34_2
        try clear hfz34_3
        try clear hfz34_4
        try clear hfz35_0
        try clear hfz35_1
        try clear hfz35_2
        try clear hfz35_3
        try clear hfz35_4
        try clear hfz37_0
        try clear hfz37_1
        try clear hfz37_2
        try clear hfz37_3
        try clear hfz37_4
        try clear hfz42_0
        try clear hfz42_1
        try clear hfz42_2
        try clear hfz42_3
        try clear hfz42_4
        try clear hfz44_0
        try clear hfz44_1
        try clear hfz44_2
        try clear hfz44_3
        try clear hfz44_4
        try clear hfz45_0
        try clear hfz45_1
        try clear hfz45_2
        try clear hfz45_3
        try clear hfz45_4
        try clear hfz46_0
        try clear hfz46_1
        try clear hfz46_2
        try clear hfz46_3
        try clear hfz46_4
        try clear hfz47_0
        try clear hfz47_1
        try clear hfz47_2
        try clear hfz47_3
        try clear hfz47_4
        try clear hfz51_0
        try clear hfz51_1
        try clear hfz51_2
        try clear hfz51_3
        try clear hfz51_4
        try clear hfz52_0
        try clear hfz52_1
        try clear hfz52_2
        try clear hfz52_3
        try clear hfz52_4
        try clear hfz53_0
        try clear hfz53_1
        try clear hfz53_2
        try clear hfz53_3
        try clear hfz53_4
        try clear hfz54_0
        try clear hfz54_1
        try clear hfz54_2
        try clear hfz54_3
        try clear hfz54_4
        obtain ⟨kq, x106_35, rfl, HA, HJ35, BK101, HB⟩ := hcut
        cases kq with
        | zero => exact absurd HA.out (by simp [spec_l08OK.j1])
        | succ kj35 =>
         have H := HA.out; clear HA; simp only [spec_l08OK.j1] at H
         by_cases c55 : x106_35 = true
         ·subst c55
          have H1 : (some (0, false)) = some (r1, r2) := by rw [if_pos rfl] at H; exact H
          clear H; have H := H1; clear H1; simp only [Option.some.injEq, Prod.mk.injEq] at H; obtain ⟨rfl, rfl⟩ := H; go_wp2
          go_ret2
          exact ⟨qa4, qa2⟩
         ·replace c55 := Bool.eq_false_iff.mpr c55
          subst c55; have H1 : (spec_l08OK.l0 kj35 a1 1 0 a0_0 a0_1 a0_2 l0_3 l0_4) = some (r1, r2) := by rw [if_neg (show ¬ (false = true) by decide)] at H; exact H
          clear H; have H := H1; clear H1; have H' := qO H; clear H; go_wp2
          go_loopg [7, 8] kj35 (fun kq v7 v8 w' => ∃ (x7_3 : Int) (x8_3 : Int), v7 = .int .i64 x7_3 ∧ v8 = .int .i64 x8_3 ∧ Aside0 (spec_l08OK.l0 kq a1 x7_3 x8_3 a0_0 a0_1 a0_2 l0_3 l0_4 = some (r1, r2)) ∧ Aside0 (kq ≤ kj35) ∧ Aside0 (w'.heap[gb101]? = some (.cells #[.int .i64 a0_0, .int .i64 a0_1, .string a0_2, (.slice A0_3 l0_3.length c0_3), (.slice A0_4 l0_4.length c0_4)] 46 (0, 0))) ∧ Aside0 (Below w.heap.size w w'))
          case atStart => exact ⟨(1), (0), qa5, qa5, H', ⟨Nat.le_refl _⟩, ⟨qa9⟩, ⟨qa2⟩⟩
          case round =>
           clear H'
           try clear c1
           try clear c2
           try clear p2
           try clear c3
           try clear c4
           try clear c5
           try clear c9
           try clear c19
           try clear c19b0
           try clear c19b1
           try clear c20
           try clear c22
           try clear c29
           try clear c29b0
           try clear c29b1
           try clear c30
           try clear c31
           try clear c31b0
           try clear c31b1
           try clear c38
           try clear c38b0
           try clear c38b1
           try clear c39
           try clear c39b0
           try clear c39b1
           try clear c40
           try clear c40b0
           try clear c40b1
           try clear c41
           try clear c41b0
           try clear c41b1
           try clear c43
           try clear c43b0
           try clear c43b1
           try clear c48
           try clear c48b0
           try clear c48b1
           try clear c49
           try clear c49b0
           try clear c49b1
           try clear c50
           try clear c50b0
           try clear c50b1
           try clear c55
           try clear hcz25_0
           try clear hcz25_1
           try clear hcz25_2
           try clear hcz25_3
           try clear hcz25_4
           try clear hcz27_0
           try clear hcz27_1
           try clear hcz27_2
           try clear hcz27_3
           try clear hcz27_4
           try clear hcz33_0
           try clear hcz33_1
           try clear hcz33_2
           try clear hcz33_3
           try clear hcz33_4
           try clear hcz34_0
           try clear hcz34_1
           try clear hcz34_2
           try clear hcz34_3
           try clear hcz34_4
           try clear hcz35_0
           try clear hcz35_1
           try clear hcz35_2
           try clear hcz35_3
           try clear hcz35_4
           try clear hcz37_0
           try clear hcz37_1
           try clear hcz37_2
           try clear hcz37_3
           try clear hcz37_4
           try clear hcz42_0
           try clear hcz42_1
           try clear hcz42_2
           try clear hcz42_3
           try clear hcz42_4
           try clear hcz44_0
           try clear hcz44_1
           try clear hcz44_2
           try clear hcz44_3
           try clear hcz44_4
           try clear hcz45_0
           try clear hcz45_1
           try clear hcz45_2
           try clear hcz45_3
           try clear hcz45_4
           try clear hcz46_0
           try clear hcz46_1
           try clear hcz46_2
           try clear hcz46_3
           try clear hcz46_4
           try clear hcz47_0
           try clear hcz47_1
           try clear hcz47_2
           try clear hcz47_3
           try clear hcz47_4
           try clear hcz51_0
           try clear hcz51_1
           try clear hcz51_2
           try clear hcz51_3
           try clear hcz51_4
           try clear hcz52_0
           try clear hcz52_1
           try clear hcz52_2
           try clear hcz52_3
           try clear hcz52_4
           try clear hcz53_0
           try clear hcz53_1
           try clear hcz53_2
           try clear hcz53_3
           try clear hcz53_4
           try clear hcz54_0
           try clear hcz54_1
           try clear hcz54_2
           try clear hcz54_3
           try clear hcz54_4
           try clear hfz25_0
           try clear hfz25_1
           try clear hfz25_2
           try clear hfz25_3
           try clear hfz25_4
           try clear hfz27_0
           try clear hfz27_1
           try clear hfz27_2
           try clear hfz27_3
           try clear hfz27_4
           try clear hfz33_0
           try clear hfz33_1
           try clear hfz33_2
           try clear hfz33_3
           try clear hfz33_4
           try clear hfz34_0
           try clear hfz34_1
           try clear hfz34_2
           try clear hfz34_3
           try clear hfz34_4
           try clear hfz35_0
           try clear hfz35_1
           try clear hfz35_2
           try clear hfz35_3
           try clear hfz35_4
           try clear hfz37_0
           try clear hfz37_1
           try clear hfz37_2
           try clear hfz37_3
           try clear hfz37_4
           try clear hfz42_0
           try clear hfz42_1
           try clear hfz42_2
           try clear hfz42_3
           try clear hfz42_4
           try clear hfz44_0
           try clear hfz44_1
           try clear hfz44_2
           try clear hfz44_3
           try clear hfz44_4
           try clear hfz45_0
           try clear hfz45_1
           try clear hfz45_2
           try clear hfz45_3
           try clear hfz45_4
           try clear hfz46_0
           try clear hfz46_1
           try clear hfz46_2
           try clear hfz46_3
           try clear hfz46_4
           try clear hfz47_0
           try clear hfz47_1
           try clear hfz47_2
           try clear hfz47_3
           try clear hfz47_4
           try clear hfz51_0
           try clear hfz51_1
           try clear hfz51_2
           try clear hfz51_3
           try clear hfz51_4
           try clear hfz52_0
           try clear hfz52_1
           try clear hfz52_2
           try clear hfz52_3
           try clear hfz52_4
           try clear hfz53_0
           try clear hfz53_1
           try clear hfz53_2
           try clear hfz53_3
           try clear hfz53_4
           try clear hfz54_0
           try clear hfz54_1
           try clear hfz54_2
           try clear hfz54_3
           try clear hfz54_4
           try clear p2
           obtain ⟨x7_3, x8_3, rfl, rfl, HA, HK3, BK101, HB⟩ := hrel
           cases gk with
           | zero => exact absurd HA.out (by simp [spec_l08OK.l0])
           | succ k3 =>
            have H := HA.out; clear HA; simp only [spec_l08OK.l0] at H
            by_cases c56 : x8_3 < (l0_4.length : Int)
            ·rw [if_pos c56] at H
             have c56b0 : decide (x8_3 < (l0_4.length : Int)) = true := decide_eq_true c56; clear c56; have HC57 := qO H; clear H; have hcz58_0 : wr.cell? ⟨gb101, 0, none⟩ = some (.int .i64 a0_0) := (blk_cell BK101.out 0).trans rfl; have hcz58_1 : wr.cell? ⟨gb101, 1, none⟩ = some (.int .i64 a0_1) := (blk_cell BK101.out 1).trans rfl; have hcz58_2 : wr.cell? ⟨gb101, 2, none⟩ = some (.string a0_2) := (blk_cell BK101.out 2).trans rfl; have hcz58_3 : wr.cell? ⟨gb101, 3, none⟩ = some (.slice A0_3 l0_3.length c0_3) := (blk_cell BK101.out 3).trans rfl; have hcz58_4 : wr.cell? ⟨gb101, 4, none⟩ = some (.slice A0_4 l0_4.length c0_4) := (blk_cell BK101.out 4).trans rfl; have hfz58_0 := blk_frozen BK101.out 0; have hfz58_1 := blk_frozen BK101.out 1; have hfz58_2 := blk_frozen BK101.out 2; have hfz58_3 := blk_frozen BK101.out 3; have hfz58_4 := blk_frozen BK101.out 4
             go_upto_region 17 with (fail)
             go_cut [137] (fun v137 wc => ∃ (kq : Nat) (x137_56 : Bool), v137 = .bool x137_56 ∧ Aside0 (spec_l08OK.j3 kq a1 x7_3 x8_3 x137_56 a0_0 a0_1 a0_2 l0_3 l0_4 = some (r1, r2)) ∧ Aside0 (kq ≤ k3) ∧ Aside0 (wc.heap[gb101]? = some (.cells #[.int .i64 a0_0, .int .i64 a0_1, .string a0_2, (.slice A0_3 l0_3.length c0_3), (.slice A0_4 l0_4.length c0_4)] 46 (0, 0))) ∧ Aside0 (Below w.heap.size w wc))
             case first =>
              have H := HC57.out; clear HC57
              by_cases c59 : a0_0 = 4
              ·rw [if_pos c59] at H
               have c59b0 : (a0_0 == 4) = true := beq_iff_eq.mpr c59; have c59b1 : (a0_0 != 4) = false := bne_eq_false_iff_eq.mpr c59; clear c59; (first | rw [c59b0] | (simp only [i64_w, i32_w]; rw [c59b0]) | skip)
               by_cases c60 : 0 ≤ x8_3
               ·rw [if_pos c60] at H
                have c60b0 : decide (0 ≤ x8_3) = true := decide_eq_true c60; clear c60
                by_cases c61 : x8_3 < (l0_3.length : Int)
                ·rw [if_pos c61] at H
                 have c61b0 : decide (x8_3 < (l0_3.length : Int)) = true := decide_eq_true c61; clear c61; replace H := Option.bind_eq_some_iff.mp H; obtain ⟨t105, A620, H⟩ := H; replace H : (if t105 = true then (if x8_3 ≤ (l0_3.length : Int) then ((spec_l04In.f k3 (l0_3.take (x8_3 : Int).toNat) (rdOf ByteArray.empty l0_3 x8_3)).bind fun t108 => (spec_l08OK.j3 k3 a1 x7_3 x8_3 t108 a0_0 a0_1 a0_2 l0_3 l0_4)) else (none)) else (spec_l08OK.j3 k3 a1 x7_3 x8_3 true a0_0 a0_1 a0_2 l0_3 l0_4)) = some (r1, r2) := H; have A62 := qO A620; clear A620
                 by_cases c63 : t105 = true
                 ·subst c63
                  have H1 : (if x8_3 ≤ (l0_3.length : Int) then ((spec_l04In.f k3 (l0_3.take (x8_3 : Int).toNat) (rdOf ByteArray.empty l0_3 x8_3)).bind fun t108 => (spec_l08OK.j3 k3 a1 x7_3 x8_3 t108 a0_0 a0_1 a0_2 l0_3 l0_4)) else (none)) = some (r1, r2) := by rw [if_pos rfl] at H; exact H
                  clear H; have H := H1; clear H1; have c64b0 := eq_true (qT qa6 : 0 ≤ x8_3)
                  by_cases c65 : x8_3 ≤ (l0_3.length : Int)
                  ·rw [if_pos c65] at H
                   have c65b0 := eq_true c65; have c65b1 : decide (x8_3 ≤ (l0_3.length : Int)) = true := decide_eq_true c65; clear c65; replace H := Option.bind_eq_some_iff.mp H; obtain ⟨t108, A660, H⟩ := H; replace H : (spec_l08OK.j3 k3 a1 x7_3 x8_3 t108 a0_0 a0_1 a0_2 l0_3 l0_4) = some (r1, r2) := H; have A66 := qO A660; clear A660; have H' := qO H; clear H
                   try go_wp2
                   have n0_ := qO (qkD BK101.out); have n1_ := qO (qbD HB.out); clear BK101; clear HB; have BK101 := n0_; have HB := n1_; clear n0_ n1_; have p104 : 0 ≤ (x8_3 : Int) := qT qa6; have q104 : x8_3 < (l0_3.length : Int) := qT qa6; obtain ⟨ad104, e104, hx104_0⟩ := Kd.at_string HR0_3.out x8_3 p104 q104; have hw104_0 := hx104_0
                   cases e104
                   replace hx104_0 := (HB.out.cell (qL w _ hx104_0)).trans hx104_0; replace p104 := eq_true p104; replace q104 := eq_true q104; have p107 : 0 ≤ (x8_3 : Int) := qT qa6; have q107 : x8_3 < (l0_3.length : Int) := qT qa6; obtain ⟨ad107, e107, hx107_0⟩ := Kd.at_string HR0_3.out x8_3 p107 q107; have hw107_0 := hx107_0; obtain rfl : ad104 = ad107 := (by injection e107); replace hx107_0 := (HB.out.cell (qL w _ hx107_0)).trans hx107_0; replace p107 := eq_true p107; replace q107 := eq_true q107; refine start_ (n := 24) (S := fun w' => w'.cell? ⟨gb101, 0, none⟩ = some (.int .i64 a0_0) ∧ w'.cell? ⟨gb101, 1, none⟩ = some (.int .i64 a0_1) ∧ w'.cell? ⟨gb101, 2, none⟩ = some (.string a0_2) ∧ w'.cell? ⟨gb101, 3, none⟩ = some (.slice (some ad104) l0_3.length c0_3) ∧ w'.cell? ⟨gb101, 4, none⟩ = some (.slice A0_4 l0_4.length c0_4) ∧ w'.cell? (ad104.add (x8_3).toNat) = some (.string (rdOf ByteArray.empty l0_3 x8_3)) ∧ w'.cell? (ad104.add (x8_3).toNat) = some (.string (rdOf ByteArray.empty l0_3 x8_3))) (ds := []) spec_l08OK.y17 qa10 rfl rfl ⟨(blk_cell BK101.out 0).trans rfl, (blk_cell BK101.out 1).trans rfl, (blk_cell BK101.out 2).trans rfl, (blk_cell BK101.out 3).trans rfl, (blk_cell BK101.out 4).trans rfl, ((HB.out.cell (qL w _ hw104_0)).trans hw104_0), ((HB.out.cell (qL w _ hw107_0)).trans hw107_0)⟩ (fun hHeld => ?_); refine with_tabW spec_l08OK.tab17 spec_l08OK.bits17 (fun HT_ HW_ => ?_); generalize wr.drew = w67 at BK101 HB hx104_0 hx107_0 hHeld ⊢; refine pure_ (i := 0) (N := some 114) (v := ?_) (a' := ?_) spec_l08OK.y18 rfl rfl (any_of HT_.out qa10) (fun _ _ _ h => h) (Or.inl ⟨by rfl, ?_⟩) ?_ ?_; rotate_left; exact qa11; rotate_left; exact qa3; refine take_ (i := 1) (N := some 115) (v := ?_) (a' := ?_) spec_l08OK.y19 rfl rfl (take_ofW HT_.out HW_.out qa10) (fun _ _ _ h => h) (Or.inl ⟨by rfl, ?_⟩) hHeld ?_ ?_; rotate_left; exact qa67; rotate_left; exact qa3; refine pure_ (i := 2) (N := some 116) (v := ?_) (a' := ?_) spec_l08OK.y20 rfl rfl (any_of HT_.out qa10) (fun _ _ _ h => h) (Or.inl ⟨by rfl, ?_⟩) ?_ ?_; rotate_left; exact qa11; rotate_left; exact qa3; refine pure_ (i := 3) (N := some 117) (v := ?_) (a' := ?_) spec_l08OK.y21 rfl rfl (any_of HT_.out qa10) (fun _ _ _ h => h) (Or.inl ⟨by rfl, ?_⟩) ?_ ?_; rotate_left; exact qa11; rotate_left; exact qa3; refine pure_ (i := 4) (N := some 118) (v := ?_) (a' := ?_) spec_l08OK.y22 rfl rfl (any_of HT_.out qa10) (fun _ _ _ h => h) (Or.inl ⟨by rfl, ?_⟩) ?_ ?_; rotate_left; exact qa11; rotate_left; exact qa3; refine pure_ (i := 6) (N := some 120) (v := ?_) (a' := ?_) spec_l08OK.y23 rfl rfl (any_of HT_.out qa10) (fun _ _ _ h => h) (Or.inl ⟨by rfl, ?_⟩) ?_ ?_; rotate_left; exact qa11; rotate_left; exact qa3; refine take_ (i := 5) (N := some 119) (v := ?_) (a' := ?_) spec_l08OK.y24 rfl rfl (take_ofW HT_.out HW_.out qa10) (fun _ _ _ h => h) (Or.inl ⟨by rfl, ?_⟩) hHeld ?_ ?_; rotate_left; exact qa67; rotate_left; exact qa3; refine pure_ (i := 7) (N := some 121) (v := ?_) (a' := ?_) spec_l08OK.y25 rfl rfl (any_of HT_.out qa10) (fun _ _ _ h => h) (Or.inl ⟨by rfl, ?_⟩) ?_ ?_; rotate_left; exact qa11; rotate_left; exact qa3; refine take_ (i := 8) (N := some 122) (v := ?_) (a' := ?_) spec_l08OK.y26 rfl rfl (take_ofW HT_.out HW_.out qa10) (fun _ _ _ h => h) (Or.inl ⟨by rfl, ?_⟩) hHeld ?_ ?_; rotate_left; exact qa67; rotate_left; exact qa3; refine one_ (i := 9) (N := some 123) spec_l08OK.y27 rfl rfl (one_of HT_.out qa10) qa68 (fun K hK => ?_); refine goes_ Try.func47 qa10 rfl #[.string (rdOf ByteArray.empty l0_3 x8_3)] (by rfl) rfl rfl qa1 ?_; (with_reducible refine (spec_NameOK.calls k3 (rdOf ByteArray.empty l0_3 x8_3) true _ A62.out).mono ?_); rintro e w' ⟨rfl, ⟨nd, rfl⟩⟩; refine ⟨_, rfl, ?_⟩; obtain ⟨i068, hi068, _, hsz68, _⟩ := info_parts info9; obtain ⟨hcut68, hA68, hC68⟩ := print_take_of (P := Try.prog) Value.string (⟨#[]⟩ : ByteArray) 38 9 .i64 Try.underlying38 hi068 hsz68 (some ad104) c0_3 l0_3 x8_3 (qT qa6) (qT qa6) HC0_3.out; have HR106 := qO (Kd.C_of_reads (h1 := fun _ => rfl) (hA68 _ (Kd.reads_of_C HR0_3.out))); have HC106 := qO hC68; clear hA68 hC68 hi068 hsz68; refine hK.out _ _ ⟨(blk_cell BK101.out 0).trans rfl, (blk_cell BK101.out 1).trans rfl, (blk_cell BK101.out 2).trans rfl, (blk_cell BK101.out 3).trans rfl, (blk_cell BK101.out 4).trans rfl, ((HB.out.cell (qL w _ hw104_0)).trans hw104_0), ((HB.out.cell (qL w _ hw107_0)).trans hw107_0)⟩ (fun hHeld => ?_); clear hK K; refine norm_ (a' := ?_) ?_ ?_; rotate_left
                   ·exact qa16
                   refine pure_ (i := 10) (N := some 124) (v := ?_) (a' := ?_) spec_l08OK.y28 rfl rfl (any_of HT_.out qa10) (fun _ _ _ h => h) (Or.inl ⟨by rfl, ?_⟩) ?_ ?_; rotate_left; exact qa11; rotate_left; exact qa3; refine pure_ (i := 11) (N := some 125) (v := ?_) (a' := ?_) spec_l08OK.y29 rfl rfl (any_of HT_.out qa10) (fun _ _ _ h => h) (Or.inl ⟨by rfl, ?_⟩) ?_ ?_; rotate_left; exact qa11; rotate_left; exact qa3; refine pure_ (i := 12) (N := some 126) (v := ?_) (a' := ?_) spec_l08OK.y30 rfl rfl (any_of HT_.out qa10) (fun _ _ _ h => h) (Or.inl ⟨by rfl, ?_⟩) ?_ ?_; rotate_left; exact qa11; rotate_left; exact qa3; refine pure_ (i := 14) (N := some 128) (v := ?_) (a' := ?_) spec_l08OK.y31 rfl rfl (any_of HT_.out qa10) (fun _ _ _ h => h) (Or.inl ⟨by rfl, ?_⟩) ?_ ?_; rotate_left; exact qa11; rotate_left; exact qa3; refine pure_ (i := 16) (N := some 130) (v := ?_) (a' := ?_) spec_l08OK.y32 rfl rfl (any_of HT_.out qa10) (fun _ _ _ h => h) (Or.inl ⟨by rfl, ?_⟩) ?_ ?_; rotate_left; exact qa11; rotate_left; exact qa3; refine pure_ (i := 18) (N := some 132) (v := ?_) (a' := ?_) spec_l08OK.y33 rfl rfl (any_of HT_.out qa10) (fun _ _ _ h => h) (Or.inl ⟨by rfl, ?_⟩) ?_ ?_; rotate_left; exact qa11; rotate_left; exact qa3; refine take_ (i := 13) (N := some 127) (v := ?_) (a' := ?_) spec_l08OK.y34 rfl rfl (take_ofW HT_.out HW_.out qa10) (fun _ _ _ h => h) (Or.inl ⟨by rfl, ?_⟩) hHeld ?_ ?_; rotate_left; exact qa67; rotate_left; exact qa3; refine pure_ (i := 15) (N := some 129) (v := ?_) (a' := ?_) spec_l08OK.y35 rfl rfl (any_of HT_.out qa10) (fun _ _ _ h => h) (Or.inl ⟨by rfl, ?_⟩) ?_ ?_; rotate_left; exact qa11; rotate_left; exact qa3; refine take_ (i := 17) (N := some 131) (v := ?_) (a' := ?_) spec_l08OK.y36 rfl rfl (take_ofW HT_.out HW_.out qa10) (fun _ _ _ h => h) (Or.inl ⟨by rfl, ?_⟩) hHeld ?_ ?_; rotate_left; exact qa67; rotate_left; exact qa3; refine pure_ (i := 19) (N := some 133) (v := ?_) (a' := ?_) spec_l08OK.y37 rfl rfl (any_of HT_.out qa10) (fun _ _ _ h => h) (Or.inl ⟨by rfl, ?_⟩) ?_ ?_; rotate_left; exact qa11; rotate_left; exact qa3; refine take_ (i := 20) (N := some 134) (v := ?_) (a' := ?_) spec_l08OK.y38 rfl rfl (take_ofW HT_.out HW_.out qa10) (fun _ _ _ h => h) (Or.inl ⟨by rfl, ?_⟩) hHeld ?_ ?_; rotate_left; exact qa67; rotate_left; exact qa3; refine one_ (i := 21) (N := some 135) spec_l08OK.y39 rfl rfl (one_of HT_.out qa10) qa68 (fun K hK => ?_); refine goes_ Try.func101 qa10 rfl #[.slice (some ad104) (l0_3.take (x8_3 : Int).toNat).length c0_3, .string (rdOf ByteArray.empty l0_3 x8_3)] (by rfl) rfl rfl (by (try simp only [List.map_toArray, List.map_cons, List.map_nil]); first | done | (rw [show (l0_3.take (x8_3 : Int).toNat).length = x8_3.toNat from (by rw [List.length_take]; have h_ : (x8_3 : Int) ≤ (l0_3.length : Int) := qT (by first | (with_reducible assumption) | assumption); omega)] <;> rfl) | rfl | (simp only [List.length_drop, List.length_take]; rfl)) ?_; (with_reducible refine (spec_l04In.calls k3 _ _ (l0_3.take (x8_3 : Int).toNat) (rdOf ByteArray.empty l0_3 x8_3) t108 _ ?side1 ?side2 A66.out).mono ?_); (case side1 => repeat (first | exact (Kd.C_below HR106.out (by repeat (first | (with_reducible first | exact HB.out | apply qbA | apply qbN | apply qbD | refine qbS ?_ GE101.out) | exact HB.out))) | with_reducible first | refine Kd.C_alloc ?_ _ | refine Kd.C_drewN ?_ _ | refine Kd.C_drew ?_)); (case side2 => exact HC106.out); rintro e w' ⟨rfl, ⟨nd, rfl⟩⟩; refine ⟨_, rfl, ?_⟩; refine hK.out _ _ ⟨(blk_cell BK101.out 0).trans rfl, (blk_cell BK101.out 1).trans rfl, (blk_cell BK101.out 2).trans rfl, (blk_cell BK101.out 3).trans rfl, (blk_cell BK101.out 4).trans rfl, ((HB.out.cell (qL w _ hw104_0)).trans hw104_0), ((HB.out.cell (qL w _ hw107_0)).trans hw107_0)⟩ (fun hHeld => ?_); clear hK K; refine norm_ (a' := ?_) ?_ ?_; rotate_left
                   ·exact qa16
                   refine pure_ (i := 22) (N := some 136) (v := ?_) (a' := ?_) spec_l08OK.y40 rfl rfl (any_of HT_.out qa10) (fun _ _ _ h => h) (Or.inl ⟨by rfl, ?_⟩) ?_ ?_; rotate_left; exact qa11; rotate_left; exact qa3; refine pure_ (i := 23) (N := some 137) (v := ?_) (a' := ?_) spec_l08OK.y41 rfl rfl (any_of HT_.out qa10) (fun _ _ _ h => h) (Or.inl ⟨by rfl, ?_⟩) ?_ ?_; rotate_left; exact qa11; rotate_left; exact qa3; refine done_ (done_of HT_.out qa10) ?_
                   try go_wp2
                   go_meet
                   case rel => exact ⟨_, (t108), qa5, H', ⟨qa81⟩, ⟨qa9⟩, ⟨qa2⟩⟩
                  ·rw [if_neg c65] at H
                   exact absurd H qa70
                 ·replace c63 := Bool.eq_false_iff.mpr c63
                  subst c63; have H1 : (spec_l08OK.j3 k3 a1 x7_3 x8_3 true a0_0 a0_1 a0_2 l0_3 l0_4) = some (r1, r2) := by rw [if_neg (show ¬ (false = true) by decide)] at H; exact H
                  clear H; have H := H1; clear H1; have H' := qO H; clear H
                  try go_wp2
                  have n0_ := qO (qkD BK101.out); have n1_ := qO (qbD HB.out); clear BK101; clear HB; have BK101 := n0_; have HB := n1_; clear n0_ n1_; have p104 : 0 ≤ (x8_3 : Int) := qT qa6; have q104 : x8_3 < (l0_3.length : Int) := qT qa6; obtain ⟨ad104, e104, hx104_0⟩ := Kd.at_string HR0_3.out x8_3 p104 q104; have hw104_0 := hx104_0
                  cases e104
                  replace hx104_0 := (HB.out.cell (qL w _ hx104_0)).trans hx104_0; replace p104 := eq_true p104; replace q104 := eq_true q104; refine start_ (n := 24) (S := fun w' => w'.cell? ⟨gb101, 0, none⟩ = some (.int .i64 a0_0) ∧ w'.cell? ⟨gb101, 1, none⟩ = some (.int .i64 a0_1) ∧ w'.cell? ⟨gb101, 2, none⟩ = some (.string a0_2) ∧ w'.cell? ⟨gb101, 3, none⟩ = some (.slice (some ad104) l0_3.length c0_3) ∧ w'.cell? ⟨gb101, 4, none⟩ = some (.slice A0_4 l0_4.length c0_4) ∧ w'.cell? (ad104.add (x8_3).toNat) = some (.string (rdOf ByteArray.empty l0_3 x8_3))) (ds := []) spec_l08OK.y17 qa10 rfl rfl ⟨(blk_cell BK101.out 0).trans rfl, (blk_cell BK101.out 1).trans rfl, (blk_cell BK101.out 2).trans rfl, (blk_cell BK101.out 3).trans rfl, (blk_cell BK101.out 4).trans rfl, ((HB.out.cell (qL w _ hw104_0)).trans hw104_0)⟩ (fun hHeld => ?_); refine with_tabW spec_l08OK.tab17 spec_l08OK.bits17 (fun HT_ HW_ => ?_); generalize wr.drew = w69 at BK101 HB hx104_0 hHeld ⊢; refine pure_ (i := 0) (N := some 114) (v := ?_) (a' := ?_) spec_l08OK.y18 rfl rfl (any_of HT_.out qa10) (fun _ _ _ h => h) (Or.inl ⟨by rfl, ?_⟩) ?_ ?_; rotate_left; exact qa11; rotate_left; exact qa3; refine take_ (i := 1) (N := some 115) (v := ?_) (a' := ?_) spec_l08OK.y19 rfl rfl (take_ofW HT_.out HW_.out qa10) (fun _ _ _ h => h) (Or.inl ⟨by rfl, ?_⟩) hHeld ?_ ?_; rotate_left; exact qa93; rotate_left; exact qa3; refine pure_ (i := 2) (N := some 116) (v := ?_) (a' := ?_) spec_l08OK.y20 rfl rfl (any_of HT_.out qa10) (fun _ _ _ h => h) (Or.inl ⟨by rfl, ?_⟩) ?_ ?_; rotate_left; exact qa11; rotate_left; exact qa3; refine pure_ (i := 3) (N := some 117) (v := ?_) (a' := ?_) spec_l08OK.y21 rfl rfl (any_of HT_.out qa10) (fun _ _ _ h => h) (Or.inl ⟨by rfl, ?_⟩) ?_ ?_; rotate_left; exact qa11; rotate_left; exact qa3; refine pure_ (i := 4) (N := some 118) (v := ?_) (a' := ?_) spec_l08OK.y22 rfl rfl (any_of HT_.out qa10) (fun _ _ _ h => h) (Or.inl ⟨by rfl, ?_⟩) ?_ ?_; rotate_left; exact qa11; rotate_left; exact qa3; refine pure_ (i := 6) (N := some 120) (v := ?_) (a' := ?_) spec_l08OK.y23 rfl rfl (any_of HT_.out qa10) (fun _ _ _ h => h) (Or.inl ⟨by rfl, ?_⟩) ?_ ?_; rotate_left; exact qa11; rotate_left; exact qa3; refine take_ (i := 5) (N := some 119) (v := ?_) (a' := ?_) spec_l08OK.y24 rfl rfl (take_ofW HT_.out HW_.out qa10) (fun _ _ _ h => h) (Or.inl ⟨by rfl, ?_⟩) hHeld ?_ ?_; rotate_left; exact qa93; rotate_left; exact qa3; refine pure_ (i := 7) (N := some 121) (v := ?_) (a' := ?_) spec_l08OK.y25 rfl rfl (any_of HT_.out qa10) (fun _ _ _ h => h) (Or.inl ⟨by rfl, ?_⟩) ?_ ?_; rotate_left; exact qa11; rotate_left; exact qa3; refine take_ (i := 8) (N := some 122) (v := ?_) (a' := ?_) spec_l08OK.y26 rfl rfl (take_ofW HT_.out HW_.out qa10) (fun _ _ _ h => h) (Or.inl ⟨by rfl, ?_⟩) hHeld ?_ ?_; rotate_left; exact qa93; rotate_left; exact qa3; refine one_ (i := 9) (N := some 123) spec_l08OK.y27 rfl rfl (one_of HT_.out qa10) qa68 (fun K hK => ?_); refine goes_ Try.func47 qa10 rfl #[.string (rdOf ByteArray.empty l0_3 x8_3)] (by rfl) rfl rfl qa1 ?_; (with_reducible refine (spec_NameOK.calls k3 (rdOf ByteArray.empty l0_3 x8_3) false _ A62.out).mono ?_); rintro e w' ⟨rfl, ⟨nd, rfl⟩⟩; refine ⟨_, rfl, ?_⟩; refine hK.out _ _ ⟨(blk_cell BK101.out 0).trans rfl, (blk_cell BK101.out 1).trans rfl, (blk_cell BK101.out 2).trans rfl, (blk_cell BK101.out 3).trans rfl, (blk_cell BK101.out 4).trans rfl, ((HB.out.cell (qL w _ hw104_0)).trans hw104_0)⟩ (fun hHeld => ?_); clear hK K; refine norm_ (a' := ?_) ?_ ?_; rotate_left
                  ·exact qa16
                  refine pure_ (i := 10) (N := some 124) (v := ?_) (a' := ?_) spec_l08OK.y28 rfl rfl (any_of HT_.out qa10) (fun _ _ _ h => h) (Or.inl ⟨by rfl, ?_⟩) ?_ ?_; rotate_left; exact qa11; rotate_left; exact qa3; refine pure_ (i := 11) (N := some 125) (v := ?_) (a' := ?_) spec_l08OK.y29 rfl rfl (any_of HT_.out qa10) (fun _ _ _ h => h) (Or.inl ⟨by rfl, ?_⟩) ?_ ?_; rotate_left; exact qa11; rotate_left; exact qa3; refine pure_ (i := 12) (N := some 126) (v := undef) (a' := ?_) spec_l08OK.y30 rfl rfl (any_of HT_.out qa10) (fun _ _ _ h => h) (Or.inr ⟨by rfl, rfl⟩) ?_ ?_; rotate_left
                  ·simp only [Act.put, qzA, qzB, qzC, i64_w, i32_w]
                   rfl
                  refine pure_ (i := 13) (N := some 127) (v := undef) (a' := ?_) spec_l08OK.y42 rfl rfl (any_of HT_.out qa10) (fun _ _ _ h => h) (Or.inr ⟨by rfl, rfl⟩) ?_ ?_; rotate_left
                  ·simp only [Act.put, qzA, qzB, qzC, i64_w, i32_w]
                   rfl
                  refine pure_ (i := 14) (N := some 128) (v := undef) (a' := ?_) spec_l08OK.y43 rfl rfl (any_of HT_.out qa10) (fun _ _ _ h => h) (Or.inr ⟨by rfl, rfl⟩) ?_ ?_; rotate_left
                  ·simp only [Act.put, qzA, qzB, qzC, i64_w, i32_w]
                   rfl
                  refine pure_ (i := 15) (N := some 129) (v := undef) (a' := ?_) spec_l08OK.y44 rfl rfl (any_of HT_.out qa10) (fun _ _ _ h => h) (Or.inr ⟨by rfl, rfl⟩) ?_ ?_; rotate_left
                  ·simp only [Act.put, qzA, qzB, qzC, i64_w, i32_w]
                   rfl
                  refine pure_ (i := 16) (N := some 130) (v := undef) (a' := ?_) spec_l08OK.y45 rfl rfl (any_of HT_.out qa10) (fun _ _ _ h => h) (Or.inr ⟨by rfl, rfl⟩) ?_ ?_; rotate_left
                  ·simp only [Act.put, qzA, qzB, qzC, i64_w, i32_w]
                   rfl
                  refine pure_ (i := 17) (N := some 131) (v := undef) (a' := ?_) spec_l08OK.y46 rfl rfl (any_of HT_.out qa10) (fun _ _ _ h => h) (Or.inr ⟨by rfl, rfl⟩) ?_ ?_; rotate_left
                  ·simp only [Act.put, qzA, qzB, qzC, i64_w, i32_w]
                   rfl
                  refine pure_ (i := 18) (N := some 132) (v := undef) (a' := ?_) spec_l08OK.y36 rfl rfl (any_of HT_.out qa10) (fun _ _ _ h => h) (Or.inr ⟨by rfl, rfl⟩) ?_ ?_; rotate_left
                  ·simp only [Act.put, qzA, qzB, qzC, i64_w, i32_w]
                   rfl
                  refine pure_ (i := 19) (N := some 133) (v := undef) (a' := ?_) spec_l08OK.y37 rfl rfl (any_of HT_.out qa10) (fun _ _ _ h => h) (Or.inr ⟨by rfl, rfl⟩) ?_ ?_; rotate_left
                  ·simp only [Act.put, qzA, qzB, qzC, i64_w, i32_w]
                   rfl
                  refine pure_ (i := 20) (N := some 134) (v := undef) (a' := ?_) spec_l08OK.y38 rfl rfl (any_of HT_.out qa10) (fun _ _ _ h => h) (Or.inr ⟨by rfl, rfl⟩) ?_ ?_; rotate_left
                  ·simp only [Act.put, qzA, qzB, qzC, i64_w, i32_w]
                   rfl
                  refine pure_ (i := 21) (N := some 135) (v := undef) (a' := ?_) spec_l08OK.y39 rfl rfl (any_of HT_.out qa10) (fun _ _ _ h => h) (Or.inr ⟨by rfl, rfl⟩) ?_ ?_; rotate_left
                  ·simp only [Act.put, qzA, qzB, qzC, i64_w, i32_w]
                   rfl
                  refine pure_ (i := 22) (N := some 136) (v := ?_) (a' := ?_) spec_l08OK.y40 rfl rfl (any_of HT_.out qa10) (fun _ _ _ h => h) (Or.inl ⟨by rfl, ?_⟩) ?_ ?_; rotate_left; exact qa11; rotate_left; exact qa3; refine pure_ (i := 23) (N := some 137) (v := ?_) (a' := ?_) spec_l08OK.y41 rfl rfl (any_of HT_.out qa10) (fun _ _ _ h => h) (Or.inl ⟨by rfl, ?_⟩) ?_ ?_; rotate_left; exact qa11; rotate_left; exact qa3; refine done_ (done_of HT_.out qa10) ?_
                  try go_wp2
                  go_meet
                  case rel => exact ⟨_, (true), qa5, H', ⟨qa81⟩, ⟨qa9⟩, ⟨qa2⟩⟩
                ·rw [if_neg c61] at H
                 exact absurd H qa70
               ·rw [if_neg c60] at H
                exact absurd H qa70
              ·rw [if_neg c59] at H
               have c59b0 : (a0_0 == 4) = false := beq_eq_false_iff_ne.mpr c59; have c59b1 : (a0_0 != 4) = true := bne_iff_ne.mpr c59; (first | rw [c59b0] | (simp only [i64_w, i32_w]; rw [c59b0]) | skip); have H' := qO H; clear H
               try go_wp2
               have n0_ := qO (qkD BK101.out); have n1_ := qO (qbD HB.out); clear BK101; clear HB; have BK101 := n0_; have HB := n1_; clear n0_ n1_; refine start_ (n := 24) (S := fun w' => w'.cell? ⟨gb101, 0, none⟩ = some (.int .i64 a0_0) ∧ w'.cell? ⟨gb101, 1, none⟩ = some (.int .i64 a0_1) ∧ w'.cell? ⟨gb101, 2, none⟩ = some (.string a0_2) ∧ w'.cell? ⟨gb101, 3, none⟩ = some (.slice A0_3 l0_3.length c0_3) ∧ w'.cell? ⟨gb101, 4, none⟩ = some (.slice A0_4 l0_4.length c0_4)) (ds := []) spec_l08OK.y17 qa10 rfl rfl ⟨(blk_cell BK101.out 0).trans rfl, (blk_cell BK101.out 1).trans rfl, (blk_cell BK101.out 2).trans rfl, (blk_cell BK101.out 3).trans rfl, (blk_cell BK101.out 4).trans rfl⟩ (fun hHeld => ?_); refine with_tabW spec_l08OK.tab17 spec_l08OK.bits17 (fun HT_ HW_ => ?_); generalize wr.drew = w70 at BK101 HB hHeld ⊢; refine pure_ (i := 0) (N := some 114) (v := ?_) (a' := ?_) spec_l08OK.y18 rfl rfl (any_of HT_.out qa10) (fun _ _ _ h => h) (Or.inl ⟨by rfl, ?_⟩) ?_ ?_; rotate_left; exact qa11; rotate_left; exact qa3; refine take_ (i := 1) (N := some 115) (v := ?_) (a' := ?_) spec_l08OK.y19 rfl rfl (take_ofW HT_.out HW_.out qa10) (fun _ _ _ h => h) (Or.inl ⟨by rfl, ?_⟩) hHeld ?_ ?_; rotate_left; exact qa63; rotate_left; exact qa3; refine pure_ (i := 2) (N := some 116) (v := ?_) (a' := ?_) spec_l08OK.y20 rfl rfl (any_of HT_.out qa10) (fun _ _ _ h => h) (Or.inl ⟨by rfl, ?_⟩) ?_ ?_; rotate_left; exact qa11; rotate_left; exact qa3; refine pure_ (i := 3) (N := some 117) (v := ?_) (a' := ?_) spec_l08OK.y21 rfl rfl (any_of HT_.out qa10) (fun _ _ _ h => h) (Or.inl ⟨by rfl, ?_⟩) ?_ ?_; rotate_left; exact qa11; rotate_left; exact qa3; refine pure_ (i := 4) (N := some 118) (v := undef) (a' := ?_) spec_l08OK.y22 rfl rfl (any_of HT_.out qa10) (fun _ _ _ h => h) (Or.inr ⟨by rfl, rfl⟩) ?_ ?_; rotate_left
               ·simp only [Act.put, qzA, qzB, qzC, i64_w, i32_w]
                rfl
               refine pure_ (i := 5) (N := some 119) (v := undef) (a' := ?_) spec_l08OK.y47 rfl rfl (any_of HT_.out qa10) (fun _ _ _ h => h) (Or.inr ⟨by rfl, rfl⟩) ?_ ?_; rotate_left
               ·simp only [Act.put, qzA, qzB, qzC, i64_w, i32_w]
                rfl
               refine pure_ (i := 6) (N := some 120) (v := undef) (a' := ?_) spec_l08OK.y24 rfl rfl (any_of HT_.out qa10) (fun _ _ _ h => h) (Or.inr ⟨by rfl, rfl⟩) ?_ ?_; rotate_left
               ·simp only [Act.put, qzA, qzB, qzC, i64_w, i32_w]
                rfl
               refine pure_ (i := 7) (N := some 121) (v := undef) (a' := ?_) spec_l08OK.y25 rfl rfl (any_of HT_.out qa10) (fun _ _ _ h => h) (Or.inr ⟨by rfl, rfl⟩) ?_ ?_; rotate_left
               ·simp only [Act.put, qzA, qzB, qzC, i64_w, i32_w]
                rfl
               refine pure_ (i := 8) (N := some 122) (v := undef) (a' := ?_) spec_l08OK.y26 rfl rfl (any_of HT_.out qa10) (fun _ _ _ h => h) (Or.inr ⟨by rfl, rfl⟩) ?_ ?_; rotate_left
               ·simp only [Act.put, qzA, qzB, qzC, i64_w, i32_w]
                rfl
               refine pure_ (i := 9) (N := some 123) (v := undef) (a' := ?_) spec_l08OK.y27 rfl rfl (any_of HT_.out qa10) (fun _ _ _ h => h) (Or.inr ⟨by rfl, rfl⟩) ?_ ?_; rotate_left
               ·simp only [Act.put, qzA, qzB, qzC, i64_w, i32_w]
                rfl
               refine pure_ (i := 10) (N := some 124) (v := undef) (a' := ?_) spec_l08OK.y28 rfl rfl (any_of HT_.out qa10) (fun _ _ _ h => h) (Or.inr ⟨by rfl, rfl⟩) ?_ ?_; rotate_left
               ·simp only [Act.put, qzA, qzB, qzC, i64_w, i32_w]
                rfl
               refine pure_ (i := 11) (N := some 125) (v := undef) (a' := ?_) spec_l08OK.y29 rfl rfl (any_of HT_.out qa10) (fun _ _ _ h => h) (Or.inr ⟨by rfl, rfl⟩) ?_ ?_; rotate_left
               ·simp only [Act.put, qzA, qzB, qzC, i64_w, i32_w]
                rfl
               refine pure_ (i := 12) (N := some 126) (v := undef) (a' := ?_) spec_l08OK.y30 rfl rfl (any_of HT_.out qa10) (fun _ _ _ h => h) (Or.inr ⟨by rfl, rfl⟩) ?_ ?_; rotate_left
               ·simp only [Act.put, qzA, qzB, qzC, i64_w, i32_w]
                rfl
               refine pure_ (i := 13) (N := some 127) (v := undef) (a' := ?_) spec_l08OK.y42 rfl rfl (any_of HT_.out qa10) (fun _ _ _ h => h) (Or.inr ⟨by rfl, rfl⟩) ?_ ?_; rotate_left
               ·simp only [Act.put, qzA, qzB, qzC, i64_w, i32_w]
                rfl
               refine pure_ (i := 14) (N := some 128) (v := undef) (a' := ?_) spec_l08OK.y43 rfl rfl (any_of HT_.out qa10) (fun _ _ _ h => h) (Or.inr ⟨by rfl, rfl⟩) ?_ ?_; rotate_left
               ·simp only [Act.put, qzA, qzB, qzC, i64_w, i32_w]
                rfl
               refine pure_ (i := 15) (N := some 129) (v := undef) (a' := ?_) spec_l08OK.y44 rfl rfl (any_of HT_.out qa10) (fun _ _ _ h => h) (Or.inr ⟨by rfl, rfl⟩) ?_ ?_; rotate_left
               ·simp only [Act.put, qzA, qzB, qzC, i64_w, i32_w]
                rfl
               refine pure_ (i := 16) (N := some 130) (v := undef) (a' := ?_) spec_l08OK.y45 rfl rfl (any_of HT_.out qa10) (fun _ _ _ h => h) (Or.inr ⟨by rfl, rfl⟩) ?_ ?_; rotate_left
               ·simp only [Act.put, qzA, qzB, qzC, i64_w, i32_w]
                rfl
               refine pure_ (i := 17) (N := some 131) (v := undef) (a' := ?_) spec_l08OK.y46 rfl rfl (any_of HT_.out qa10) (fun _ _ _ h => h) (Or.inr ⟨by rfl, rfl⟩) ?_ ?_; rotate_left
               ·simp only [Act.put, qzA, qzB, qzC, i64_w, i32_w]
                rfl
               refine pure_ (i := 18) (N := some 132) (v := undef) (a' := ?_) spec_l08OK.y36 rfl rfl (any_of HT_.out qa10) (fun _ _ _ h => h) (Or.inr ⟨by rfl, rfl⟩) ?_ ?_; rotate_left
               ·simp only [Act.put, qzA, qzB, qzC, i64_w, i32_w]
                rfl
               refine pure_ (i := 19) (N := some 133) (v := undef) (a' := ?_) spec_l08OK.y37 rfl rfl (any_of HT_.out qa10) (fun _ _ _ h => h) (Or.inr ⟨by rfl, rfl⟩) ?_ ?_; rotate_left
               ·simp only [Act.put, qzA, qzB, qzC, i64_w, i32_w]
                rfl
               refine pure_ (i := 20) (N := some 134) (v := undef) (a' := ?_) spec_l08OK.y38 rfl rfl (any_of HT_.out qa10) (fun _ _ _ h => h) (Or.inr ⟨by rfl, rfl⟩) ?_ ?_; rotate_left
               ·simp only [Act.put, qzA, qzB, qzC, i64_w, i32_w]
                rfl
               refine pure_ (i := 21) (N := some 135) (v := undef) (a' := ?_) spec_l08OK.y39 rfl rfl (any_of HT_.out qa10) (fun _ _ _ h => h) (Or.inr ⟨by rfl, rfl⟩) ?_ ?_; rotate_left
               ·simp only [Act.put, qzA, qzB, qzC, i64_w, i32_w]
                rfl
               refine pure_ (i := 22) (N := some 136) (v := undef) (a' := ?_) spec_l08OK.y40 rfl rfl (any_of HT_.out qa10) (fun _ _ _ h => h) (Or.inr ⟨by rfl, rfl⟩) ?_ ?_; rotate_left
               ·simp only [Act.put, qzA, qzB, qzC, i64_w, i32_w]
                rfl
               refine pure_ (i := 23) (N := some 137) (v := ?_) (a' := ?_) spec_l08OK.y41 rfl rfl (any_of HT_.out qa10) (fun _ _ _ h => h) (Or.inl ⟨by rfl, ?_⟩) ?_ ?_; rotate_left; exact qa11; rotate_left; exact qa3; refine done_ (done_of HT_.out qa10) ?_
               try go_wp2
               go_meet
               case rel => exact ⟨_, (false), qa5, H', ⟨qa81⟩, ⟨qa9⟩, ⟨qa2⟩⟩
             case rest =>
              clear HC57
              try clear c1
              try clear p1
              try clear q1
              try clear hx1
              try clear p2
              try clear c4
              try clear c5
              try clear c6
              try clear c10
              try clear p10
              try clear q10
              try clear hx10
              try clear c47
              try clear c59
              try clear c59b0
              try clear c59b1
              try clear c60
              try clear c60b0
              try clear c61
              try clear c61b0
              try clear c63
              try clear c64
              try clear c64b0
              try clear c65
              try clear c65b0
              try clear c65b1
              try clear hx104_0
              try clear hx107_0
              try clear p104
              try clear p107
              try clear q104
              try clear q107
              obtain ⟨kq, x137_56, rfl, HA, HJ56, BK101, HB⟩ := hcut
              cases kq with
              | zero => exact absurd HA.out (by simp [spec_l08OK.j3])
              | succ kj56 =>
               have H := HA.out; clear HA; simp only [spec_l08OK.j3] at H
               by_cases c71 : x137_56 = true
               ·subst c71
                have H1 : (some (0, false)) = some (r1, r2) := by rw [if_pos rfl] at H; exact H
                clear H; have H := H1; clear H1; simp only [Option.some.injEq, Prod.mk.injEq] at H; obtain ⟨rfl, rfl⟩ := H; go_wp2
                go_ret2
                exact ⟨qa4, qa2⟩
               ·replace c71 := Bool.eq_false_iff.mpr c71
                subst c71; have H1 : (if 0 ≤ x8_3 then (if x8_3 < (l0_4.length : Int) then ((spec_l08OK.f kj56 ((rd_T46 l0_4 x8_3).f0) ((rd_T46 l0_4 x8_3).f1) ((rd_T46 l0_4 x8_3).f2) ((rd_T46 l0_4 x8_3).f3) ((rd_T46 l0_4 x8_3).f4) (wrap64 (a1 - 1))).bind fun bt110 => (if bt110.2 = true then (if (wrap64 (x7_3 + bt110.1)) > 4000 then (some (0, false)) else (spec_l08OK.l0 kj56 a1 (wrap64 (x7_3 + bt110.1)) (wrap64 (x8_3 + 1)) a0_0 a0_1 a0_2 l0_3 l0_4)) else (some (0, false)))) else (none)) else (none)) = some (r1, r2) := by rw [if_neg (show ¬ (false = true) by decide)] at H; exact H
                clear H; have H := H1; clear H1
                by_cases c72 : 0 ≤ x8_3
                ·rw [if_pos c72] at H
                 have c72b0 : decide (0 ≤ x8_3) = true := decide_eq_true c72; clear c72
                 by_cases c73 : x8_3 < (l0_4.length : Int)
                 ·rw [if_pos c73] at H
                  have c73b0 : decide (x8_3 < (l0_4.length : Int)) = true := decide_eq_true c73; clear c73; replace H := Option.bind_eq_some_iff.mp H; obtain ⟨⟨t110, t111⟩, A740, H⟩ := H; replace H : (if t111 = true then (if (wrap64 (x7_3 + t110)) > 4000 then (some (0, false)) else (spec_l08OK.l0 kj56 a1 (wrap64 (x7_3 + t110)) (wrap64 (x8_3 + 1)) a0_0 a0_1 a0_2 l0_3 l0_4)) else (some (0, false))) = some (r1, r2) := H; have A74 := qO A740; clear A740
                  by_cases c75 : t111 = true
                  ·subst c75
                   have H1 : (if (wrap64 (x7_3 + t110)) > 4000 then (some (0, false)) else (spec_l08OK.l0 kj56 a1 (wrap64 (x7_3 + t110)) (wrap64 (x8_3 + 1)) a0_0 a0_1 a0_2 l0_3 l0_4)) = some (r1, r2) := by rw [if_pos rfl] at H; exact H
                   clear H; have H := H1; clear H1
                   by_cases c76 : (wrap64 (x7_3 + t110)) > 4000
                   ·rw [if_pos c76] at H
                    have c76b0 : decide (4000 < (wrap64 (x7_3 + t110))) = true := decide_eq_true c76; clear c76; simp only [Option.some.injEq, Prod.mk.injEq] at H; obtain ⟨rfl, rfl⟩ := H; have hcz77_0 : wc.cell? ⟨gb101, 0, none⟩ = some (.int .i64 a0_0) := (blk_cell BK101.out 0).trans rfl; have hcz77_1 : wc.cell? ⟨gb101, 1, none⟩ = some (.int .i64 a0_1) := (blk_cell BK101.out 1).trans rfl; have hcz77_2 : wc.cell? ⟨gb101, 2, none⟩ = some (.string a0_2) := (blk_cell BK101.out 2).trans rfl; have hcz77_3 : wc.cell? ⟨gb101, 3, none⟩ = some (.slice A0_3 l0_3.length c0_3) := (blk_cell BK101.out 3).trans rfl; have hcz77_4 : wc.cell? ⟨gb101, 4, none⟩ = some (.slice A0_4 l0_4.length c0_4) := (blk_cell BK101.out 4).trans rfl; have hfz77_0 := blk_frozen BK101.out 0; have hfz77_1 := blk_frozen BK101.out 1; have hfz77_2 := blk_frozen BK101.out 2; have hfz77_3 := blk_frozen BK101.out 3; have hfz77_4 := blk_frozen BK101.out 4; have p109 : 0 ≤ (x8_3 : Int) := qT qa6; have q109 : x8_3 < (l0_4.length : Int) := qT qa6; obtain ⟨ad109, A109_3, c109_3, A109_4, c109_4, e109, hx109_0, hx109_1, hx109_2, hx109_3, hx109_4, hl109_3, hi109_3, hl109_4, hi109_4⟩ := at_T46 HR0_4.out x8_3 p109 q109
                    cases e109
                    replace hx109_0 := (HB.out.cell (qL w _ hx109_0)).trans hx109_0; replace hx109_1 := (HB.out.cell (qL w _ hx109_1)).trans hx109_1; replace hx109_2 := (HB.out.cell (qL w _ hx109_2)).trans hx109_2; replace hx109_3 := (HB.out.cell (qL w _ hx109_3)).trans hx109_3; replace hx109_4 := (HB.out.cell (qL w _ hx109_4)).trans hx109_4; have HR109_3 := qO hi109_3; have HC109_3 := qO hl109_3; clear hi109_3 hl109_3; have HR109_4 := qO hi109_4; have HC109_4 := qO hl109_4; clear hi109_4 hl109_4; replace p109 := eq_true p109; replace q109 := eq_true q109
                    go_wp2_with (first | ((with_reducible refine gate_callee (f := 60) rfl ?_); refine goesL_ (some 146) rfl rfl Try.func60 qa10 rfl #[.agg #[.int .i64 ((rd_T46 l0_4 x8_3).f0), .int .i64 ((rd_T46 l0_4 x8_3).f1), .string ((rd_T46 l0_4 x8_3).f2), .slice A109_3 ((rd_T46 l0_4 x8_3).f3).length c109_3, .slice A109_4 ((rd_T46 l0_4 x8_3).f4).length c109_4], .int .i64 (wrap64 (a1 - 1))] rfl qa1 ?_; (with_reducible refine (ih kj56 qa73 ((rd_T46 l0_4 x8_3).f0) ((rd_T46 l0_4 x8_3).f1) ((rd_T46 l0_4 x8_3).f2) _ _ ((rd_T46 l0_4 x8_3).f3) _ _ ((rd_T46 l0_4 x8_3).f4) (wrap64 (a1 - 1)) t110 true _ ?side1 ?side2 ?side3 ?side4 A74.out).mono ?_); (case side1 => exact qa61); (case side2 => exact HC109_3.out); (case side3 => exact qa62); (case side4 => exact HC109_4.out); rintro e w78 ⟨rfl, hb⟩; have hx_ := qHX HB hb qa0; refine ⟨_, rfl, ?_⟩; have n0_ := qO (qB BK101.out hx_ hb); have n1_ := qO (below_step (below_step HB.out hx_) hb); clear BK101; clear HB; have BK101 := n0_; have HB := n1_; clear n0_ n1_; clear hx_; (try clear hb); (try clear hb2); (try clear hk); (try clear hi)))
                    go_ret2
                    exact ⟨qa4, qa2⟩
                   ·rw [if_neg c76] at H
                    have c76b0 : decide (4000 < (wrap64 (x7_3 + t110))) = false := decide_eq_false c76; clear c76; have H' := qO H; clear H; have hcz79_0 : wc.cell? ⟨gb101, 0, none⟩ = some (.int .i64 a0_0) := (blk_cell BK101.out 0).trans rfl; have hcz79_1 : wc.cell? ⟨gb101, 1, none⟩ = some (.int .i64 a0_1) := (blk_cell BK101.out 1).trans rfl; have hcz79_2 : wc.cell? ⟨gb101, 2, none⟩ = some (.string a0_2) := (blk_cell BK101.out 2).trans rfl; have hcz79_3 : wc.cell? ⟨gb101, 3, none⟩ = some (.slice A0_3 l0_3.length c0_3) := (blk_cell BK101.out 3).trans rfl; have hcz79_4 : wc.cell? ⟨gb101, 4, none⟩ = some (.slice A0_4 l0_4.length c0_4) := (blk_cell BK101.out 4).trans rfl; have hfz79_0 := blk_frozen BK101.out 0; have hfz79_1 := blk_frozen BK101.out 1; have hfz79_2 := blk_frozen BK101.out 2; have hfz79_3 := blk_frozen BK101.out 3; have hfz79_4 := blk_frozen BK101.out 4; have p109 : 0 ≤ (x8_3 : Int) := qT qa6; have q109 : x8_3 < (l0_4.length : Int) := qT qa6; obtain ⟨ad109, A109_3, c109_3, A109_4, c109_4, e109, hx109_0, hx109_1, hx109_2, hx109_3, hx109_4, hl109_3, hi109_3, hl109_4, hi109_4⟩ := at_T46 HR0_4.out x8_3 p109 q109
                    cases e109
                    replace hx109_0 := (HB.out.cell (qL w _ hx109_0)).trans hx109_0; replace hx109_1 := (HB.out.cell (qL w _ hx109_1)).trans hx109_1; replace hx109_2 := (HB.out.cell (qL w _ hx109_2)).trans hx109_2; replace hx109_3 := (HB.out.cell (qL w _ hx109_3)).trans hx109_3; replace hx109_4 := (HB.out.cell (qL w _ hx109_4)).trans hx109_4; have HR109_3 := qO hi109_3; have HC109_3 := qO hl109_3; clear hi109_3 hl109_3; have HR109_4 := qO hi109_4; have HC109_4 := qO hl109_4; clear hi109_4 hl109_4; replace p109 := eq_true p109; replace q109 := eq_true q109
                    go_wp2_with (first | ((with_reducible refine gate_callee (f := 60) rfl ?_); refine goesL_ (some 146) rfl rfl Try.func60 qa10 rfl #[.agg #[.int .i64 ((rd_T46 l0_4 x8_3).f0), .int .i64 ((rd_T46 l0_4 x8_3).f1), .string ((rd_T46 l0_4 x8_3).f2), .slice A109_3 ((rd_T46 l0_4 x8_3).f3).length c109_3, .slice A109_4 ((rd_T46 l0_4 x8_3).f4).length c109_4], .int .i64 (wrap64 (a1 - 1))] rfl qa1 ?_; (with_reducible refine (ih kj56 qa73 ((rd_T46 l0_4 x8_3).f0) ((rd_T46 l0_4 x8_3).f1) ((rd_T46 l0_4 x8_3).f2) _ _ ((rd_T46 l0_4 x8_3).f3) _ _ ((rd_T46 l0_4 x8_3).f4) (wrap64 (a1 - 1)) t110 true _ ?side1 ?side2 ?side3 ?side4 A74.out).mono ?_); (case side1 => exact qa61); (case side2 => exact HC109_3.out); (case side3 => exact qa62); (case side4 => exact HC109_4.out); rintro e w80 ⟨rfl, hb⟩; have hx_ := qHX HB hb qa0; refine ⟨_, rfl, ?_⟩; have n0_ := qO (qB BK101.out hx_ hb); have n1_ := qO (below_step (below_step HB.out hx_) hb); clear BK101; clear HB; have BK101 := n0_; have HB := n1_; clear n0_ n1_; clear hx_; (try clear hb); (try clear hb2); (try clear hk); (try clear hi)))
                    go_roundg kj56
                    case measure => have := HJ4.out; have := HJ35.out; have := HK3.out; have := HJ56.out; omega
                    case rel => exact ⟨(wrap64 (x7_3 + t110)), (wrap64 (x8_3 + 1)), qa5, qa5, H', ⟨qa73⟩, ⟨qa9⟩, ⟨qa2⟩⟩
                  ·replace c75 := Bool.eq_false_iff.mpr c75
                   subst c75; have H1 : (some (0, false)) = some (r1, r2) := by rw [if_neg (show ¬ (false = true) by decide)] at H; exact H
                   clear H; have H := H1; clear H1; simp only [Option.some.injEq, Prod.mk.injEq] at H; obtain ⟨rfl, rfl⟩ := H; have hcz81_0 : wc.cell? ⟨gb101, 0, none⟩ = some (.int .i64 a0_0) := (blk_cell BK101.out 0).trans rfl; have hcz81_1 : wc.cell? ⟨gb101, 1, none⟩ = some (.int .i64 a0_1) := (blk_cell BK101.out 1).trans rfl; have hcz81_2 : wc.cell? ⟨gb101, 2, none⟩ = some (.string a0_2) := (blk_cell BK101.out 2).trans rfl; have hcz81_3 : wc.cell? ⟨gb101, 3, none⟩ = some (.slice A0_3 l0_3.length c0_3) := (blk_cell BK101.out 3).trans rfl; have hcz81_4 : wc.cell? ⟨gb101, 4, none⟩ = some (.slice A0_4 l0_4.length c0_4) := (blk_cell BK101.out 4).trans rfl; have hfz81_0 := blk_frozen BK101.out 0; have hfz81_1 := blk_frozen BK101.out 1; have hfz81_2 := blk_frozen BK101.out 2; have hfz81_3 := blk_frozen BK101.out 3; have hfz81_4 := blk_frozen BK101.out 4; have p109 : 0 ≤ (x8_3 : Int) := qT qa6; have q109 : x8_3 < (l0_4.length : Int) := qT qa6; obtain ⟨ad109, A109_3, c109_3, A109_4, c109_4, e109, hx109_0, hx109_1, hx109_2, hx109_3, hx109_4, hl109_3, hi109_3, hl109_4, hi109_4⟩ := at_T46 HR0_4.out x8_3 p109 q109
                   cases e109
                   replace hx109_0 := (HB.out.cell (qL w _ hx109_0)).trans hx109_0; replace hx109_1 := (HB.out.cell (qL w _ hx109_1)).trans hx109_1; replace hx109_2 := (HB.out.cell (qL w _ hx109_2)).trans hx109_2; replace hx109_3 := (HB.out.cell (qL w _ hx109_3)).trans hx109_3; replace hx109_4 := (HB.out.cell (qL w _ hx109_4)).trans hx109_4; have HR109_3 := qO hi109_3; have HC109_3 := qO hl109_3; clear hi109_3 hl109_3; have HR109_4 := qO hi109_4; have HC109_4 := qO hl109_4; clear hi109_4 hl109_4; replace p109 := eq_true p109; replace q109 := eq_true q109
                   go_wp2_with (first | ((with_reducible refine gate_callee (f := 60) rfl ?_); refine goesL_ (some 146) rfl rfl Try.func60 qa10 rfl #[.agg #[.int .i64 ((rd_T46 l0_4 x8_3).f0), .int .i64 ((rd_T46 l0_4 x8_3).f1), .string ((rd_T46 l0_4 x8_3).f2), .slice A109_3 ((rd_T46 l0_4 x8_3).f3).length c109_3, .slice A109_4 ((rd_T46 l0_4 x8_3).f4).length c109_4], .int .i64 (wrap64 (a1 - 1))] rfl qa1 ?_; (with_reducible refine (ih kj56 qa73 ((rd_T46 l0_4 x8_3).f0) ((rd_T46 l0_4 x8_3).f1) ((rd_T46 l0_4 x8_3).f2) _ _ ((rd_T46 l0_4 x8_3).f3) _ _ ((rd_T46 l0_4 x8_3).f4) (wrap64 (a1 - 1)) t110 false _ ?side1 ?side2 ?side3 ?side4 A74.out).mono ?_); (case side1 => exact qa61); (case side2 => exact HC109_3.out); (case side3 => exact qa62); (case side4 => exact HC109_4.out); rintro e w82 ⟨rfl, hb⟩; have hx_ := qHX HB hb qa0; refine ⟨_, rfl, ?_⟩; have n0_ := qO (qB BK101.out hx_ hb); have n1_ := qO (below_step (below_step HB.out hx_) hb); clear BK101; clear HB; have BK101 := n0_; have HB := n1_; clear n0_ n1_; clear hx_; (try clear hb); (try clear hb2); (try clear hk); (try clear hi)))
                   go_ret2
                   exact ⟨qa4, qa2⟩
                 ·rw [if_neg c73] at H
                  exact absurd H qa70
                ·rw [if_neg c72] at H
                 exact absurd H qa70
            ·rw [if_neg c56] at H
             have c56b0 : decide (x8_3 < (l0_4.length : Int)) = false := decide_eq_false c56; clear c56; simp only [Option.some.injEq, Prod.mk.injEq] at H; obtain ⟨rfl, rfl⟩ := H; have hcz83_0 : wr.cell? ⟨gb101, 0, none⟩ = some (.int .i64 a0_0) := (blk_cell BK101.out 0).trans rfl; have hcz83_1 : wr.cell? ⟨gb101, 1, none⟩ = some (.int .i64 a0_1) := (blk_cell BK101.out 1).trans rfl; have hcz83_2 : wr.cell? ⟨gb101, 2, none⟩ = some (.string a0_2) := (blk_cell BK101.out 2).trans rfl; have hcz83_3 : wr.cell? ⟨gb101, 3, none⟩ = some (.slice A0_3 l0_3.length c0_3) := (blk_cell BK101.out 3).trans rfl; have hcz83_4 : wr.cell? ⟨gb101, 4, none⟩ = some (.slice A0_4 l0_4.length c0_4) := (blk_cell BK101.out 4).trans rfl; have hfz83_0 := blk_frozen BK101.out 0; have hfz83_1 := blk_frozen BK101.out 1; have hfz83_2 := blk_frozen BK101.out 2; have hfz83_3 := blk_frozen BK101.out 3; have hfz83_4 := blk_frozen BK101.out 4; go_wp2
             go_ret2
             exact ⟨qa4, qa2⟩


def spec_OutOK.f (k : Nat) (a0_0 : Int) (a0_1 : Int) (a0_2 : ByteArray) (l0_3 : List ByteArray) (l0_4 : List (S46)) : Option (Bool) := (spec_l08OK.f k a0_0 a0_1 a0_2 l0_3 l0_4 20).bind fun bt102 => (some bt102.2)
set_option maxHeartbeats 8000000 in
set_option maxRecDepth 100000 in
theorem spec_OutOK.calls (k : Nat) (a0_0 : Int) (a0_1 : Int) (a0_2 : ByteArray) (A0_3 : Option Addr) (c0_3 : Nat) (l0_3 : List ByteArray) (A0_4 : Option Addr) (c0_4 : Nat) (l0_4 : List (S46)) (r : Bool) (w : World) (hr0_3 : Kd.C Kd.string w A0_3 l0_3.length l0_3) (hc0_3 : l0_3.length ≤ c0_3) (hr0_4 : Kd.C k46 w A0_4 l0_4.length l0_4) (hc0_4 : l0_4.length ≤ c0_4) (h : spec_OutOK.f k a0_0 a0_1 a0_2 l0_3 l0_4 = some r) :
  Calls Try.prog 22 #[.agg #[.int .i64 a0_0, .int .i64 a0_1, .string a0_2, .slice A0_3 l0_3.length c0_3, .slice A0_4 l0_4.length c0_4]] w fun e w' => e = .returned (.bool r) ∧ Below w.heap.size w w' := by
 have hu46 := Try.underlying46; have HR0_3 := qO hr0_3; have HC0_3 := qO hc0_3; clear hr0_3 hc0_3; have HR0_4 := qO hr0_4; have HC0_4 := qO hc0_4; clear hr0_4 hc0_4; have HB := qO (Below.refl w.heap.size w); have H : ((spec_l08OK.f k a0_0 a0_1 a0_2 l0_3 l0_4 20).bind fun bt102 => (some bt102.2)) = some r := h; clear h; replace H := Option.bind_eq_some_iff.mp H; obtain ⟨⟨t102, t103⟩, A20, H⟩ := H; replace H : (some t103) = some r := H; have A2 := qO A20; clear A20; obtain rfl := Option.some.inj H
 go_enter Try.func22, Try.ntmps22
 go_wp2_with (first | ((with_reducible refine gate_dst (N := 1) rfl ?_); refine box_event ?hg (N := 1) ?hd (cs := #[.int .i64 a0_0, .int .i64 a0_1, .string a0_2, .slice A0_3 l0_3.length c0_3, .slice A0_4 l0_4.length c0_4]) (t := 46) ?hr ?_; (case hd => rfl); (case hg => rfl); (case hr => exact qa21); intro gb101 hg w3 hbox hb; have hx_ := qHX HB hb qa0; have n0_ := qO (below_step (below_step HB.out hx_) hb); have n1_ := qO (hbox); have n2_ := qO ((qa15 : w.heap.size ≤ gb101)); have n3_ := n2_; clear HB; have HB := n0_; have BK101 := n1_; have GW101 := n2_; have GE101 := n3_; clear n0_ n1_ n2_ n3_; clear hx_; clear hb hbox hg; have hcz4_0 : w3.cell? ⟨gb101, 0, none⟩ = some (.int .i64 a0_0) := (blk_cell BK101.out 0).trans rfl; have hcz4_1 : w3.cell? ⟨gb101, 1, none⟩ = some (.int .i64 a0_1) := (blk_cell BK101.out 1).trans rfl; have hcz4_2 : w3.cell? ⟨gb101, 2, none⟩ = some (.string a0_2) := (blk_cell BK101.out 2).trans rfl; have hcz4_3 : w3.cell? ⟨gb101, 3, none⟩ = some (.slice A0_3 l0_3.length c0_3) := (blk_cell BK101.out 3).trans rfl; have hcz4_4 : w3.cell? ⟨gb101, 4, none⟩ = some (.slice A0_4 l0_4.length c0_4) := (blk_cell BK101.out 4).trans rfl; have hfz4_0 := blk_frozen BK101.out 0; have hfz4_1 := blk_frozen BK101.out 1; have hfz4_2 := blk_frozen BK101.out 2; have hfz4_3 := blk_frozen BK101.out 3; have hfz4_4 := blk_frozen BK101.out 4) | ((with_reducible refine gate_callee (f := 60) rfl ?_); refine goesL_ (some 7) rfl rfl Try.func60 qa10 rfl #[.agg #[.int .i64 a0_0, .int .i64 a0_1, .string a0_2, .slice A0_3 l0_3.length c0_3, .slice A0_4 l0_4.length c0_4], .int .i64 20] rfl qa1 ?_; (with_reducible refine (spec_l08OK.calls k a0_0 a0_1 a0_2 _ _ l0_3 _ _ l0_4 20 t102 t103 _ ?side1 ?side2 ?side3 ?side4 A2.out).mono ?_); (case side1 => exact qa14); (case side2 => exact HC0_3.out); (case side3 => exact qa19); (case side4 => exact HC0_4.out); rintro e w5 ⟨rfl, hb⟩; have hx_ := qHX HB hb qa0; refine ⟨_, rfl, ?_⟩; have n0_ := qO (qB BK101.out hx_ hb); have n1_ := qO (below_step (below_step HB.out hx_) hb); clear BK101; clear HB; have BK101 := n0_; have HB := n1_; clear n0_ n1_; clear hx_; (try clear hb); (try clear hb2); (try clear hk); (try clear hi)))
 go_ret
 exact ⟨qa4, qa2⟩


def spec_l00Digits.f : Nat → Int → Option (ByteArray)
 | 0, _ => none
 | k + 1, a0 => if a0 = (-9223372036854775808) then (some (⟨#[45, 57, 50, 50, 51, 51, 55, 50, 48, 51, 54, 56, 53, 52, 55, 55, 53, 56, 48, 56]⟩ : ByteArray)) else (if a0 < 0 then ((spec_l00Digits.f k (wrap64 (-a0))).bind fun t101 => (if 1 + t101.size ≤ 9223372036854775807 then (some ((⟨#[45]⟩ : ByteArray) ++ t101)) else (none))) else (if a0 < 10 then (some (strOfNums (([(wrap64 (48 + a0)) % 256] : List Int)))) else ((spec_l00Digits.f k (wrap64 (Int.tdiv a0 10))).bind fun t105 => ((some (([(wrap64 (48 + (Int.tmod a0 10))) % 256] : List Int) : List Int)).bind fun y106 => (if t105.size + (strOfNums y106).size ≤ 9223372036854775807 then (some (t105 ++ (strOfNums y106))) else (none))))))
def spec_l00Digits.T7 : Bool × List (List Nat × List Nat) := (true, [([], []), ([0], [0]), ([1], [1]), ([], []), ([3], [3]), ([4], [4]), ([5], [5]), ([6], [6]), ([7], [7]), ([2, 8], [2, 8]), ([9, 2, 0, 1, 2, 3, 4, 5, 6, 7, 8, 9], [9])])
def spec_l00Digits.B7 : List Nat := [0, 1, 3, 0, 8, 24, 56, 120, 248, 511, 1023]
theorem spec_l00Digits.tab7 : rtab .any (opsOf Try.f103 7) = spec_l00Digits.T7 := by kernel_rfl
theorem spec_l00Digits.bits7 : waitsOk spec_l00Digits.T7.2 spec_l00Digits.B7 = true := by kernel_rfl
def spec_l00Digits.y0 : Array Bool := #[false, false, false, false, false, false, false, false, false, false, false]
def spec_l00Digits.y1 : Array Bool := #[true, false, false, false, false, false, false, false, false, false, false]
def spec_l00Digits.y2 : Array Bool := #[true, true, false, false, false, false, false, false, false, false, false]
def spec_l00Digits.y3 : Array Bool := #[true, true, false, true, false, false, false, false, false, false, false]
def spec_l00Digits.y4 : Array Bool := #[true, true, false, true, true, false, false, false, false, false, false]
def spec_l00Digits.y5 : Array Bool := #[true, true, false, true, true, true, false, false, false, false, false]
def spec_l00Digits.y6 : Array Bool := #[true, true, false, true, true, true, true, false, false, false, false]
def spec_l00Digits.y7 : Array Bool := #[true, true, true, true, true, true, true, true, true, false, false]
def spec_l00Digits.y8 : Array Bool := #[true, true, true, true, true, true, true, false, false, false, false]
def spec_l00Digits.y9 : Array Bool := #[true, true, false, true, true, true, true, true, false, false, false]
def spec_l00Digits.y10 : Array Bool := #[true, true, true, true, true, true, true, true, false, false, false]
def spec_l00Digits.y11 : Array Bool := #[true, true, false, true, true, true, true, true, true, false, false]
def spec_l00Digits.y12 : Array Bool := #[true, true, true, true, true, true, true, true, true, true, false]
def spec_l00Digits.y13 : Array Bool := #[true, true, true, true, true, true, true, true, true, true, true]
set_option maxHeartbeats 8000000 in
set_option maxRecDepth 100000 in
theorem spec_l00Digits.calls (k : Nat) : ∀ (a0 : Int) (r : ByteArray) (w : World) (h : spec_l00Digits.f k a0 = some r),
  Calls Try.prog 103 #[.int .i64 a0] w fun e w' => e = .returned (.string r) ∧ Below w.heap.size w w' := by
 induction k using Nat.strongRecOn with
 | _ k ih =>
 intro a0 r w h
 cases k with
 | zero => exact absurd h (by simp [spec_l00Digits.f])
 | succ k =>
 simp only [spec_l00Digits.f] at h; have HB := qO (Below.refl w.heap.size w); have H : (if a0 = (-9223372036854775808) then (some (⟨#[45, 57, 50, 50, 51, 51, 55, 50, 48, 51, 54, 56, 53, 52, 55, 55, 53, 56, 48, 56]⟩ : ByteArray)) else (if a0 < 0 then ((spec_l00Digits.f k (wrap64 (-a0))).bind fun t101 => (if 1 + t101.size ≤ 9223372036854775807 then (some ((⟨#[45]⟩ : ByteArray) ++ t101)) else (none))) else (if a0 < 10 then (some (strOfNums (([(wrap64 (48 + a0)) % 256] : List Int)))) else ((spec_l00Digits.f k (wrap64 (Int.tdiv a0 10))).bind fun t105 => ((some (([(wrap64 (48 + (Int.tmod a0 10))) % 256] : List Int) : List Int)).bind fun y106 => (if t105.size + (strOfNums y106).size ≤ 9223372036854775807 then (some (t105 ++ (strOfNums y106))) else (none))))))) = some r := h; clear h
 by_cases c2 : a0 = (-9223372036854775808)
 ·rw [if_pos c2] at H
  have c2b0 : (a0 == (-9223372036854775808)) = true := beq_iff_eq.mpr c2; have c2b1 : (a0 != (-9223372036854775808)) = false := bne_eq_false_iff_eq.mpr c2; clear c2; obtain rfl := Option.some.inj H
  go_enter Try.func103, Try.ntmps103
  go_wp2
  go_ret
  exact ⟨qa4, qa12⟩
 ·rw [if_neg c2] at H
  have c2b0 : (a0 == (-9223372036854775808)) = false := beq_eq_false_iff_ne.mpr c2; have c2b1 : (a0 != (-9223372036854775808)) = true := bne_iff_ne.mpr c2
  by_cases c3 : a0 < 0
  ·rw [if_pos c3] at H
   have c3b0 : decide (a0 < 0) = true := decide_eq_true c3; clear c3; replace H := Option.bind_eq_some_iff.mp H; obtain ⟨t101, A40, H⟩ := H; replace H : (if 1 + t101.size ≤ 9223372036854775807 then (some ((⟨#[45]⟩ : ByteArray) ++ t101)) else (none)) = some r := H; have A4 := qO A40; clear A40
   by_cases c5 : 1 + t101.size ≤ 9223372036854775807
   ·rw [if_pos c5] at H
    have c5b0 := eq_true c5; have c5b1 : decide (1 + t101.size ≤ 9223372036854775807) = true := decide_eq_true c5
    try have c5b2 : (9223372036854775807 < 1 + t101.size) = False := eq_false (Nat.not_lt.2 c5)
    obtain rfl := Option.some.inj H
    go_enter Try.func103, Try.ntmps103
    go_wp2_with (first | ((with_reducible refine gate_callee (f := 103) rfl ?_); refine goesL_ (some 9) rfl rfl Try.func103 qa10 rfl #[.int .i64 (wrap64 (-a0))] rfl qa1 ?_; (with_reducible refine (ih k qa22 (wrap64 (-a0)) t101 _ A4.out).mono ?_); rintro e w6 ⟨rfl, hb⟩; have hx_ := qHX HB hb qa0; refine ⟨_, rfl, ?_⟩; have n0_ := qO (below_step (below_step HB.out hx_) hb); clear HB; have HB := n0_; clear n0_; clear hx_; (try clear hb); (try clear hb2); (try clear hk); (try clear hi)))
    go_ret
    exact ⟨qa4, qa12⟩
   ·rw [if_neg c5] at H
    exact absurd H qa70
  ·rw [if_neg c3] at H
   have c3b0 : decide (a0 < 0) = false := decide_eq_false c3; clear c3
   by_cases c7 : a0 < 10
   ·rw [if_pos c7] at H
    have c7b0 : decide (a0 < 10) = true := decide_eq_true c7; clear c7; obtain ⟨y102, hy102⟩ : ∃ y_ : List Int, y_ = (([(wrap64 (48 + a0)) % 256] : List Int)) := ⟨_, rfl⟩; replace H : (some (strOfNums y102)) = some r := by first | (rw [hy102]; with_reducible exact H) | (have H2_ := (Option.bind_some _ _).symm.trans H; rw [hy102]; with_reducible exact H2_) | (have H2_ := (Option.bind_some _ _).symm.trans H; with_reducible exact H2_) | with_reducible exact H | (rw [hy102]; exact H) | exact H
    have Ny102 := qO hy102; clear hy102; obtain rfl := Option.some.inj H
    go_enter Try.func103, Try.ntmps103
    go_wp2_with (first | ((with_reducible refine gate_dst (N := 16) rfl ?_); refine Kd.R_lit (Kd.int .u8) _ 5 ?hg (N := 16) ?hd (xs := ([(wrap64 (48 + a0)) % 256] : List Int)) (inner := [.int .u8 ((wrap64 (48 + a0)) % 256)]) (ok := fun _ => True) (okp := fun _ => True) ?hr ?hp (fun _ hk => hk) trivial (Below.refl _ _) (Nat.le_refl _) qa70 ?_; (case hd => rfl); (case hg => rfl); (case hr => exact qa21); (case hp => exact (Reps.one (show Kd.M (Kd.int .u8) _ _ _ ((wrap64 (48 + a0)) % 256) [.int .u8 ((wrap64 (48 + a0)) % 256)] from rfl) (Reps.none _ _))); intro v103 w8 ho9 hb hg_ hnew_; clear hg_ hnew_; (first | rw [← Ny102.out] at ho9 | (simp only [Int.reduceToNat] at ho9; rw [← Ny102.out] at ho9)); have n0_ := qO (Kd.R_lower ho9 (below_size qa12)); have n1_ := qO (below_step qa12 hb); clear HB; have HO104 := n0_; have HB := n1_; clear n0_ n1_; clear hb ho9; have hcv10 := own_string (P := Try.prog) Try.underlying143 Try.underlying5 Try.underlying9 (Kd.own_of_R HO104.out)))
    go_ret
    exact ⟨qa4, qa12⟩
   ·rw [if_neg c7] at H
    have c7b0 : decide (a0 < 10) = false := decide_eq_false c7; clear c7; replace H := Option.bind_eq_some_iff.mp H; obtain ⟨t105, A110, H⟩ := H; replace H : ((some (([(wrap64 (48 + (Int.tmod a0 10))) % 256] : List Int) : List Int)).bind fun y106 => (if t105.size + (strOfNums y106).size ≤ 9223372036854775807 then (some (t105 ++ (strOfNums y106))) else (none))) = some r := H; have A11 := qO A110; clear A110; obtain ⟨y106, hy106⟩ : ∃ y_ : List Int, y_ = (([(wrap64 (48 + (Int.tmod a0 10))) % 256] : List Int)) := ⟨_, rfl⟩; replace H : (if t105.size + (strOfNums y106).size ≤ 9223372036854775807 then (some (t105 ++ (strOfNums y106))) else (none)) = some r := by first | (rw [hy106]; with_reducible exact H) | (have H2_ := (Option.bind_some _ _).symm.trans H; rw [hy106]; with_reducible exact H2_) | (have H2_ := (Option.bind_some _ _).symm.trans H; with_reducible exact H2_) | with_reducible exact H | (rw [hy106]; exact H) | exact H
    have Ny106 := qO hy106; clear hy106
    by_cases c12 : t105.size + (strOfNums y106).size ≤ 9223372036854775807
    ·rw [if_pos c12] at H
     have c12b0 := eq_true c12; have c12b1 : decide (t105.size + (strOfNums y106).size ≤ 9223372036854775807) = true := decide_eq_true c12
     try have c12b2 : (9223372036854775807 < t105.size + (strOfNums y106).size) = False := eq_false (Nat.not_lt.2 c12)
     obtain rfl := Option.some.inj H
     go_enter Try.func103, Try.ntmps103
     try go_wp2
     have n0_ := qO (qbD HB.out); clear HB; have HB := n0_; clear n0_; refine start_ (n := 11) (S := fun w' => True) (ds := []) spec_l00Digits.y0 qa10 rfl rfl trivial (fun hHeld => ?_); refine with_tabW spec_l00Digits.tab7 spec_l00Digits.bits7 (fun HT_ HW_ => ?_); generalize w.drew = w13 at HB hHeld ⊢; refine pure_ (i := 0) (N := some 18) (v := ?_) (a' := ?_) spec_l00Digits.y1 rfl rfl (any_of HT_.out qa10) (fun _ _ _ h => h) (Or.inl ⟨by rfl, ?_⟩) ?_ ?_; rotate_left; exact qa11; rotate_left; exact qa3; refine pure_ (i := 1) (N := some 19) (v := ?_) (a' := ?_) spec_l00Digits.y2 rfl rfl (any_of HT_.out qa10) (fun _ _ _ h => h) (Or.inl ⟨by rfl, ?_⟩) ?_ ?_; rotate_left; exact qa11; rotate_left; exact qa3; refine pure_ (i := 3) (N := some 21) (v := ?_) (a' := ?_) spec_l00Digits.y3 rfl rfl (any_of HT_.out qa10) (fun _ _ _ h => h) (Or.inl ⟨by rfl, ?_⟩) ?_ ?_; rotate_left; exact qa11; rotate_left; exact qa3; refine pure_ (i := 4) (N := some 22) (v := ?_) (a' := ?_) spec_l00Digits.y4 rfl rfl (any_of HT_.out qa10) (fun _ _ _ h => h) (Or.inl ⟨by rfl, ?_⟩) ?_ ?_; rotate_left; exact qa11; rotate_left; exact qa3; refine pure_ (i := 5) (N := some 23) (v := ?_) (a' := ?_) spec_l00Digits.y5 rfl rfl (any_of HT_.out qa10) (fun _ _ _ h => h) (Or.inl ⟨by rfl, ?_⟩) ?_ ?_; rotate_left; exact qa11; rotate_left; exact qa3; refine pure_ (i := 6) (N := some 24) (v := ?_) (a' := ?_) spec_l00Digits.y6 rfl rfl (any_of HT_.out qa10) (fun _ _ _ h => h) (Or.inl ⟨by rfl, ?_⟩) ?_ ?_; rotate_left; exact qa11; rotate_left; exact qa3; refine join_ (σ := Value) 2 spec_l00Digits.y7 (fun s_ => [(20, .string t105), (25, s_), (26, .string (strOfNums y106))]) (fun s_ w' => (Kd.R (Kd.int .u8) 5 w' w.heap.size (fun _ => True) s_ y106) ∧ (Below w.heap.size w w')) ?_ ?_; rotate_left
     ·intro hCont
      refine two_ (i := 2) (j := 7) (Ni := some 20) (Nj := some 25) spec_l00Digits.y8 spec_l00Digits.y9 rfl rfl rfl rfl (two_of HT_.out qa10) qa68 qa68 (fun K hK => ?_) (fun K hK => ?_)
      ·skip
       refine goes_ Try.func103 qa10 rfl #[.int .i64 (wrap64 (Int.tdiv a0 10))] (by rfl) rfl rfl qa1 ?_; (with_reducible refine (ih k qa22 (wrap64 (Int.tdiv a0 10)) t105 _ A11.out).mono ?_); rintro e w14 ⟨rfl, hb⟩; have hx_ := qHX HB hb qa0; refine ⟨_, rfl, ?_⟩; have n0_ := qO (below_step (below_step HB.out hx_) hb); clear HB; have HB := n0_; clear n0_; clear hx_; (try clear hb); (try clear hb2); (try clear hk); (try clear hi); refine hK.out _ _ trivial (fun hHeld => ?_); clear hK K; refine norm_ (a' := ?_) ?_ ?_; rotate_left
       ·exact qa16
       refine one_ (i := 7) (N := some 25) spec_l00Digits.y10 rfl rfl (one_of HT_.out qa10) qa68 (fun K hK => ?_); refine Kd.R_lit_step (Kd.int .u8) _ 5 ?hg (N := 25) ?hd (xs := ([(wrap64 (48 + (Int.tmod a0 10))) % 256] : List Int)) (inner := [.int .u8 ((wrap64 (48 + (Int.tmod a0 10))) % 256)]) (ok := fun _ => True) (okp := fun _ => True) ?hr ?hp (fun _ hk => hk) trivial (Below.refl _ _) (Nat.le_refl _) qa70 ?_; (case hd => rfl); (case hg => rfl); (case hr => exact qa21); (case hp => exact qa72); intro v107 w15 ho16 hb hg_ hnew_; clear hg_ hnew_; (first | rw [← Ny106.out] at ho16 | (simp only [Int.reduceToNat] at ho16; rw [← Ny106.out] at ho16)); have n0_ := qO (Kd.R_lower ho16 (below_size qa12)); have n1_ := qO (below_step qa12 hb); clear HB; have HO108 := n0_; have HB := n1_; clear n0_ n1_; clear hb ho16; refine hK.out _ _ trivial (fun hHeld => ?_); clear hK K; refine norm_ (a' := ?_) ?_ ?_; rotate_left
       ·exact qa16
       refine one_ (i := 8) (N := some 26) spec_l00Digits.y7 rfl rfl (one_of HT_.out qa10) qa68 (fun K hK => ?_); have hcv17 := own_string (P := Try.prog) Try.underlying143 Try.underlying5 Try.underlying9 (Kd.own_of_R HO108.out); refine value_ (w1 := ?_) (v := ?_) (by rfl) rfl ?_ ?_; rotate_left 2
       ·go_simp
        constructor
        ·rfl
        ·rfl
       clear hcv17; refine hK.out _ _ trivial (fun hHeld => ?_); clear hK K; refine norm_ (a' := ?_) ?_ ?_; rotate_left
       ·exact qa16
       exact norm_ (by simp only [putAll, Act.put, qzA, qzB, qzC]) (hCont (v107) _ ⟨(by (with_reducible repeat (first | apply Kd.R_alloc | apply Kd.R_drewN | apply Kd.R_drew)); exact HO108.out), (by repeat (first | (with_reducible first | exact HB.out | apply qbA | apply qbN | apply qbD) | exact HB.out))⟩)
      ·skip
       refine Kd.R_lit_step (Kd.int .u8) _ 5 ?hg (N := 25) ?hd (xs := ([(wrap64 (48 + (Int.tmod a0 10))) % 256] : List Int)) (inner := [.int .u8 ((wrap64 (48 + (Int.tmod a0 10))) % 256)]) (ok := fun _ => True) (okp := fun _ => True) ?hr ?hp (fun _ hk => hk) trivial (Below.refl _ _) (Nat.le_refl _) qa70 ?_; (case hd => rfl); (case hg => rfl); (case hr => exact qa21); (case hp => exact qa72); intro v107 w14 ho15 hb hg_ hnew_; clear hg_ hnew_; (first | rw [← Ny106.out] at ho15 | (simp only [Int.reduceToNat] at ho15; rw [← Ny106.out] at ho15)); have n0_ := qO (Kd.R_lower ho15 (below_size qa12)); have n1_ := qO (below_step qa12 hb); clear HB; have HO108 := n0_; have HB := n1_; clear n0_ n1_; clear hb ho15; refine hK.out _ _ trivial (fun hHeld => ?_); clear hK K; refine norm_ (a' := ?_) ?_ ?_; rotate_left
       ·exact qa16
       refine two_ (i := 2) (j := 8) (Ni := some 20) (Nj := some 26) spec_l00Digits.y10 spec_l00Digits.y11 rfl rfl rfl rfl (two_of HT_.out qa10) qa68 qa68 (fun K hK => ?_) (fun K hK => ?_)
       ·skip
        refine goes_ Try.func103 qa10 rfl #[.int .i64 (wrap64 (Int.tdiv a0 10))] (by rfl) rfl rfl qa1 ?_; (with_reducible refine (ih k qa22 (wrap64 (Int.tdiv a0 10)) t105 _ A11.out).mono ?_); rintro e w16 ⟨rfl, hb⟩; have hx_ := qHX HB hb qa0; refine ⟨_, rfl, ?_⟩; have n0_ := qO (Kd.R_below qa82 hb); have n1_ := qO (below_step (below_step HB.out hx_) hb); clear HO108; clear HB; have HO108 := n0_; have HB := n1_; clear n0_ n1_; clear hx_; (try clear hb); (try clear hb2); (try clear hk); (try clear hi); refine hK.out _ _ trivial (fun hHeld => ?_); clear hK K; refine norm_ (a' := ?_) ?_ ?_; rotate_left
        ·exact qa16
        refine one_ (i := 8) (N := some 26) spec_l00Digits.y7 rfl rfl (one_of HT_.out qa10) qa68 (fun K hK => ?_); have hcv17 := own_string (P := Try.prog) Try.underlying143 Try.underlying5 Try.underlying9 (Kd.own_of_R HO108.out); refine value_ (w1 := ?_) (v := ?_) (by rfl) rfl ?_ ?_; rotate_left 2
        ·go_simp
         constructor
         ·rfl
         ·rfl
        clear hcv17; refine hK.out _ _ trivial (fun hHeld => ?_); clear hK K; refine norm_ (a' := ?_) ?_ ?_; rotate_left
        ·exact qa16
        exact norm_ (by simp only [putAll, Act.put, qzA, qzB, qzC]) (hCont (v107) _ ⟨(by (with_reducible repeat (first | apply Kd.R_alloc | apply Kd.R_drewN | apply Kd.R_drew)); exact HO108.out), (by repeat (first | (with_reducible first | exact HB.out | apply qbA | apply qbN | apply qbD) | exact HB.out))⟩)
       ·skip
        have hcv16 := own_string (P := Try.prog) Try.underlying143 Try.underlying5 Try.underlying9 (Kd.own_of_R HO108.out); refine value_ (w1 := ?_) (v := ?_) (by rfl) rfl ?_ ?_; rotate_left 2
        ·go_simp
         constructor
         ·rfl
         ·rfl
        clear hcv16; refine hK.out _ _ trivial (fun hHeld => ?_); clear hK K; refine norm_ (a' := ?_) ?_ ?_; rotate_left
        ·exact qa16
        refine one_ (i := 2) (N := some 20) spec_l00Digits.y7 rfl rfl (one_of HT_.out qa10) qa68 (fun K hK => ?_); refine goes_ Try.func103 qa10 rfl #[.int .i64 (wrap64 (Int.tdiv a0 10))] (by rfl) rfl rfl qa1 ?_; (with_reducible refine (ih k qa22 (wrap64 (Int.tdiv a0 10)) t105 _ A11.out).mono ?_); rintro e w17 ⟨rfl, hb⟩; have hx_ := qHX HB hb qa0; refine ⟨_, rfl, ?_⟩; have n0_ := qO (Kd.R_below qa82 hb); have n1_ := qO (below_step (below_step HB.out hx_) hb); clear HO108; clear HB; have HO108 := n0_; have HB := n1_; clear n0_ n1_; clear hx_; (try clear hb); (try clear hb2); (try clear hk); (try clear hi); refine hK.out _ _ trivial (fun hHeld => ?_); clear hK K; refine norm_ (a' := ?_) ?_ ?_; rotate_left
        ·exact qa16
        exact norm_ (by simp only [putAll, Act.put, qzA, qzB, qzC]) (hCont (v107) _ ⟨(by (with_reducible repeat (first | apply Kd.R_alloc | apply Kd.R_drewN | apply Kd.R_drew)); exact HO108.out), (by repeat (first | (with_reducible first | exact HB.out | apply qbA | apply qbN | apply qbD) | exact HB.out))⟩)
     rintro v107 w18 ⟨h0_, h1_⟩; have n0_ : Aside0 (Kd.R (Kd.int .u8) 5 w18 w.heap.size (fun _ => True) v107 y106) := ⟨h0_⟩; have n1_ : Aside0 (Below w.heap.size w w18) := ⟨h1_⟩; clear HB; clear h0_ h1_; have HO108 := n0_; have HB := n1_; clear n0_ n1_; have hHeld := trivial; refine norm_ (a' := ?_) ?_ ?_; rotate_left
     ·simp only [putAll, Act.put, qzA, qzB, qzC]
      rfl
     refine pure_ (i := 9) (N := some 27) (v := ?_) (a' := ?_) spec_l00Digits.y12 rfl rfl (any_of HT_.out qa10) (fun _ _ _ h => h) (Or.inl ⟨by rfl, ?_⟩) ?_ ?_; rotate_left; exact qa11; rotate_left; exact qa3; refine pure_ (i := 10) (N := some 2) (v := ?_) (a' := ?_) spec_l00Digits.y13 rfl rfl (any_of HT_.out qa10) (fun _ _ _ h => h) (Or.inl ⟨by rfl, ?_⟩) ?_ ?_; rotate_left; exact qa11; rotate_left; exact qa3; refine done_ (done_of HT_.out qa10) ?_
     try go_wp2
     go_ret
     exact ⟨qa4, qa12⟩
    ·rw [if_neg c12] at H
     exact absurd H qa70


def spec_l00Join.l0 : Nat → List ByteArray → ByteArray → ByteArray → Int → Option (ByteArray)
 | 0, _, _, _, _ => none
 | k + 1, x0, x1, x5, x6 => if x6 < (x0.length : Int) then (if x6 > 0 then (if x5.size + x1.size ≤ 9223372036854775807 then (if 0 ≤ x6 then (if (x5 ++ x1).size + (rdOf ByteArray.empty x0 x6).size ≤ 9223372036854775807 then (spec_l00Join.l0 k x0 x1 ((x5 ++ x1) ++ (rdOf ByteArray.empty x0 x6)) (wrap64 (x6 + 1))) else (none)) else (none)) else (none)) else (if 0 ≤ x6 then (if x5.size + (rdOf ByteArray.empty x0 x6).size ≤ 9223372036854775807 then (spec_l00Join.l0 k x0 x1 (x5 ++ (rdOf ByteArray.empty x0 x6)) (wrap64 (x6 + 1))) else (none)) else (none))) else (some x5)
def spec_l00Join.f (k : Nat) (l0 : List ByteArray) (a1 : ByteArray) : Option (ByteArray) := spec_l00Join.l0 k l0 a1 (⟨#[]⟩ : ByteArray) 0
set_option maxHeartbeats 8000000 in
set_option maxRecDepth 100000 in
theorem spec_l00Join.calls (k : Nat) (A0 : Option Addr) (c0 : Nat) (l0 : List ByteArray) (a1 : ByteArray) (r : ByteArray) (w : World) (hr0 : Kd.C Kd.string w A0 l0.length l0) (hc0 : l0.length ≤ c0) (h : spec_l00Join.f k l0 a1 = some r) :
  Calls Try.prog 104 #[.slice A0 l0.length c0, .string a1] w fun e w' => e = .returned (.string r) ∧ Drawn0 w w' := by
 have HR0 := qO hr0; have HC0 := qO hc0; clear hr0 hc0; have H : (spec_l00Join.l0 k l0 a1 (⟨#[]⟩ : ByteArray) 0) = some r := h; clear h; have H' := qO H; clear H
 go_enter Try.func104, Try.ntmps104
 go_wp2
 go_loopg [5, 6] k (fun kq v5 v6 w' => ∃ (x5_1 : ByteArray) (x6_1 : Int), v5 = .string x5_1 ∧ v6 = .int .i64 x6_1 ∧ Aside0 (spec_l00Join.l0 kq l0 a1 x5_1 x6_1 = some r) ∧ Aside0 (kq ≤ k) ∧ Drawn0 w w')
 case atStart => exact ⟨((⟨#[]⟩ : ByteArray)), (0), qa5, qa5, H', ⟨Nat.le_refl _⟩, qa13⟩
 case round =>
  clear H'
  try clear c1
  try clear p2
  obtain ⟨x5_1, x6_1, rfl, rfl, HA, HK1, ⟨m1, rfl⟩⟩ := hrel
  cases gk with
  | zero => exact absurd HA.out (by simp [spec_l00Join.l0])
  | succ k1 =>
   have H := HA.out; clear HA; simp only [spec_l00Join.l0] at H
   by_cases c3 : x6_1 < (l0.length : Int)
   ·rw [if_pos c3] at H
    have c3b0 : decide (x6_1 < (l0.length : Int)) = true := decide_eq_true c3; clear c3
    by_cases c4 : x6_1 > 0
    ·rw [if_pos c4] at H
     have c4b0 : decide (0 < x6_1) = true := decide_eq_true c4; clear c4
     by_cases c5 : x5_1.size + a1.size ≤ 9223372036854775807
     ·rw [if_pos c5] at H
      have c5b0 := eq_true c5; have c5b1 : decide (x5_1.size + a1.size ≤ 9223372036854775807) = true := decide_eq_true c5
      try have c5b2 : (9223372036854775807 < x5_1.size + a1.size) = False := eq_false (Nat.not_lt.2 c5)
      by_cases c6 : 0 ≤ x6_1
      ·rw [if_pos c6] at H
       have c6b0 : decide (0 ≤ x6_1) = true := decide_eq_true c6; clear c6
       by_cases c7 : (x5_1 ++ a1).size + (rdOf ByteArray.empty l0 x6_1).size ≤ 9223372036854775807
       ·rw [if_pos c7] at H
        have c7z : x5_1.size + a1.size + (rdOf ByteArray.empty l0 x6_1).size ≤ 9223372036854775807 := by (have h_ := c7; (repeat rw [ByteArray.size_append] at h_); exact h_)
        have c7zt := eq_true c7z; have c7zf : (9223372036854775807 < x5_1.size + a1.size + (rdOf ByteArray.empty l0 x6_1).size) = False := eq_false (Nat.not_lt.2 c7z); have c7b0 := eq_true c7; have c7b1 : decide ((x5_1 ++ a1).size + (rdOf ByteArray.empty l0 x6_1).size ≤ 9223372036854775807) = true := decide_eq_true c7
        try have c7b2 : (9223372036854775807 < (x5_1 ++ a1).size + (rdOf ByteArray.empty l0 x6_1).size) = False := eq_false (Nat.not_lt.2 c7)
        have H' := qO H; clear H; have p101 : 0 ≤ (x6_1 : Int) := qT qa6; have q101 : x6_1 < (l0.length : Int) := qT qa6; obtain ⟨ad101, e101, hx101_0⟩ := Kd.at_string HR0.out x6_1 p101 q101
        cases e101
        replace p101 := eq_true p101; replace q101 := eq_true q101; go_wp2
        go_roundg k1
        case measure => have := HK1.out; omega
        case rel => exact ⟨((x5_1 ++ a1) ++ (rdOf ByteArray.empty l0 x6_1)), (wrap64 (x6_1 + 1)), qa5, qa5, H', ⟨qa66⟩, qa13⟩
       ·rw [if_neg c7] at H
        exact absurd H qa70
      ·rw [if_neg c6] at H
       exact absurd H qa70
     ·rw [if_neg c5] at H
      exact absurd H qa70
    ·rw [if_neg c4] at H
     have c4b0 : decide (0 < x6_1) = false := decide_eq_false c4; clear c4
     by_cases c8 : 0 ≤ x6_1
     ·rw [if_pos c8] at H
      have c8b0 : decide (0 ≤ x6_1) = true := decide_eq_true c8; clear c8
      by_cases c9 : x5_1.size + (rdOf ByteArray.empty l0 x6_1).size ≤ 9223372036854775807
      ·rw [if_pos c9] at H
       have c9b0 := eq_true c9; have c9b1 : decide (x5_1.size + (rdOf ByteArray.empty l0 x6_1).size ≤ 9223372036854775807) = true := decide_eq_true c9
       try have c9b2 : (9223372036854775807 < x5_1.size + (rdOf ByteArray.empty l0 x6_1).size) = False := eq_false (Nat.not_lt.2 c9)
       have H' := qO H; clear H; have p102 : 0 ≤ (x6_1 : Int) := qT qa6; have q102 : x6_1 < (l0.length : Int) := qT qa6; obtain ⟨ad102, e102, hx102_0⟩ := Kd.at_string HR0.out x6_1 p102 q102
       cases e102
       replace p102 := eq_true p102; replace q102 := eq_true q102; go_wp2
       go_roundg k1
       case measure => have := HK1.out; omega
       case rel => exact ⟨(x5_1 ++ (rdOf ByteArray.empty l0 x6_1)), (wrap64 (x6_1 + 1)), qa5, qa5, H', ⟨qa66⟩, qa13⟩
      ·rw [if_neg c9] at H
       exact absurd H qa70
     ·rw [if_neg c8] at H
      exact absurd H qa70
   ·rw [if_neg c3] at H
    have c3b0 : decide (x6_1 < (l0.length : Int)) = false := decide_eq_false c3; clear c3; obtain rfl := Option.some.inj H; go_wp2
    go_ret
    exact ⟨qa5, qa13⟩


mutual
def spec_l08Text.j0 : Nat → ByteArray → Int → Int → ByteArray → List ByteArray → List (S46) → Option (ByteArray)
 | 0, _, _, _, _, _, _ => none
 | k + 1, x3, x102000, x102001, x102002, x102003, x102004 => spec_l08Text.l0 k x3 (([] : List ByteArray)) 0 x102000 x102001 x102002 x102003 x102004
def spec_l08Text.l0 : Nat → ByteArray → List ByteArray → Int → Int → Int → ByteArray → List ByteArray → List (S46) → Option (ByteArray)
 | 0, _, _, _, _, _, _, _, _ => none
 | k + 1, x3, x4, x5, x102000, x102001, x102002, x102003, x102004 => if x5 < (x102004.length : Int) then (if 0 ≤ x5 then ((spec_l08Text.f k ((rd_T46 x102004 x5).f0) ((rd_T46 x102004 x5).f1) ((rd_T46 x102004 x5).f2) ((rd_T46 x102004 x5).f3) ((rd_T46 x102004 x5).f4)).bind fun t107 => (if x102000 = 4 then (if x5 < (x102003.length : Int) then (if 1 + (rdOf ByteArray.empty x102003 x5).size ≤ 9223372036854775807 then (if ((⟨#[34]⟩ : ByteArray) ++ (rdOf ByteArray.empty x102003 x5)).size + 2 ≤ 9223372036854775807 then (if (((⟨#[34]⟩ : ByteArray) ++ (rdOf ByteArray.empty x102003 x5)) ++ (⟨#[34, 58]⟩ : ByteArray)).size + t107.size ≤ 9223372036854775807 then (if x4.length < 8796093022208 then (spec_l08Text.l0 k x3 (x4 ++ [(((⟨#[34]⟩ : ByteArray) ++ (rdOf ByteArray.empty x102003 x5)) ++ (⟨#[34, 58]⟩ : ByteArray)) ++ t107]) (wrap64 (x5 + 1)) x102000 x102001 x102002 x102003 x102004) else (none)) else (none)) else (none)) else (none)) else (none)) else (if x4.length < 8796093022208 then (spec_l08Text.l0 k x3 (x4 ++ [t107]) (wrap64 (x5 + 1)) x102000 x102001 x102002 x102003 x102004) else (none)))) else (none)) else (if 0 ≤ 1 then (if 1 ≤ (x3.size : Int) then ((spec_l00Join.f k x4 (⟨#[44]⟩ : ByteArray)).bind fun t115 => (if (x3.extract 0 1).size + t115.size ≤ 9223372036854775807 then (if ((x3.extract 0 1) ++ t115).size + (x3.extract 1 x3.size).size ≤ 9223372036854775807 then (some (((x3.extract 0 1) ++ t115) ++ (x3.extract 1 x3.size))) else (none)) else (none))) else (none)) else (none))
def spec_l08Text.f : Nat → Int → Int → ByteArray → List ByteArray → List (S46) → Option (ByteArray)
 | 0, _, _, _, _, _ => none
 | k + 1, a0_0, a0_1, a0_2, l0_3, l0_4 => if a0_0 = 0 then (some (⟨#[110, 117, 108, 108]⟩ : ByteArray)) else (if a0_0 = 1 then ((spec_l00Digits.f k a0_1).bind fun t102 => (some t102)) else (if a0_0 = 2 then (if 1 + a0_2.size ≤ 9223372036854775807 then (if ((⟨#[34]⟩ : ByteArray) ++ a0_2).size + 1 ≤ 9223372036854775807 then (some (((⟨#[34]⟩ : ByteArray) ++ a0_2) ++ (⟨#[34]⟩ : ByteArray))) else (none)) else (none)) else (if a0_0 = 4 then (spec_l08Text.j0 k (⟨#[123, 125]⟩ : ByteArray) a0_0 a0_1 a0_2 l0_3 l0_4) else (spec_l08Text.j0 k (⟨#[91, 93]⟩ : ByteArray) a0_0 a0_1 a0_2 l0_3 l0_4))))
end
def spec_l08Text.T19 : Bool × List (List Nat × List Nat) := (true, [([], []), ([0], [0]), ([], []), ([2], [2]), ([1, 3], [1, 3]), ([], []), ([5], [5]), ([4, 6], [4, 6]), ([7, 3, 0, 1, 2, 3, 4, 5, 6, 7], [7])])
def spec_l08Text.B19 : List Nat := [0, 1, 0, 4, 15, 0, 32, 127, 255]
theorem spec_l08Text.tab19 : rtab .any (opsOf Try.f66 19) = spec_l08Text.T19 := by kernel_rfl
theorem spec_l08Text.bits19 : waitsOk spec_l08Text.T19.2 spec_l08Text.B19 = true := by kernel_rfl
def spec_l08Text.y0 : Array Bool := #[false, false, false, false, false, false, false, false, false]
def spec_l08Text.y1 : Array Bool := #[true, false, false, false, false, false, false, false, false]
def spec_l08Text.y2 : Array Bool := #[true, true, false, false, false, false, false, false, false]
def spec_l08Text.y3 : Array Bool := #[true, true, true, false, false, false, false, false, false]
def spec_l08Text.y4 : Array Bool := #[true, true, true, false, false, true, false, false, false]
def spec_l08Text.y5 : Array Bool := #[true, true, true, false, false, true, true, false, false]
def spec_l08Text.y6 : Array Bool := #[true, true, true, true, false, true, true, false, false]
def spec_l08Text.y7 : Array Bool := #[true, true, true, true, true, true, true, false, false]
def spec_l08Text.y8 : Array Bool := #[true, true, true, true, true, true, true, true, false]
def spec_l08Text.y9 : Array Bool := #[true, true, true, true, true, true, true, true, true]
set_option maxHeartbeats 8000000 in
set_option maxRecDepth 100000 in
theorem spec_l08Text.calls (k : Nat) : ∀ (a0_0 : Int) (a0_1 : Int) (a0_2 : ByteArray) (A0_3 : Option Addr) (c0_3 : Nat) (l0_3 : List ByteArray) (A0_4 : Option Addr) (c0_4 : Nat) (l0_4 : List (S46)) (r : ByteArray) (w : World) (hr0_3 : Kd.C Kd.string w A0_3 l0_3.length l0_3) (hc0_3 : l0_3.length ≤ c0_3) (hr0_4 : Kd.C k46 w A0_4 l0_4.length l0_4) (hc0_4 : l0_4.length ≤ c0_4) (h : spec_l08Text.f k a0_0 a0_1 a0_2 l0_3 l0_4 = some r),
  Calls Try.prog 66 #[.agg #[.int .i64 a0_0, .int .i64 a0_1, .string a0_2, .slice A0_3 l0_3.length c0_3, .slice A0_4 l0_4.length c0_4]] w fun e w' => e = .returned (.string r) ∧ Below w.heap.size w w' := by
 induction k using Nat.strongRecOn with
 | _ k ih =>
 intro a0_0 a0_1 a0_2 A0_3 c0_3 l0_3 A0_4 c0_4 l0_4 r w hr0_3 hc0_3 hr0_4 hc0_4 h
 cases k with
 | zero => exact absurd h (by simp [spec_l08Text.f])
 | succ k =>
 simp only [spec_l08Text.f] at h; have hu46 := Try.underlying46; have HR0_3 := qO hr0_3; have HC0_3 := qO hc0_3; clear hr0_3 hc0_3; have HR0_4 := qO hr0_4; have HC0_4 := qO hc0_4; clear hr0_4 hc0_4; have HB := qO (Below.refl w.heap.size w); have H : (if a0_0 = 0 then (some (⟨#[110, 117, 108, 108]⟩ : ByteArray)) else (if a0_0 = 1 then ((spec_l00Digits.f k a0_1).bind fun t102 => (some t102)) else (if a0_0 = 2 then (if 1 + a0_2.size ≤ 9223372036854775807 then (if ((⟨#[34]⟩ : ByteArray) ++ a0_2).size + 1 ≤ 9223372036854775807 then (some (((⟨#[34]⟩ : ByteArray) ++ a0_2) ++ (⟨#[34]⟩ : ByteArray))) else (none)) else (none)) else (if a0_0 = 4 then (spec_l08Text.j0 k (⟨#[123, 125]⟩ : ByteArray) a0_0 a0_1 a0_2 l0_3 l0_4) else (spec_l08Text.j0 k (⟨#[91, 93]⟩ : ByteArray) a0_0 a0_1 a0_2 l0_3 l0_4))))) = some r := h; clear h
 by_cases c2 : a0_0 = 0
 ·rw [if_pos c2] at H
  have c2b0 : (a0_0 == 0) = true := beq_iff_eq.mpr c2; have c2b1 : (a0_0 != 0) = false := bne_eq_false_iff_eq.mpr c2; clear c2; obtain rfl := Option.some.inj H
  go_enter Try.func66, Try.ntmps66
  go_wp2_with (first | ((with_reducible refine gate_dst (N := 1) rfl ?_); refine box_event ?hg (N := 1) ?hd (cs := #[.int .i64 a0_0, .int .i64 a0_1, .string a0_2, .slice A0_3 l0_3.length c0_3, .slice A0_4 l0_4.length c0_4]) (t := 46) ?hr ?_; (case hd => rfl); (case hg => rfl); (case hr => exact qa21); intro gb101 hg w3 hbox hb; have hx_ := qHX HB hb qa0; have n0_ := qO (below_step (below_step HB.out hx_) hb); have n1_ := qO (hbox); have n2_ := qO ((qa15 : w.heap.size ≤ gb101)); have n3_ := n2_; clear HB; have HB := n0_; have BK101 := n1_; have GW101 := n2_; have GE101 := n3_; clear n0_ n1_ n2_ n3_; clear hx_; clear hb hbox hg; have hcz4_0 : w3.cell? ⟨gb101, 0, none⟩ = some (.int .i64 a0_0) := (blk_cell BK101.out 0).trans rfl; have hcz4_1 : w3.cell? ⟨gb101, 1, none⟩ = some (.int .i64 a0_1) := (blk_cell BK101.out 1).trans rfl; have hcz4_2 : w3.cell? ⟨gb101, 2, none⟩ = some (.string a0_2) := (blk_cell BK101.out 2).trans rfl; have hcz4_3 : w3.cell? ⟨gb101, 3, none⟩ = some (.slice A0_3 l0_3.length c0_3) := (blk_cell BK101.out 3).trans rfl; have hcz4_4 : w3.cell? ⟨gb101, 4, none⟩ = some (.slice A0_4 l0_4.length c0_4) := (blk_cell BK101.out 4).trans rfl; have hfz4_0 := blk_frozen BK101.out 0; have hfz4_1 := blk_frozen BK101.out 1; have hfz4_2 := blk_frozen BK101.out 2; have hfz4_3 := blk_frozen BK101.out 3; have hfz4_4 := blk_frozen BK101.out 4))
  go_ret
  exact ⟨qa4, qa2⟩
 ·rw [if_neg c2] at H
  have c2b0 : (a0_0 == 0) = false := beq_eq_false_iff_ne.mpr c2; have c2b1 : (a0_0 != 0) = true := bne_iff_ne.mpr c2
  by_cases c5 : a0_0 = 1
  ·rw [if_pos c5] at H
   have c5b0 : (a0_0 == 1) = true := beq_iff_eq.mpr c5; have c5b1 : (a0_0 != 1) = false := bne_eq_false_iff_eq.mpr c5; clear c5; replace H := Option.bind_eq_some_iff.mp H; obtain ⟨t102, A60, H⟩ := H; replace H : (some t102) = some r := H; have A6 := qO A60; clear A60; obtain rfl := Option.some.inj H
   go_enter Try.func66, Try.ntmps66
   go_wp2_with (first | ((with_reducible refine gate_dst (N := 1) rfl ?_); refine box_event ?hg (N := 1) ?hd (cs := #[.int .i64 a0_0, .int .i64 a0_1, .string a0_2, .slice A0_3 l0_3.length c0_3, .slice A0_4 l0_4.length c0_4]) (t := 46) ?hr ?_; (case hd => rfl); (case hg => rfl); (case hr => exact qa21); intro gb101 hg w7 hbox hb; have hx_ := qHX HB hb qa0; have n0_ := qO (below_step (below_step HB.out hx_) hb); have n1_ := qO (hbox); have n2_ := qO ((qa15 : w.heap.size ≤ gb101)); have n3_ := n2_; clear HB; have HB := n0_; have BK101 := n1_; have GW101 := n2_; have GE101 := n3_; clear n0_ n1_ n2_ n3_; clear hx_; clear hb hbox hg; have hcz8_0 : w7.cell? ⟨gb101, 0, none⟩ = some (.int .i64 a0_0) := (blk_cell BK101.out 0).trans rfl; have hcz8_1 : w7.cell? ⟨gb101, 1, none⟩ = some (.int .i64 a0_1) := (blk_cell BK101.out 1).trans rfl; have hcz8_2 : w7.cell? ⟨gb101, 2, none⟩ = some (.string a0_2) := (blk_cell BK101.out 2).trans rfl; have hcz8_3 : w7.cell? ⟨gb101, 3, none⟩ = some (.slice A0_3 l0_3.length c0_3) := (blk_cell BK101.out 3).trans rfl; have hcz8_4 : w7.cell? ⟨gb101, 4, none⟩ = some (.slice A0_4 l0_4.length c0_4) := (blk_cell BK101.out 4).trans rfl; have hfz8_0 := blk_frozen BK101.out 0; have hfz8_1 := blk_frozen BK101.out 1; have hfz8_2 := blk_frozen BK101.out 2; have hfz8_3 := blk_frozen BK101.out 3; have hfz8_4 := blk_frozen BK101.out 4) | ((with_reducible refine gate_callee (f := 103) rfl ?_); refine goesL_ (some 15) rfl rfl Try.func103 qa10 rfl #[.int .i64 a0_1] rfl qa1 ?_; (with_reducible refine (spec_l00Digits.calls k a0_1 t102 _ A6.out).mono ?_); rintro e w9 ⟨rfl, hb⟩; have hx_ := qHX HB hb qa0; refine ⟨_, rfl, ?_⟩; have n0_ := qO (qB BK101.out hx_ hb); have n1_ := qO (below_step (below_step HB.out hx_) hb); clear BK101; clear HB; have BK101 := n0_; have HB := n1_; clear n0_ n1_; clear hx_; (try clear hb); (try clear hb2); (try clear hk); (try clear hi)))
   go_ret
   exact ⟨qa4, qa2⟩
  ·rw [if_neg c5] at H
   have c5b0 : (a0_0 == 1) = false := beq_eq_false_iff_ne.mpr c5; have c5b1 : (a0_0 != 1) = true := bne_iff_ne.mpr c5
   by_cases c10 : a0_0 = 2
   ·rw [if_pos c10] at H
    have c10b0 : (a0_0 == 2) = true := beq_iff_eq.mpr c10; have c10b1 : (a0_0 != 2) = false := bne_eq_false_iff_eq.mpr c10; clear c10
    by_cases c11 : 1 + a0_2.size ≤ 9223372036854775807
    ·rw [if_pos c11] at H
     have c11b0 := eq_true c11; have c11b1 : decide (1 + a0_2.size ≤ 9223372036854775807) = true := decide_eq_true c11
     try have c11b2 : (9223372036854775807 < 1 + a0_2.size) = False := eq_false (Nat.not_lt.2 c11)
     by_cases c12 : ((⟨#[34]⟩ : ByteArray) ++ a0_2).size + 1 ≤ 9223372036854775807
     ·rw [if_pos c12] at H
      have c12z : 1 + a0_2.size + 1 ≤ 9223372036854775807 := by (have h_ := c12; (repeat rw [ByteArray.size_append] at h_); exact h_)
      have c12zt := eq_true c12z; have c12zf : (9223372036854775807 < 1 + a0_2.size + 1) = False := eq_false (Nat.not_lt.2 c12z); have c12b0 := eq_true c12; have c12b1 : decide (((⟨#[34]⟩ : ByteArray) ++ a0_2).size + 1 ≤ 9223372036854775807) = true := decide_eq_true c12
      try have c12b2 : (9223372036854775807 < ((⟨#[34]⟩ : ByteArray) ++ a0_2).size + 1) = False := eq_false (Nat.not_lt.2 c12)
      obtain rfl := Option.some.inj H
      go_enter Try.func66, Try.ntmps66
      go_wp2_with (first | ((with_reducible refine gate_dst (N := 1) rfl ?_); refine box_event ?hg (N := 1) ?hd (cs := #[.int .i64 a0_0, .int .i64 a0_1, .string a0_2, .slice A0_3 l0_3.length c0_3, .slice A0_4 l0_4.length c0_4]) (t := 46) ?hr ?_; (case hd => rfl); (case hg => rfl); (case hr => exact qa21); intro gb101 hg w13 hbox hb; have hx_ := qHX HB hb qa0; have n0_ := qO (below_step (below_step HB.out hx_) hb); have n1_ := qO (hbox); have n2_ := qO ((qa15 : w.heap.size ≤ gb101)); have n3_ := n2_; clear HB; have HB := n0_; have BK101 := n1_; have GW101 := n2_; have GE101 := n3_; clear n0_ n1_ n2_ n3_; clear hx_; clear hb hbox hg; have hcz14_0 : w13.cell? ⟨gb101, 0, none⟩ = some (.int .i64 a0_0) := (blk_cell BK101.out 0).trans rfl; have hcz14_1 : w13.cell? ⟨gb101, 1, none⟩ = some (.int .i64 a0_1) := (blk_cell BK101.out 1).trans rfl; have hcz14_2 : w13.cell? ⟨gb101, 2, none⟩ = some (.string a0_2) := (blk_cell BK101.out 2).trans rfl; have hcz14_3 : w13.cell? ⟨gb101, 3, none⟩ = some (.slice A0_3 l0_3.length c0_3) := (blk_cell BK101.out 3).trans rfl; have hcz14_4 : w13.cell? ⟨gb101, 4, none⟩ = some (.slice A0_4 l0_4.length c0_4) := (blk_cell BK101.out 4).trans rfl; have hfz14_0 := blk_frozen BK101.out 0; have hfz14_1 := blk_frozen BK101.out 1; have hfz14_2 := blk_frozen BK101.out 2; have hfz14_3 := blk_frozen BK101.out 3; have hfz14_4 := blk_frozen BK101.out 4))
      go_ret
      exact ⟨qa4, qa2⟩
     ·rw [if_neg c12] at H
      exact absurd H qa70
    ·rw [if_neg c11] at H
     exact absurd H qa70
   ·rw [if_neg c10] at H
    have c10b0 : (a0_0 == 2) = false := beq_eq_false_iff_ne.mpr c10; have c10b1 : (a0_0 != 2) = true := bne_iff_ne.mpr c10; have HC15 := qO H; clear H
    go_enter Try.func66, Try.ntmps66
    go_upto_if 24 with (first | ((with_reducible refine gate_dst (N := 1) rfl ?_); refine box_event ?hg (N := 1) ?hd (cs := #[.int .i64 a0_0, .int .i64 a0_1, .string a0_2, .slice A0_3 l0_3.length c0_3, .slice A0_4 l0_4.length c0_4]) (t := 46) ?hr ?_; (case hd => rfl); (case hg => rfl); (case hr => exact qa21); intro gb101 hg w16 hbox hb; have n0_ := qO (below_step qa12 hb); have n1_ := qO (hbox); have n2_ := qO ((qa43 : w.heap.size ≤ gb101)); have n3_ := qO ((qa43 : w.heap.size ≤ gb101)); clear HB; have HB := n0_; have BK101 := n1_; have GW101 := n2_; have GE101 := n3_; clear n0_ n1_ n2_ n3_; clear hb hbox hg; have hcz17_0 : w16.cell? ⟨gb101, 0, none⟩ = some (.int .i64 a0_0) := (blk_cell BK101.out 0).trans rfl; have hcz17_1 : w16.cell? ⟨gb101, 1, none⟩ = some (.int .i64 a0_1) := (blk_cell BK101.out 1).trans rfl; have hcz17_2 : w16.cell? ⟨gb101, 2, none⟩ = some (.string a0_2) := (blk_cell BK101.out 2).trans rfl; have hcz17_3 : w16.cell? ⟨gb101, 3, none⟩ = some (.slice A0_3 l0_3.length c0_3) := (blk_cell BK101.out 3).trans rfl; have hcz17_4 : w16.cell? ⟨gb101, 4, none⟩ = some (.slice A0_4 l0_4.length c0_4) := (blk_cell BK101.out 4).trans rfl; have hfz17_0 := blk_frozen BK101.out 0; have hfz17_1 := blk_frozen BK101.out 1; have hfz17_2 := blk_frozen BK101.out 2; have hfz17_3 := blk_frozen BK101.out 3; have hfz17_4 := blk_frozen BK101.out 4))
    (try simp only [Act.put, qzA, qzB, qzC])
    go_cut [3] (fun v3 wc => ∃ (kq : Nat) (x3_14 : ByteArray), v3 = .string x3_14 ∧ Aside0 (spec_l08Text.j0 kq x3_14 a0_0 a0_1 a0_2 l0_3 l0_4 = some r) ∧ Aside0 (kq ≤ k) ∧ Aside0 (wc.heap[gb101]? = some (.cells #[.int .i64 a0_0, .int .i64 a0_1, .string a0_2, (.slice A0_3 l0_3.length c0_3), (.slice A0_4 l0_4.length c0_4)] 46 (0, 0))) ∧ Aside0 (Below w.heap.size w wc))
    case first =>
     have H := HC15.out; clear HC15
     by_cases c18 : a0_0 = 4
     ·rw [if_pos c18] at H
      have c18b0 : (a0_0 == 4) = true := beq_iff_eq.mpr c18; have c18b1 : (a0_0 != 4) = false := bne_eq_false_iff_eq.mpr c18; clear c18; (first | rw [c18b0] | (simp only [i64_w, i32_w]; rw [c18b0]) | skip); have H' := qO H; clear H; go_wp2
      go_meet
      case rel => exact ⟨_, ((⟨#[123, 125]⟩ : ByteArray)), qa5, H', ⟨qa44⟩, ⟨qa9⟩, ⟨qa2⟩⟩
     ·rw [if_neg c18] at H
      have c18b0 : (a0_0 == 4) = false := beq_eq_false_iff_ne.mpr c18; have c18b1 : (a0_0 != 4) = true := bne_iff_ne.mpr c18; (first | rw [c18b0] | (simp only [i64_w, i32_w]; rw [c18b0]) | skip); have H' := qO H; clear H; go_wp2
      go_meet
      case rel => exact ⟨_, ((⟨#[91, 93]⟩ : ByteArray)), qa5, H', ⟨qa44⟩, ⟨qa9⟩, ⟨qa2⟩⟩
    case rest =>
     clear HC15
     try clear c1
     try clear c2
     try clear c2b0
     try clear c2b1
     try clear p2
     try clear c5
     try clear c5b0
     try clear c5b1
     try clear c6
     try clear c10
     try clear c10b0
     try clear c10b1
     try clear c11
     try clear c11b0
     try clear c11b1
     try clear c11b2
     try clear c12
     try clear c12b0
     try clear c12b1
     try clear c12b2
     try clear c18
     try clear c18b0
     try clear c18b1
     try clear hcz14_0
     try clear hcz14_1
     try clear hcz14_2
     try clear hcz14_3
     try clear hcz14_4
     try clear hcz17_0
     try clear hcz17_1
     try clear hcz17_2
     try clear hcz17_3
     try clear hcz17_4
     try clear hcz4_0
     try clear hcz4_1
     try clear hcz4_2
     try clear hcz4_3
     try clear hcz4_4
     try clear hcz8_0
     try clear hcz8_1
     try clear hcz8_2
     try clear hcz8_3
     try clear hcz8_4
     try clear hfz14_0
     try clear hfz14_1
     try clear hfz14_2
     try clear hfz14_3
     try clear hfz14_4
     try clear hfz17_0
     try clear hfz17_1
     try clear hfz17_2
     try clear hfz17_3
     try clear hfz17_4
     try clear hfz4_0
     try clear hfz4_1
     try clear hfz4_2
     try clear hfz4_3
     try clear hfz4_4
     try clear hfz8_0
     try clear hfz8_1
     try clear hfz8_2
     try clear hfz8_3
     try clear hfz8_4
     obtain ⟨kq, x3_14, rfl, HA, HJ14, BK101, HB⟩ := hcut
     cases kq with
     | zero => exact absurd HA.out (by simp [spec_l08Text.j0])
     | succ kj14 =>
      have H := HA.out; clear HA; simp only [spec_l08Text.j0] at H; obtain ⟨y103, hy103⟩ : ∃ y_ : List ByteArray, y_ = (([] : List ByteArray)) := ⟨_, rfl⟩; replace H : (spec_l08Text.l0 kj14 x3_14 y103 0 a0_0 a0_1 a0_2 l0_3 l0_4) = some r := by first | (rw [hy103]; with_reducible exact H) | (have H2_ := (Option.bind_some _ _).symm.trans H; rw [hy103]; with_reducible exact H2_) | (have H2_ := (Option.bind_some _ _).symm.trans H; with_reducible exact H2_) | with_reducible exact H | (rw [hy103]; exact H) | exact H
      have Ny103 := qO hy103; clear hy103; have H' := qO H; clear H
      go_wp2_with (first | ((with_reducible refine gate_dst (N := 25) rfl ?_); refine Kd.R_lit Kd.string _ 9 ?hg (N := 25) ?hd (xs := ([] : List ByteArray)) (inner := []) (ok := fun _ => True) (okp := fun _ => True) ?hr ?hp (fun _ hk => hk) trivial (Below.refl _ _) (Nat.le_refl _) qa70 ?_; (case hd => rfl); (case hg => rfl); (case hr => exact qa21); (case hp => exact (Reps.none _ _)); intro v104 w19 ho20 hb hg_ hnew_; clear hg_ hnew_; (first | rw [← Ny103.out] at ho20 | (simp only [Int.reduceToNat] at ho20; rw [← Ny103.out] at ho20)); have n0_ := qO (Kd.R_lower ho20 (below_size qa2)); have n1_ := qO (blk_below (g := gb101) (o := .cells #[.int .i64 a0_0, .int .i64 a0_1, .string a0_2, .slice A0_3 l0_3.length c0_3, .slice A0_4 l0_4.length c0_4] 46 (0, 0)) qa9 hb); have n2_ := qO (below_step qa2 hb); clear BK101; clear HB; have HO105 := n0_; have BK101 := n1_; have HB := n2_; clear n0_ n1_ n2_; clear hb ho20))
      go_loopg [4, 5] kj14 (fun kq v4 v5 w' => ∃ (x4_2 : List ByteArray) (x5_2 : Int), v5 = .int .i64 x5_2 ∧ Aside0 (spec_l08Text.l0 kq x3_14 x4_2 x5_2 a0_0 a0_1 a0_2 l0_3 l0_4 = some r) ∧ Aside0 (kq ≤ kj14) ∧ Aside0 (Kd.R Kd.string 9 w' w.heap.size (fun _ => True) v4 x4_2) ∧ Aside0 (w'.heap[gb101]? = some (.cells #[.int .i64 a0_0, .int .i64 a0_1, .string a0_2, (.slice A0_3 l0_3.length c0_3), (.slice A0_4 l0_4.length c0_4)] 46 (0, 0))) ∧ Aside0 (Below w.heap.size w w'))
      case atStart => exact ⟨(y103), (0), qa5, H', ⟨Nat.le_refl _⟩, ⟨by (with_reducible repeat (first | apply Kd.R_alloc | apply Kd.R_drewN | apply Kd.R_drew)); exact HO105.out⟩, ⟨qa9⟩, ⟨qa2⟩⟩
      case round =>
       clear H'
       try clear c1
       try clear c2
       try clear c2b0
       try clear c2b1
       try clear p2
       try clear c5
       try clear c5b0
       try clear c5b1
       try clear c6
       try clear c10
       try clear c10b0
       try clear c10b1
       try clear c11
       try clear c11b0
       try clear c11b1
       try clear c11b2
       try clear c12
       try clear c12b0
       try clear c12b1
       try clear c12b2
       try clear c18
       try clear c18b0
       try clear c18b1
       try clear hcz14_0
       try clear hcz14_1
       try clear hcz14_2
       try clear hcz14_3
       try clear hcz14_4
       try clear hcz17_0
       try clear hcz17_1
       try clear hcz17_2
       try clear hcz17_3
       try clear hcz17_4
       try clear hcz4_0
       try clear hcz4_1
       try clear hcz4_2
       try clear hcz4_3
       try clear hcz4_4
       try clear hcz8_0
       try clear hcz8_1
       try clear hcz8_2
       try clear hcz8_3
       try clear hcz8_4
       try clear hfz14_0
       try clear hfz14_1
       try clear hfz14_2
       try clear hfz14_3
       try clear hfz14_4
       try clear hfz17_0
       try clear hfz17_1
       try clear hfz17_2
       try clear hfz17_3
       try clear hfz17_4
       try clear hfz4_0
       try clear hfz4_1
       try clear hfz4_2
       try clear hfz4_3
       try clear hfz4_4
       try clear hfz8_0
       try clear hfz8_1
       try clear hfz8_2
       try clear hfz8_3
       try clear hfz8_4
       try clear p2
       obtain ⟨x4_2, x5_2, rfl, HA, HK2, HO_4, BK101, HB⟩ := hrel
       cases gk with
       | zero => exact absurd HA.out (by simp [spec_l08Text.l0])
       | succ k2 =>
        have H := HA.out; clear HA; simp only [spec_l08Text.l0] at H
        by_cases c21 : x5_2 < (l0_4.length : Int)
        ·rw [if_pos c21] at H
         have c21b0 : decide (x5_2 < (l0_4.length : Int)) = true := decide_eq_true c21; clear c21
         by_cases c22 : 0 ≤ x5_2
         ·rw [if_pos c22] at H
          have c22b0 : decide (0 ≤ x5_2) = true := decide_eq_true c22; clear c22; replace H := Option.bind_eq_some_iff.mp H; obtain ⟨t107, A230, H⟩ := H; replace H : (if a0_0 = 4 then (if x5_2 < (l0_3.length : Int) then (if 1 + (rdOf ByteArray.empty l0_3 x5_2).size ≤ 9223372036854775807 then (if ((⟨#[34]⟩ : ByteArray) ++ (rdOf ByteArray.empty l0_3 x5_2)).size + 2 ≤ 9223372036854775807 then (if (((⟨#[34]⟩ : ByteArray) ++ (rdOf ByteArray.empty l0_3 x5_2)) ++ (⟨#[34, 58]⟩ : ByteArray)).size + t107.size ≤ 9223372036854775807 then (if x4_2.length < 8796093022208 then (spec_l08Text.l0 k2 x3_14 (x4_2 ++ [(((⟨#[34]⟩ : ByteArray) ++ (rdOf ByteArray.empty l0_3 x5_2)) ++ (⟨#[34, 58]⟩ : ByteArray)) ++ t107]) (wrap64 (x5_2 + 1)) a0_0 a0_1 a0_2 l0_3 l0_4) else (none)) else (none)) else (none)) else (none)) else (none)) else (if x4_2.length < 8796093022208 then (spec_l08Text.l0 k2 x3_14 (x4_2 ++ [t107]) (wrap64 (x5_2 + 1)) a0_0 a0_1 a0_2 l0_3 l0_4) else (none))) = some r := H; have A23 := qO A230; clear A230
          by_cases c24 : a0_0 = 4
          ·rw [if_pos c24] at H
           have c24b0 : (a0_0 == 4) = true := beq_iff_eq.mpr c24; have c24b1 : (a0_0 != 4) = false := bne_eq_false_iff_eq.mpr c24; clear c24
           by_cases c25 : x5_2 < (l0_3.length : Int)
           ·rw [if_pos c25] at H
            have c25b0 : decide (x5_2 < (l0_3.length : Int)) = true := decide_eq_true c25; clear c25
            by_cases c26 : 1 + (rdOf ByteArray.empty l0_3 x5_2).size ≤ 9223372036854775807
            ·rw [if_pos c26] at H
             have c26b0 := eq_true c26; have c26b1 : decide (1 + (rdOf ByteArray.empty l0_3 x5_2).size ≤ 9223372036854775807) = true := decide_eq_true c26
             try have c26b2 : (9223372036854775807 < 1 + (rdOf ByteArray.empty l0_3 x5_2).size) = False := eq_false (Nat.not_lt.2 c26)
             by_cases c27 : ((⟨#[34]⟩ : ByteArray) ++ (rdOf ByteArray.empty l0_3 x5_2)).size + 2 ≤ 9223372036854775807
             ·rw [if_pos c27] at H
              have c27z : 1 + (rdOf ByteArray.empty l0_3 x5_2).size + 2 ≤ 9223372036854775807 := by (have h_ := c27; (repeat rw [ByteArray.size_append] at h_); exact h_)
              have c27zt := eq_true c27z; have c27zf : (9223372036854775807 < 1 + (rdOf ByteArray.empty l0_3 x5_2).size + 2) = False := eq_false (Nat.not_lt.2 c27z); have c27b0 := eq_true c27; have c27b1 : decide (((⟨#[34]⟩ : ByteArray) ++ (rdOf ByteArray.empty l0_3 x5_2)).size + 2 ≤ 9223372036854775807) = true := decide_eq_true c27
              try have c27b2 : (9223372036854775807 < ((⟨#[34]⟩ : ByteArray) ++ (rdOf ByteArray.empty l0_3 x5_2)).size + 2) = False := eq_false (Nat.not_lt.2 c27)
              by_cases c28 : (((⟨#[34]⟩ : ByteArray) ++ (rdOf ByteArray.empty l0_3 x5_2)) ++ (⟨#[34, 58]⟩ : ByteArray)).size + t107.size ≤ 9223372036854775807
              ·rw [if_pos c28] at H
               have c28z : 1 + (rdOf ByteArray.empty l0_3 x5_2).size + 2 + t107.size ≤ 9223372036854775807 := by (have h_ := c28; (repeat rw [ByteArray.size_append] at h_); exact h_)
               have c28zt := eq_true c28z; have c28zf : (9223372036854775807 < 1 + (rdOf ByteArray.empty l0_3 x5_2).size + 2 + t107.size) = False := eq_false (Nat.not_lt.2 c28z); have c28b0 := eq_true c28; have c28b1 : decide ((((⟨#[34]⟩ : ByteArray) ++ (rdOf ByteArray.empty l0_3 x5_2)) ++ (⟨#[34, 58]⟩ : ByteArray)).size + t107.size ≤ 9223372036854775807) = true := decide_eq_true c28
               try have c28b2 : (9223372036854775807 < (((⟨#[34]⟩ : ByteArray) ++ (rdOf ByteArray.empty l0_3 x5_2)) ++ (⟨#[34, 58]⟩ : ByteArray)).size + t107.size) = False := eq_false (Nat.not_lt.2 c28)
               by_cases c29 : x4_2.length < 8796093022208
               ·rw [if_pos c29] at H
                have LMc29 := qO c29; clear c29; obtain ⟨y109, hy109⟩ : ∃ y_ : List ByteArray, y_ = (x4_2 ++ [(((⟨#[34]⟩ : ByteArray) ++ (rdOf ByteArray.empty l0_3 x5_2)) ++ (⟨#[34, 58]⟩ : ByteArray)) ++ t107]) := ⟨_, rfl⟩; replace H : (spec_l08Text.l0 k2 x3_14 y109 (wrap64 (x5_2 + 1)) a0_0 a0_1 a0_2 l0_3 l0_4) = some r := by first | (rw [hy109]; with_reducible exact H) | (have H2_ := (Option.bind_some _ _).symm.trans H; rw [hy109]; with_reducible exact H2_) | (have H2_ := (Option.bind_some _ _).symm.trans H; with_reducible exact H2_) | with_reducible exact H | (rw [hy109]; exact H) | exact H
                have Ny109 := qO hy109; clear hy109; have H' := qO H; clear H; have hcz30_0 : wr.cell? ⟨gb101, 0, none⟩ = some (.int .i64 a0_0) := (blk_cell BK101.out 0).trans rfl; have hcz30_1 : wr.cell? ⟨gb101, 1, none⟩ = some (.int .i64 a0_1) := (blk_cell BK101.out 1).trans rfl; have hcz30_2 : wr.cell? ⟨gb101, 2, none⟩ = some (.string a0_2) := (blk_cell BK101.out 2).trans rfl; have hcz30_3 : wr.cell? ⟨gb101, 3, none⟩ = some (.slice A0_3 l0_3.length c0_3) := (blk_cell BK101.out 3).trans rfl; have hcz30_4 : wr.cell? ⟨gb101, 4, none⟩ = some (.slice A0_4 l0_4.length c0_4) := (blk_cell BK101.out 4).trans rfl; have hfz30_0 := blk_frozen BK101.out 0; have hfz30_1 := blk_frozen BK101.out 1; have hfz30_2 := blk_frozen BK101.out 2; have hfz30_3 := blk_frozen BK101.out 3; have hfz30_4 := blk_frozen BK101.out 4; have p106 : 0 ≤ (x5_2 : Int) := qT qa6; have q106 : x5_2 < (l0_4.length : Int) := qT qa6; obtain ⟨ad106, A106_3, c106_3, A106_4, c106_4, e106, hx106_0, hx106_1, hx106_2, hx106_3, hx106_4, hl106_3, hi106_3, hl106_4, hi106_4⟩ := at_T46 HR0_4.out x5_2 p106 q106
                cases e106
                replace hx106_0 := (HB.out.cell (qL w _ hx106_0)).trans hx106_0; replace hx106_1 := (HB.out.cell (qL w _ hx106_1)).trans hx106_1; replace hx106_2 := (HB.out.cell (qL w _ hx106_2)).trans hx106_2; replace hx106_3 := (HB.out.cell (qL w _ hx106_3)).trans hx106_3; replace hx106_4 := (HB.out.cell (qL w _ hx106_4)).trans hx106_4; have HR106_3 := qO hi106_3; have HC106_3 := qO hl106_3; clear hi106_3 hl106_3; have HR106_4 := qO hi106_4; have HC106_4 := qO hl106_4; clear hi106_4 hl106_4; replace p106 := eq_true p106; replace q106 := eq_true q106
                go_wp2_with (first | ((with_reducible refine gate_callee (f := 66) rfl ?_); refine goesL_ (some 38) rfl rfl Try.func66 qa10 rfl #[.agg #[.int .i64 ((rd_T46 l0_4 x5_2).f0), .int .i64 ((rd_T46 l0_4 x5_2).f1), .string ((rd_T46 l0_4 x5_2).f2), .slice A106_3 ((rd_T46 l0_4 x5_2).f3).length c106_3, .slice A106_4 ((rd_T46 l0_4 x5_2).f4).length c106_4]] rfl qa1 ?_; (with_reducible refine (ih k2 qa95 ((rd_T46 l0_4 x5_2).f0) ((rd_T46 l0_4 x5_2).f1) ((rd_T46 l0_4 x5_2).f2) _ _ ((rd_T46 l0_4 x5_2).f3) _ _ ((rd_T46 l0_4 x5_2).f4) t107 _ ?side1 ?side2 ?side3 ?side4 A23.out).mono ?_); (case side1 => exact qa78); (case side2 => exact HC106_3.out); (case side3 => exact qa79); (case side4 => exact HC106_4.out); rintro e w31 ⟨rfl, hb⟩; have hx_ := qHX HB hb qa0; refine ⟨_, rfl, ?_⟩; have n0_ := qO (Kd.R_below qa84 hb); have n1_ := qO (qB BK101.out hx_ hb); have n2_ := qO (below_step (below_step HB.out hx_) hb); clear HO_4; clear BK101; clear HB; have HO_4 := n0_; have BK101 := n1_; have HB := n2_; clear n0_ n1_ n2_; clear hx_; (try clear hb); (try clear hb2); (try clear hk); (try clear hi); have hcz32_0 : w31.cell? ⟨gb101, 0, none⟩ = some (.int .i64 a0_0) := (blk_cell BK101.out 0).trans rfl; have hcz32_1 : w31.cell? ⟨gb101, 1, none⟩ = some (.int .i64 a0_1) := (blk_cell BK101.out 1).trans rfl; have hcz32_2 : w31.cell? ⟨gb101, 2, none⟩ = some (.string a0_2) := (blk_cell BK101.out 2).trans rfl; have hcz32_3 : w31.cell? ⟨gb101, 3, none⟩ = some (.slice A0_3 l0_3.length c0_3) := (blk_cell BK101.out 3).trans rfl; have hcz32_4 : w31.cell? ⟨gb101, 4, none⟩ = some (.slice (some ad106) l0_4.length c0_4) := (blk_cell BK101.out 4).trans rfl; have hfz32_0 := blk_frozen BK101.out 0; have hfz32_1 := blk_frozen BK101.out 1; have hfz32_2 := blk_frozen BK101.out 2; have hfz32_3 := blk_frozen BK101.out 3; have hfz32_4 := blk_frozen BK101.out 4; have p108 : 0 ≤ (x5_2 : Int) := qT qa6; have q108 : x5_2 < (l0_3.length : Int) := qT qa6; obtain ⟨ad108, e108, hx108_0⟩ := Kd.at_string HR0_3.out x5_2 p108 q108; cases e108; replace hx108_0 := (HB.out.cell (qL w _ hx108_0)).trans hx108_0; replace p108 := eq_true p108; replace q108 := eq_true q108) | ((with_reducible refine gate_builtin (b := .append) (xs := #[.tmp 51, .tmp 53]) rfl ?_); at_builtin; refine Kd.R_append Kd.string (w0 := w) w.heap.size rfl (.tmp 51) (.tmp 53) 38 9 (.string ⟨#[]⟩) 16 rfl Try.underlying38 info9 rfl qa68 qa22 u4 x4_2 ((((⟨#[34]⟩ : ByteArray) ++ (rdOf ByteArray.empty l0_3 x5_2)) ++ (⟨#[34, 58]⟩ : ByteArray)) ++ t107) [.string ((((⟨#[34]⟩ : ByteArray) ++ (rdOf ByteArray.empty l0_3 x5_2)) ++ (⟨#[34, 58]⟩ : ByteArray)) ++ t107)] (fun _ => True) (fun _ => False) rfl rfl ?aP (fun _ hk => hk.elim) ?aF ?aO ?aB ?aS ?aL ?_; (case aP => exact rfl); (case aB => exact qa80); (case aF => exact (fun _ _ => trivial)); (case aO => exact qa85); (case aS => exact qa75); (case aL => have := LMc29.out; omega); intro v110 w33 ho hb hg hat; rw [← Ny109.out] at ho; have n0_ := qO (blk_grown (g := gb101) (o := .cells #[.int .i64 a0_0, .int .i64 a0_1, .string a0_2, .slice (some ad108) l0_3.length c0_3, .slice (some ad106) l0_4.length c0_4] 46 (0, 0)) qa9 hg (Kd.R_ne HO_4.out BK101.out qa68)); have n1_ := qO (hb); have n2_ := qO (ho); clear BK101; clear HB; clear HO_4; have BK101 := n0_; have HB := n1_; have HO111 := n2_; clear n0_ n1_ n2_; clear ho hb hg hat))
                go_roundg k2
                case measure => have := HJ14.out; have := HK2.out; omega
                case rel => exact ⟨(y109), (wrap64 (x5_2 + 1)), qa5, H', ⟨qa95⟩, ⟨by (with_reducible repeat (first | apply Kd.R_alloc | apply Kd.R_drewN | apply Kd.R_drew)); exact HO111.out⟩, ⟨qa9⟩, ⟨qa2⟩⟩
               ·rw [if_neg c29] at H
                exact absurd H qa70
              ·rw [if_neg c28] at H
               exact absurd H qa70
             ·rw [if_neg c27] at H
              exact absurd H qa70
            ·rw [if_neg c26] at H
             exact absurd H qa70
           ·rw [if_neg c25] at H
            exact absurd H qa70
          ·rw [if_neg c24] at H
           have c24b0 : (a0_0 == 4) = false := beq_eq_false_iff_ne.mpr c24; have c24b1 : (a0_0 != 4) = true := bne_iff_ne.mpr c24
           by_cases c34 : x4_2.length < 8796093022208
           ·rw [if_pos c34] at H
            have LMc34 := qO c34; clear c34; obtain ⟨y112, hy112⟩ : ∃ y_ : List ByteArray, y_ = (x4_2 ++ [t107]) := ⟨_, rfl⟩; replace H : (spec_l08Text.l0 k2 x3_14 y112 (wrap64 (x5_2 + 1)) a0_0 a0_1 a0_2 l0_3 l0_4) = some r := by first | (rw [hy112]; with_reducible exact H) | (have H2_ := (Option.bind_some _ _).symm.trans H; rw [hy112]; with_reducible exact H2_) | (have H2_ := (Option.bind_some _ _).symm.trans H; with_reducible exact H2_) | with_reducible exact H | (rw [hy112]; exact H) | exact H
            have Ny112 := qO hy112; clear hy112; have H' := qO H; clear H; have hcz35_0 : wr.cell? ⟨gb101, 0, none⟩ = some (.int .i64 a0_0) := (blk_cell BK101.out 0).trans rfl; have hcz35_1 : wr.cell? ⟨gb101, 1, none⟩ = some (.int .i64 a0_1) := (blk_cell BK101.out 1).trans rfl; have hcz35_2 : wr.cell? ⟨gb101, 2, none⟩ = some (.string a0_2) := (blk_cell BK101.out 2).trans rfl; have hcz35_3 : wr.cell? ⟨gb101, 3, none⟩ = some (.slice A0_3 l0_3.length c0_3) := (blk_cell BK101.out 3).trans rfl; have hcz35_4 : wr.cell? ⟨gb101, 4, none⟩ = some (.slice A0_4 l0_4.length c0_4) := (blk_cell BK101.out 4).trans rfl; have hfz35_0 := blk_frozen BK101.out 0; have hfz35_1 := blk_frozen BK101.out 1; have hfz35_2 := blk_frozen BK101.out 2; have hfz35_3 := blk_frozen BK101.out 3; have hfz35_4 := blk_frozen BK101.out 4; have p106 : 0 ≤ (x5_2 : Int) := qT qa6; have q106 : x5_2 < (l0_4.length : Int) := qT qa6; obtain ⟨ad106, A106_3, c106_3, A106_4, c106_4, e106, hx106_0, hx106_1, hx106_2, hx106_3, hx106_4, hl106_3, hi106_3, hl106_4, hi106_4⟩ := at_T46 HR0_4.out x5_2 p106 q106
            cases e106
            replace hx106_0 := (HB.out.cell (qL w _ hx106_0)).trans hx106_0; replace hx106_1 := (HB.out.cell (qL w _ hx106_1)).trans hx106_1; replace hx106_2 := (HB.out.cell (qL w _ hx106_2)).trans hx106_2; replace hx106_3 := (HB.out.cell (qL w _ hx106_3)).trans hx106_3; replace hx106_4 := (HB.out.cell (qL w _ hx106_4)).trans hx106_4; have HR106_3 := qO hi106_3; have HC106_3 := qO hl106_3; clear hi106_3 hl106_3; have HR106_4 := qO hi106_4; have HC106_4 := qO hl106_4; clear hi106_4 hl106_4; replace p106 := eq_true p106; replace q106 := eq_true q106
            go_wp2_with (first | ((with_reducible refine gate_callee (f := 66) rfl ?_); refine goesL_ (some 38) rfl rfl Try.func66 qa10 rfl #[.agg #[.int .i64 ((rd_T46 l0_4 x5_2).f0), .int .i64 ((rd_T46 l0_4 x5_2).f1), .string ((rd_T46 l0_4 x5_2).f2), .slice A106_3 ((rd_T46 l0_4 x5_2).f3).length c106_3, .slice A106_4 ((rd_T46 l0_4 x5_2).f4).length c106_4]] rfl qa1 ?_; (with_reducible refine (ih k2 qa95 ((rd_T46 l0_4 x5_2).f0) ((rd_T46 l0_4 x5_2).f1) ((rd_T46 l0_4 x5_2).f2) _ _ ((rd_T46 l0_4 x5_2).f3) _ _ ((rd_T46 l0_4 x5_2).f4) t107 _ ?side1 ?side2 ?side3 ?side4 A23.out).mono ?_); (case side1 => exact qa78); (case side2 => exact HC106_3.out); (case side3 => exact qa79); (case side4 => exact HC106_4.out); rintro e w36 ⟨rfl, hb⟩; have hx_ := qHX HB hb qa0; refine ⟨_, rfl, ?_⟩; have n0_ := qO (Kd.R_below qa84 hb); have n1_ := qO (qB BK101.out hx_ hb); have n2_ := qO (below_step (below_step HB.out hx_) hb); clear HO_4; clear BK101; clear HB; have HO_4 := n0_; have BK101 := n1_; have HB := n2_; clear n0_ n1_ n2_; clear hx_; (try clear hb); (try clear hb2); (try clear hk); (try clear hi); have hcz37_0 : w36.cell? ⟨gb101, 0, none⟩ = some (.int .i64 a0_0) := (blk_cell BK101.out 0).trans rfl; have hcz37_1 : w36.cell? ⟨gb101, 1, none⟩ = some (.int .i64 a0_1) := (blk_cell BK101.out 1).trans rfl; have hcz37_2 : w36.cell? ⟨gb101, 2, none⟩ = some (.string a0_2) := (blk_cell BK101.out 2).trans rfl; have hcz37_3 : w36.cell? ⟨gb101, 3, none⟩ = some (.slice A0_3 l0_3.length c0_3) := (blk_cell BK101.out 3).trans rfl; have hcz37_4 : w36.cell? ⟨gb101, 4, none⟩ = some (.slice (some ad106) l0_4.length c0_4) := (blk_cell BK101.out 4).trans rfl; have hfz37_0 := blk_frozen BK101.out 0; have hfz37_1 := blk_frozen BK101.out 1; have hfz37_2 := blk_frozen BK101.out 2; have hfz37_3 := blk_frozen BK101.out 3; have hfz37_4 := blk_frozen BK101.out 4) | ((with_reducible refine gate_builtin (b := .append) (xs := #[.tmp 51, .tmp 53]) rfl ?_); at_builtin; refine Kd.R_append Kd.string (w0 := w) w.heap.size rfl (.tmp 51) (.tmp 53) 38 9 (.string ⟨#[]⟩) 16 rfl Try.underlying38 info9 rfl qa68 qa22 u4 x4_2 t107 [.string t107] (fun _ => True) (fun _ => False) rfl rfl ?aP (fun _ hk => hk.elim) ?aF ?aO ?aB ?aS ?aL ?_; (case aP => exact rfl); (case aB => exact qa80); (case aF => exact (fun _ _ => trivial)); (case aO => exact qa85); (case aS => exact qa75); (case aL => have := LMc34.out; omega); intro v113 w38 ho hb hg hat; rw [← Ny112.out] at ho; have n0_ := qO (blk_grown (g := gb101) (o := .cells #[.int .i64 a0_0, .int .i64 a0_1, .string a0_2, .slice A0_3 l0_3.length c0_3, .slice (some ad106) l0_4.length c0_4] 46 (0, 0)) qa9 hg (Kd.R_ne HO_4.out BK101.out qa68)); have n1_ := qO (hb); have n2_ := qO (ho); clear BK101; clear HB; clear HO_4; have BK101 := n0_; have HB := n1_; have HO114 := n2_; clear n0_ n1_ n2_; clear ho hb hg hat))
            go_roundg k2
            case measure => have := HJ14.out; have := HK2.out; omega
            case rel => exact ⟨(y112), (wrap64 (x5_2 + 1)), qa5, H', ⟨qa95⟩, ⟨by (with_reducible repeat (first | apply Kd.R_alloc | apply Kd.R_drewN | apply Kd.R_drew)); exact HO114.out⟩, ⟨qa9⟩, ⟨qa2⟩⟩
           ·rw [if_neg c34] at H
            exact absurd H qa70
         ·rw [if_neg c22] at H
          exact absurd H qa70
        ·rw [if_neg c21] at H
         have c21b0 : decide (x5_2 < (l0_4.length : Int)) = false := decide_eq_false c21; clear c21
         by_cases c39 : 0 ≤ 1
         ·rw [if_pos c39] at H
          have c39b0 := eq_true c39; have c39b1 : decide (0 ≤ 1) = true := decide_eq_true c39; clear c39
          by_cases c40 : 1 ≤ (x3_14.size : Int)
          ·rw [if_pos c40] at H
           have c40b0 := eq_true c40; have c40b1 : decide (1 ≤ (x3_14.size : Int)) = true := decide_eq_true c40; clear c40; replace H := Option.bind_eq_some_iff.mp H; obtain ⟨t115, A410, H⟩ := H; replace H : (if (x3_14.extract 0 1).size + t115.size ≤ 9223372036854775807 then (if ((x3_14.extract 0 1) ++ t115).size + (x3_14.extract 1 x3_14.size).size ≤ 9223372036854775807 then (some (((x3_14.extract 0 1) ++ t115) ++ (x3_14.extract 1 x3_14.size))) else (none)) else (none)) = some r := H; have A41 := qO A410; clear A410
           by_cases c42 : (x3_14.extract 0 1).size + t115.size ≤ 9223372036854775807
           ·rw [if_pos c42] at H
            have c42z := c42; (try simp only [ByteArray.size_append, ByteArray.size_extract, Nat.sub_zero, Nat.min_self] at c42z); have c42zt := eq_true c42z; have c42zf := eq_false (Nat.not_lt.2 c42z); have c42b0 := eq_true c42; have c42b1 : decide ((x3_14.extract 0 1).size + t115.size ≤ 9223372036854775807) = true := decide_eq_true c42
            try have c42b2 : (9223372036854775807 < (x3_14.extract 0 1).size + t115.size) = False := eq_false (Nat.not_lt.2 c42)
            have c43b0 := eq_true (qT qa6 : 1 ≤ (x3_14.size : Int))
            by_cases c44 : ((x3_14.extract 0 1) ++ t115).size + (x3_14.extract 1 x3_14.size).size ≤ 9223372036854775807
            ·rw [if_pos c44] at H
             have c44z := c44; (try simp only [ByteArray.size_append, ByteArray.size_extract, Nat.sub_zero, Nat.min_self] at c44z); have c44zt := eq_true c44z; have c44zf := eq_false (Nat.not_lt.2 c44z); have c44z : (x3_14.extract 0 1).size + t115.size + (x3_14.extract 1 x3_14.size).size ≤ 9223372036854775807 := by (have h_ := c44; (repeat rw [ByteArray.size_append] at h_); exact h_)
             have c44zt := eq_true c44z; have c44zf : (9223372036854775807 < (x3_14.extract 0 1).size + t115.size + (x3_14.extract 1 x3_14.size).size) = False := eq_false (Nat.not_lt.2 c44z); have c44b0 := eq_true c44; have c44b1 : decide (((x3_14.extract 0 1) ++ t115).size + (x3_14.extract 1 x3_14.size).size ≤ 9223372036854775807) = true := decide_eq_true c44
             try have c44b2 : (9223372036854775807 < ((x3_14.extract 0 1) ++ t115).size + (x3_14.extract 1 x3_14.size).size) = False := eq_false (Nat.not_lt.2 c44)
             obtain rfl := Option.some.inj H; have hcz45_0 : wr.cell? ⟨gb101, 0, none⟩ = some (.int .i64 a0_0) := (blk_cell BK101.out 0).trans rfl; have hcz45_1 : wr.cell? ⟨gb101, 1, none⟩ = some (.int .i64 a0_1) := (blk_cell BK101.out 1).trans rfl; have hcz45_2 : wr.cell? ⟨gb101, 2, none⟩ = some (.string a0_2) := (blk_cell BK101.out 2).trans rfl; have hcz45_3 : wr.cell? ⟨gb101, 3, none⟩ = some (.slice A0_3 l0_3.length c0_3) := (blk_cell BK101.out 3).trans rfl; have hcz45_4 : wr.cell? ⟨gb101, 4, none⟩ = some (.slice A0_4 l0_4.length c0_4) := (blk_cell BK101.out 4).trans rfl; have hfz45_0 := blk_frozen BK101.out 0; have hfz45_1 := blk_frozen BK101.out 1; have hfz45_2 := blk_frozen BK101.out 2; have hfz45_3 := blk_frozen BK101.out 3; have hfz45_4 := blk_frozen BK101.out 4
             try go_wp2
             have n0_ := qO (Kd.R_drew HO_4.out); have n1_ := qO (qkD BK101.out); have n2_ := qO (qbD HB.out); clear HO_4; clear BK101; clear HB; have HO_4 := n0_; have BK101 := n1_; have HB := n2_; clear n0_ n1_ n2_; obtain ⟨Ao47, co47, eo47⟩ := Kd.R_slice HO_4.out; (first | subst eo47 | (injection eo47 with f1_ f2_ f3_; have f4_ := f1_.symm; have f5_ := f3_.symm; clear f1_ f2_ f3_; subst f4_; subst f5_)); refine start_ (n := 9) (S := fun w' => True) (ds := []) spec_l08Text.y0 qa10 rfl rfl trivial (fun hHeld => ?_); refine with_tabW spec_l08Text.tab19 spec_l08Text.bits19 (fun HT_ HW_ => ?_); generalize wr.drew = w46 at HO_4 BK101 HB hHeld ⊢; refine pure_ (i := 0) (N := some 55) (v := ?_) (a' := ?_) spec_l08Text.y1 rfl rfl (any_of HT_.out qa10) (fun _ _ _ h => h) (Or.inl ⟨by rfl, ?_⟩) ?_ ?_; rotate_left; exact qa11; rotate_left; exact qa3; refine pure_ (i := 1) (N := some 56) (v := ?_) (a' := ?_) spec_l08Text.y2 rfl rfl (any_of HT_.out qa10) (fun _ _ _ h => h) (Or.inl ⟨by rfl, ?_⟩) ?_ ?_; rotate_left; exact qa11; rotate_left; exact qa3; refine pure_ (i := 2) (N := some 57) (v := ?_) (a' := ?_) spec_l08Text.y3 rfl rfl (any_of HT_.out qa10) (fun _ _ _ h => h) (Or.inl ⟨by rfl, ?_⟩) ?_ ?_; rotate_left; exact qa11; rotate_left; exact qa3; refine pure_ (i := 5) (N := some 60) (v := ?_) (a' := ?_) spec_l08Text.y4 rfl rfl (any_of HT_.out qa10) (fun _ _ _ h => h) (Or.inl ⟨by rfl, ?_⟩) ?_ ?_; rotate_left; exact qa11; rotate_left; exact qa3; refine pure_ (i := 6) (N := some 61) (v := ?_) (a' := ?_) spec_l08Text.y5 rfl rfl (any_of HT_.out qa10) (fun _ _ _ h => h) (Or.inl ⟨by rfl, ?_⟩) ?_ ?_; rotate_left; exact qa11; rotate_left; exact qa3; refine one_ (i := 3) (N := some 58) spec_l08Text.y6 rfl rfl (one_of HT_.out qa10) qa68 (fun K hK => ?_); refine goes_ Try.func104 qa10 rfl #[.slice Ao47 x4_2.length co47, .string (⟨#[44]⟩ : ByteArray)] (by rfl) rfl rfl qa1 ?_; (with_reducible refine (spec_l00Join.calls k2 _ _ x4_2 (⟨#[44]⟩ : ByteArray) t115 _ ?side1 ?side2 A41.out).mono ?_); (case side1 => repeat (first | exact (Kd.R_reads' HO_4.out).2.2 | with_reducible first | refine Kd.C_alloc ?_ _ | refine Kd.C_drewN ?_ _ | refine Kd.C_drew ?_)); (case side2 => exact (Kd.R_reads' HO_4.out).2.1); rintro e w' ⟨rfl, ⟨nd, rfl⟩⟩; refine ⟨_, rfl, ?_⟩; refine hK.out _ _ trivial (fun hHeld => ?_); clear hK K; refine norm_ (a' := ?_) ?_ ?_; rotate_left
             ·exact qa16
             refine pure_ (i := 4) (N := some 59) (v := ?_) (a' := ?_) spec_l08Text.y7 rfl rfl (any_of HT_.out qa10) (fun _ _ _ h => h) (Or.inl ⟨by rfl, ?_⟩) ?_ ?_; rotate_left; exact qa11; rotate_left; exact qa3; refine pure_ (i := 7) (N := some 62) (v := ?_) (a' := ?_) spec_l08Text.y8 rfl rfl (any_of HT_.out qa10) (fun _ _ _ h => h) (Or.inl ⟨by rfl, ?_⟩) ?_ ?_; rotate_left; exact qa11; rotate_left; exact qa3; refine pure_ (i := 8) (N := some 2) (v := ?_) (a' := ?_) spec_l08Text.y9 rfl rfl (any_of HT_.out qa10) (fun _ _ _ h => h) (Or.inl ⟨by rfl, ?_⟩) ?_ ?_; rotate_left; exact qa11; rotate_left; exact qa3; refine done_ (done_of HT_.out qa10) ?_
             try go_wp2
             go_ret
             exact ⟨qa4, qa2⟩
            ·rw [if_neg c44] at H
             exact absurd H qa70
           ·rw [if_neg c42] at H
            exact absurd H qa70
          ·rw [if_neg c40] at H
           exact absurd H qa70
         ·rw [if_neg c39] at H
          exact absurd H qa70


def spec_SameOut.f (k : Nat) (a0_0 : Int) (a0_1 : Int) (a0_2 : ByteArray) (l0_3 : List ByteArray) (l0_4 : List (S46)) (a1_0 : Int) (a1_1 : Int) (a1_2 : ByteArray) (l1_3 : List ByteArray) (l1_4 : List (S46)) : Option (Bool) := (spec_OutOK.f k a0_0 a0_1 a0_2 l0_3 l0_4).bind fun t103 => (if t103 = true then ((spec_OutOK.f k a1_0 a1_1 a1_2 l1_3 l1_4).bind fun t104 => (if t104 = true then ((spec_l08Text.f k a0_0 a0_1 a0_2 l0_3 l0_4).bind fun t105 => ((spec_l08Text.f k a1_0 a1_1 a1_2 l1_3 l1_4).bind fun t106 => (some (t105.toList == t106.toList)))) else (some false))) else (some false))
def spec_SameOut.T1 : Bool × List (List Nat × List Nat) := (true, [([], []), ([0], [0]), ([1, 1], [1]), ([2], [2]), ([3, 2, 2], [2, 3]), ([2, 4], [2, 4]), ([5, 4], [5]), ([6], [6]), ([7, 6, 6], [6, 7]), ([6], [6]), ([9, 8, 6], [6, 9]), ([8, 10, 6], [6, 8, 10]), ([6, 11], [6, 11]), ([12, 10, 0, 1, 2, 3, 4, 5, 6, 7, 8, 9, 10, 11, 12], [12])])
def spec_SameOut.B1 : List Nat := [0, 1, 3, 7, 15, 31, 63, 127, 255, 127, 1023, 2047, 4095, 8191]
theorem spec_SameOut.tab1 : rtab .any (opsOf Try.f26 1) = spec_SameOut.T1 := by kernel_rfl
theorem spec_SameOut.bits1 : waitsOk spec_SameOut.T1.2 spec_SameOut.B1 = true := by kernel_rfl
def spec_SameOut.y0 : Array Bool := #[false, false, false, false, false, false, false, false, false, false, false, false, false, false]
def spec_SameOut.y1 : Array Bool := #[true, false, false, false, false, false, false, false, false, false, false, false, false, false]
def spec_SameOut.y2 : Array Bool := #[true, true, false, false, false, false, false, false, false, false, false, false, false, false]
def spec_SameOut.y3 : Array Bool := #[true, true, true, false, false, false, false, false, false, false, false, false, false, false]
def spec_SameOut.y4 : Array Bool := #[true, true, true, true, false, false, false, false, false, false, false, false, false, false]
def spec_SameOut.y5 : Array Bool := #[true, true, true, true, true, false, false, false, false, false, false, false, false, false]
def spec_SameOut.y6 : Array Bool := #[true, true, true, true, true, true, false, false, false, false, false, false, false, false]
def spec_SameOut.y7 : Array Bool := #[true, true, true, true, true, true, true, false, false, false, false, false, false, false]
def spec_SameOut.y8 : Array Bool := #[true, true, true, true, true, true, true, true, false, false, false, false, false, false]
def spec_SameOut.y9 : Array Bool := #[true, true, true, true, true, true, true, true, false, true, false, false, false, false]
def spec_SameOut.y10 : Array Bool := #[true, true, true, true, true, true, true, true, true, true, false, false, false, false]
def spec_SameOut.y11 : Array Bool := #[true, true, true, true, true, true, true, true, true, true, true, false, false, false]
def spec_SameOut.y12 : Array Bool := #[true, true, true, true, true, true, true, true, true, true, true, true, false, false]
def spec_SameOut.y13 : Array Bool := #[true, true, true, true, true, true, true, true, true, true, true, true, true, false]
def spec_SameOut.y14 : Array Bool := #[true, true, true, true, true, true, true, true, true, true, true, true, true, true]
def spec_SameOut.y15 : Array Bool := #[true, true, true, true, true, true, true, true, true, false, false, false, false, false]
set_option maxHeartbeats 8000000 in
set_option maxRecDepth 100000 in
theorem spec_SameOut.calls (k : Nat) (a0_0 : Int) (a0_1 : Int) (a0_2 : ByteArray) (A0_3 : Option Addr) (c0_3 : Nat) (l0_3 : List ByteArray) (A0_4 : Option Addr) (c0_4 : Nat) (l0_4 : List (S46)) (a1_0 : Int) (a1_1 : Int) (a1_2 : ByteArray) (A1_3 : Option Addr) (c1_3 : Nat) (l1_3 : List ByteArray) (A1_4 : Option Addr) (c1_4 : Nat) (l1_4 : List (S46)) (r : Bool) (w : World) (hr0_3 : Kd.C Kd.string w A0_3 l0_3.length l0_3) (hc0_3 : l0_3.length ≤ c0_3) (hr0_4 : Kd.C k46 w A0_4 l0_4.length l0_4) (hc0_4 : l0_4.length ≤ c0_4) (hr1_3 : Kd.C Kd.string w A1_3 l1_3.length l1_3) (hc1_3 : l1_3.length ≤ c1_3) (hr1_4 : Kd.C k46 w A1_4 l1_4.length l1_4) (hc1_4 : l1_4.length ≤ c1_4) (h : spec_SameOut.f k a0_0 a0_1 a0_2 l0_3 l0_4 a1_0 a1_1 a1_2 l1_3 l1_4 = some r) :
  Calls Try.prog 26 #[.agg #[.int .i64 a0_0, .int .i64 a0_1, .string a0_2, .slice A0_3 l0_3.length c0_3, .slice A0_4 l0_4.length c0_4], .agg #[.int .i64 a1_0, .int .i64 a1_1, .string a1_2, .slice A1_3 l1_3.length c1_3, .slice A1_4 l1_4.length c1_4]] w fun e w' => e = .returned (.bool r) ∧ Below w.heap.size w w' := by
 have hu46 := Try.underlying46; have HR0_3 := qO hr0_3; have HC0_3 := qO hc0_3; clear hr0_3 hc0_3; have HR0_4 := qO hr0_4; have HC0_4 := qO hc0_4; clear hr0_4 hc0_4; have HR1_3 := qO hr1_3; have HC1_3 := qO hc1_3; clear hr1_3 hc1_3; have HR1_4 := qO hr1_4; have HC1_4 := qO hc1_4; clear hr1_4 hc1_4; have HB := qO (Below.refl w.heap.size w); have H : ((spec_OutOK.f k a0_0 a0_1 a0_2 l0_3 l0_4).bind fun t103 => (if t103 = true then ((spec_OutOK.f k a1_0 a1_1 a1_2 l1_3 l1_4).bind fun t104 => (if t104 = true then ((spec_l08Text.f k a0_0 a0_1 a0_2 l0_3 l0_4).bind fun t105 => ((spec_l08Text.f k a1_0 a1_1 a1_2 l1_3 l1_4).bind fun t106 => (some (t105.toList == t106.toList)))) else (some false))) else (some false))) = some r := h; clear h; replace H := Option.bind_eq_some_iff.mp H; obtain ⟨t103, A30, H⟩ := H; replace H : (if t103 = true then ((spec_OutOK.f k a1_0 a1_1 a1_2 l1_3 l1_4).bind fun t104 => (if t104 = true then ((spec_l08Text.f k a0_0 a0_1 a0_2 l0_3 l0_4).bind fun t105 => ((spec_l08Text.f k a1_0 a1_1 a1_2 l1_3 l1_4).bind fun t106 => (some (t105.toList == t106.toList)))) else (some false))) else (some false)) = some r := H; have A3 := qO A30; clear A30
 by_cases c4 : t103 = true
 ·subst c4
  have H1 : ((spec_OutOK.f k a1_0 a1_1 a1_2 l1_3 l1_4).bind fun t104 => (if t104 = true then ((spec_l08Text.f k a0_0 a0_1 a0_2 l0_3 l0_4).bind fun t105 => ((spec_l08Text.f k a1_0 a1_1 a1_2 l1_3 l1_4).bind fun t106 => (some (t105.toList == t106.toList)))) else (some false))) = some r := by rw [if_pos rfl] at H; exact H
  clear H; have H := H1; clear H1; replace H := Option.bind_eq_some_iff.mp H; obtain ⟨t104, A50, H⟩ := H; replace H : (if t104 = true then ((spec_l08Text.f k a0_0 a0_1 a0_2 l0_3 l0_4).bind fun t105 => ((spec_l08Text.f k a1_0 a1_1 a1_2 l1_3 l1_4).bind fun t106 => (some (t105.toList == t106.toList)))) else (some false)) = some r := H; have A5 := qO A50; clear A50
  by_cases c6 : t104 = true
  ·subst c6
   have H1 : ((spec_l08Text.f k a0_0 a0_1 a0_2 l0_3 l0_4).bind fun t105 => ((spec_l08Text.f k a1_0 a1_1 a1_2 l1_3 l1_4).bind fun t106 => (some (t105.toList == t106.toList)))) = some r := by rw [if_pos rfl] at H; exact H
   clear H; have H := H1; clear H1; replace H := Option.bind_eq_some_iff.mp H; obtain ⟨t105, A70, H⟩ := H; replace H : ((spec_l08Text.f k a1_0 a1_1 a1_2 l1_3 l1_4).bind fun t106 => (some (t105.toList == t106.toList))) = some r := H; have A7 := qO A70; clear A70; replace H := Option.bind_eq_some_iff.mp H; obtain ⟨t106, A80, H⟩ := H; replace H : (some (t105.toList == t106.toList)) = some r := H; have A8 := qO A80; clear A80; obtain rfl := Option.some.inj H
   go_enter Try.func26, Try.ntmps26
   try go_wp2_with (first | ((with_reducible refine gate_dst (N := 2) rfl ?_); refine box_event ?hg (N := 2) ?hd (cs := #[.int .i64 a0_0, .int .i64 a0_1, .string a0_2, .slice A0_3 l0_3.length c0_3, .slice A0_4 l0_4.length c0_4]) (t := 46) ?hr ?_; (case hd => rfl); (case hg => rfl); (case hr => exact qa21); intro gb101 hg w9 hbox hb; have hx_ := qHX HB hb qa0; have n0_ := qO (below_step (below_step HB.out hx_) hb); have n1_ := qO (hbox); have n2_ := qO ((qa15 : w.heap.size ≤ gb101)); have n3_ := n2_; clear HB; have HB := n0_; have BK101 := n1_; have GW101 := n2_; have GE101 := n3_; clear n0_ n1_ n2_ n3_; clear hx_; clear hb hbox hg) | ((with_reducible refine gate_dst (N := 3) rfl ?_); refine box_event ?hg (N := 3) ?hd (cs := #[.int .i64 a1_0, .int .i64 a1_1, .string a1_2, .slice A1_3 l1_3.length c1_3, .slice A1_4 l1_4.length c1_4]) (t := 46) ?hr ?_; (case hd => rfl); (case hg => rfl); (case hr => exact qa21); intro gb102 hg w10 hbox hb; have hx_ := qHX HB hb qa0; have n0_ := qO (qB BK101.out hx_ hb); have n1_ := qO (below_step (below_step HB.out hx_) hb); have n2_ := qO (hbox); have n3_ := qO ((qa15 : w.heap.size ≤ gb102)); have n4_ := n3_; have n5_ := qO ((qa7 : gb101 ≠ gb102)); have n6_ := qO (Ne.symm n5_.out); clear BK101; clear HB; have BK101 := n0_; have HB := n1_; have BK102 := n2_; have GW102 := n3_; have GE102 := n4_; have NB101_102 := n5_; have NB102_101 := n6_; clear n0_ n1_ n2_ n3_ n4_ n5_ n6_; clear hx_; clear hb hbox hg))
   have n0_ := qO (qkD BK101.out); have n1_ := qO (qkD BK102.out); have n2_ := qO (qbD HB.out); clear BK101; clear BK102; clear HB; have BK101 := n0_; have BK102 := n1_; have HB := n2_; clear n0_ n1_ n2_; refine start_ (n := 14) (S := fun w' => w'.cell? ⟨gb101, 0, none⟩ = some (.int .i64 a0_0) ∧ w'.cell? ⟨gb101, 1, none⟩ = some (.int .i64 a0_1) ∧ w'.cell? ⟨gb101, 2, none⟩ = some (.string a0_2) ∧ w'.cell? ⟨gb101, 3, none⟩ = some (.slice A0_3 l0_3.length c0_3) ∧ w'.cell? ⟨gb101, 4, none⟩ = some (.slice A0_4 l0_4.length c0_4) ∧ w'.cell? ⟨gb102, 0, none⟩ = some (.int .i64 a1_0) ∧ w'.cell? ⟨gb102, 1, none⟩ = some (.int .i64 a1_1) ∧ w'.cell? ⟨gb102, 2, none⟩ = some (.string a1_2) ∧ w'.cell? ⟨gb102, 3, none⟩ = some (.slice A1_3 l1_3.length c1_3) ∧ w'.cell? ⟨gb102, 4, none⟩ = some (.slice A1_4 l1_4.length c1_4)) (ds := []) spec_SameOut.y0 qa10 rfl rfl ⟨(blk_cell BK101.out 0).trans rfl, (blk_cell BK101.out 1).trans rfl, (blk_cell BK101.out 2).trans rfl, (blk_cell BK101.out 3).trans rfl, (blk_cell BK101.out 4).trans rfl, (blk_cell BK102.out 0).trans rfl, (blk_cell BK102.out 1).trans rfl, (blk_cell BK102.out 2).trans rfl, (blk_cell BK102.out 3).trans rfl, (blk_cell BK102.out 4).trans rfl⟩ (fun hHeld => ?_); refine with_tabW spec_SameOut.tab1 spec_SameOut.bits1 (fun HT_ HW_ => ?_); generalize w10.drew = w11 at BK101 BK102 HB hHeld ⊢; refine take_ (i := 0) (N := some 5) (v := ?_) (a' := ?_) spec_SameOut.y1 rfl rfl (take_ofW HT_.out HW_.out qa10) (fun _ _ _ h => h) (Or.inl ⟨by rfl, ?_⟩) hHeld ?_ ?_; rotate_left; exact qa36; rotate_left; exact qa3; refine one_ (i := 1) (N := some 6) spec_SameOut.y2 rfl rfl (one_of HT_.out qa10) qa68 (fun K hK => ?_); refine goes_ Try.func22 qa10 rfl #[.agg #[.int .i64 a0_0, .int .i64 a0_1, .string a0_2, .slice A0_3 l0_3.length c0_3, .slice A0_4 l0_4.length c0_4]] (by rfl) rfl rfl qa1 ?_; (with_reducible refine (spec_OutOK.calls k a0_0 a0_1 a0_2 _ _ l0_3 _ _ l0_4 true _ ?side1 ?side2 ?side3 ?side4 A3.out).mono ?_); (case side1 => exact qa14); (case side2 => exact HC0_3.out); (case side3 => exact qa19); (case side4 => exact HC0_4.out); rintro e w12 ⟨rfl, hb⟩; have hx_ := qHX HB hb qa0; refine ⟨_, rfl, ?_⟩; have n0_ := qO (qB BK101.out hx_ hb); have n1_ := qO (qB BK102.out hx_ hb); have n2_ := qO (below_step (below_step HB.out hx_) hb); clear BK101; clear BK102; clear HB; have BK101 := n0_; have BK102 := n1_; have HB := n2_; clear n0_ n1_ n2_; clear hx_; (try clear hb); (try clear hb2); (try clear hk); (try clear hi); refine hK.out _ _ ⟨(blk_cell BK101.out 0).trans rfl, (blk_cell BK101.out 1).trans rfl, (blk_cell BK101.out 2).trans rfl, (blk_cell BK101.out 3).trans rfl, (blk_cell BK101.out 4).trans rfl, (blk_cell BK102.out 0).trans rfl, (blk_cell BK102.out 1).trans rfl, (blk_cell BK102.out 2).trans rfl, (blk_cell BK102.out 3).trans rfl, (blk_cell BK102.out 4).trans rfl⟩ (fun hHeld => ?_); clear hK K; refine norm_ (a' := ?_) ?_ ?_; rotate_left
   ·exact qa16
   refine pure_ (i := 2) (N := some 7) (v := ?_) (a' := ?_) spec_SameOut.y3 rfl rfl (any_of HT_.out qa10) (fun _ _ _ h => h) (Or.inl ⟨by rfl, ?_⟩) ?_ ?_; rotate_left; exact qa11; rotate_left; exact qa3; refine take_ (i := 3) (N := some 8) (v := ?_) (a' := ?_) spec_SameOut.y4 rfl rfl (take_ofW HT_.out HW_.out qa10) (fun _ _ _ h => h) (Or.inl ⟨by rfl, ?_⟩) hHeld ?_ ?_; rotate_left; exact qa36; rotate_left; exact qa3; refine one_ (i := 4) (N := some 9) spec_SameOut.y5 rfl rfl (one_of HT_.out qa10) qa68 (fun K hK => ?_); refine goes_ Try.func22 qa10 rfl #[.agg #[.int .i64 a1_0, .int .i64 a1_1, .string a1_2, .slice A1_3 l1_3.length c1_3, .slice A1_4 l1_4.length c1_4]] (by rfl) rfl rfl qa1 ?_; (with_reducible refine (spec_OutOK.calls k a1_0 a1_1 a1_2 _ _ l1_3 _ _ l1_4 true _ ?side1 ?side2 ?side3 ?side4 A5.out).mono ?_); (case side1 => exact qa18); (case side2 => exact HC1_3.out); (case side3 => exact qa29); (case side4 => exact HC1_4.out); rintro e w13 ⟨rfl, hb⟩; have hx_ := qHX HB hb qa0; refine ⟨_, rfl, ?_⟩; have n0_ := qO (qB BK101.out hx_ hb); have n1_ := qO (qB BK102.out hx_ hb); have n2_ := qO (below_step (below_step HB.out hx_) hb); clear BK101; clear BK102; clear HB; have BK101 := n0_; have BK102 := n1_; have HB := n2_; clear n0_ n1_ n2_; clear hx_; (try clear hb); (try clear hb2); (try clear hk); (try clear hi); refine hK.out _ _ ⟨(blk_cell BK101.out 0).trans rfl, (blk_cell BK101.out 1).trans rfl, (blk_cell BK101.out 2).trans rfl, (blk_cell BK101.out 3).trans rfl, (blk_cell BK101.out 4).trans rfl, (blk_cell BK102.out 0).trans rfl, (blk_cell BK102.out 1).trans rfl, (blk_cell BK102.out 2).trans rfl, (blk_cell BK102.out 3).trans rfl, (blk_cell BK102.out 4).trans rfl⟩ (fun hHeld => ?_); clear hK K; refine norm_ (a' := ?_) ?_ ?_; rotate_left
   ·exact qa16
   refine pure_ (i := 5) (N := some 10) (v := ?_) (a' := ?_) spec_SameOut.y6 rfl rfl (any_of HT_.out qa10) (fun _ _ _ h => h) (Or.inl ⟨by rfl, ?_⟩) ?_ ?_; rotate_left; exact qa11; rotate_left; exact qa3; refine pure_ (i := 6) (N := some 11) (v := ?_) (a' := ?_) spec_SameOut.y7 rfl rfl (any_of HT_.out qa10) (fun _ _ _ h => h) (Or.inl ⟨by rfl, ?_⟩) ?_ ?_; rotate_left; exact qa11; rotate_left; exact qa3; refine take_ (i := 7) (N := some 12) (v := ?_) (a' := ?_) spec_SameOut.y8 rfl rfl (take_ofW HT_.out HW_.out qa10) (fun _ _ _ h => h) (Or.inl ⟨by rfl, ?_⟩) hHeld ?_ ?_; rotate_left; exact qa36; rotate_left; exact qa3; refine take_ (i := 9) (N := some 14) (v := ?_) (a' := ?_) spec_SameOut.y9 rfl rfl (take_ofW HT_.out HW_.out qa10) (fun _ _ _ h => h) (Or.inl ⟨by rfl, ?_⟩) hHeld ?_ ?_; rotate_left; exact qa36; rotate_left; exact qa3; refine one_ (i := 8) (N := some 13) spec_SameOut.y10 rfl rfl (one_of HT_.out qa10) qa68 (fun K hK => ?_); refine goes_ Try.func66 qa10 rfl #[.agg #[.int .i64 a0_0, .int .i64 a0_1, .string a0_2, .slice A0_3 l0_3.length c0_3, .slice A0_4 l0_4.length c0_4]] (by rfl) rfl rfl qa1 ?_; (with_reducible refine (spec_l08Text.calls k a0_0 a0_1 a0_2 _ _ l0_3 _ _ l0_4 t105 _ ?side1 ?side2 ?side3 ?side4 A7.out).mono ?_); (case side1 => exact qa14); (case side2 => exact HC0_3.out); (case side3 => exact qa19); (case side4 => exact HC0_4.out); rintro e w14 ⟨rfl, hb⟩; have hx_ := qHX HB hb qa0; refine ⟨_, rfl, ?_⟩; have n0_ := qO (qB BK101.out hx_ hb); have n1_ := qO (qB BK102.out hx_ hb); have n2_ := qO (below_step (below_step HB.out hx_) hb); clear BK101; clear BK102; clear HB; have BK101 := n0_; have BK102 := n1_; have HB := n2_; clear n0_ n1_ n2_; clear hx_; (try clear hb); (try clear hb2); (try clear hk); (try clear hi); refine hK.out _ _ ⟨(blk_cell BK101.out 0).trans rfl, (blk_cell BK101.out 1).trans rfl, (blk_cell BK101.out 2).trans rfl, (blk_cell BK101.out 3).trans rfl, (blk_cell BK101.out 4).trans rfl, (blk_cell BK102.out 0).trans rfl, (blk_cell BK102.out 1).trans rfl, (blk_cell BK102.out 2).trans rfl, (blk_cell BK102.out 3).trans rfl, (blk_cell BK102.out 4).trans rfl⟩ (fun hHeld => ?_); clear hK K; refine norm_ (a' := ?_) ?_ ?_; rotate_left
   ·exact qa16
   refine one_ (i := 10) (N := some 15) spec_SameOut.y11 rfl rfl (one_of HT_.out qa10) qa68 (fun K hK => ?_); refine goes_ Try.func66 qa10 rfl #[.agg #[.int .i64 a1_0, .int .i64 a1_1, .string a1_2, .slice A1_3 l1_3.length c1_3, .slice A1_4 l1_4.length c1_4]] (by rfl) rfl rfl qa1 ?_; (with_reducible refine (spec_l08Text.calls k a1_0 a1_1 a1_2 _ _ l1_3 _ _ l1_4 t106 _ ?side1 ?side2 ?side3 ?side4 A8.out).mono ?_); (case side1 => exact qa18); (case side2 => exact HC1_3.out); (case side3 => exact qa29); (case side4 => exact HC1_4.out); rintro e w15 ⟨rfl, hb⟩; have hx_ := qHX HB hb qa0; refine ⟨_, rfl, ?_⟩; have n0_ := qO (qB BK101.out hx_ hb); have n1_ := qO (qB BK102.out hx_ hb); have n2_ := qO (below_step (below_step HB.out hx_) hb); clear BK101; clear BK102; clear HB; have BK101 := n0_; have BK102 := n1_; have HB := n2_; clear n0_ n1_ n2_; clear hx_; (try clear hb); (try clear hb2); (try clear hk); (try clear hi); refine hK.out _ _ ⟨(blk_cell BK101.out 0).trans rfl, (blk_cell BK101.out 1).trans rfl, (blk_cell BK101.out 2).trans rfl, (blk_cell BK101.out 3).trans rfl, (blk_cell BK101.out 4).trans rfl, (blk_cell BK102.out 0).trans rfl, (blk_cell BK102.out 1).trans rfl, (blk_cell BK102.out 2).trans rfl, (blk_cell BK102.out 3).trans rfl, (blk_cell BK102.out 4).trans rfl⟩ (fun hHeld => ?_); clear hK K; refine norm_ (a' := ?_) ?_ ?_; rotate_left
   ·exact qa16
   refine pure_ (i := 11) (N := some 16) (v := ?_) (a' := ?_) spec_SameOut.y12 rfl rfl (any_of HT_.out qa10) (fun _ _ _ h => h) (Or.inl ⟨by rfl, ?_⟩) ?_ ?_; rotate_left; exact qa11; rotate_left; exact qa3; refine pure_ (i := 12) (N := some 17) (v := ?_) (a' := ?_) spec_SameOut.y13 rfl rfl (any_of HT_.out qa10) (fun _ _ _ h => h) (Or.inl ⟨by rfl, ?_⟩) ?_ ?_; rotate_left; exact qa11; rotate_left; exact qa3; refine pure_ (i := 13) (N := some 4) (v := ?_) (a' := ?_) spec_SameOut.y14 rfl rfl (any_of HT_.out qa10) (fun _ _ _ h => h) (Or.inl ⟨by rfl, ?_⟩) ?_ ?_; rotate_left; exact qa11; rotate_left; exact qa3; refine done_ (done_of HT_.out qa10) ?_
   try go_wp2
   go_ret
   exact ⟨qa4, qa8⟩
  ·replace c6 := Bool.eq_false_iff.mpr c6
   subst c6; have H1 : (some false) = some r := by rw [if_neg (show ¬ (false = true) by decide)] at H; exact H
   clear H; have H := H1; clear H1; obtain rfl := Option.some.inj H
   go_enter Try.func26, Try.ntmps26
   try go_wp2_with (first | ((with_reducible refine gate_dst (N := 2) rfl ?_); refine box_event ?hg (N := 2) ?hd (cs := #[.int .i64 a0_0, .int .i64 a0_1, .string a0_2, .slice A0_3 l0_3.length c0_3, .slice A0_4 l0_4.length c0_4]) (t := 46) ?hr ?_; (case hd => rfl); (case hg => rfl); (case hr => exact qa21); intro gb101 hg w16 hbox hb; have hx_ := qHX HB hb qa0; have n0_ := qO (below_step (below_step HB.out hx_) hb); have n1_ := qO (hbox); have n2_ := qO ((qa15 : w.heap.size ≤ gb101)); have n3_ := n2_; clear HB; have HB := n0_; have BK101 := n1_; have GW101 := n2_; have GE101 := n3_; clear n0_ n1_ n2_ n3_; clear hx_; clear hb hbox hg) | ((with_reducible refine gate_dst (N := 3) rfl ?_); refine box_event ?hg (N := 3) ?hd (cs := #[.int .i64 a1_0, .int .i64 a1_1, .string a1_2, .slice A1_3 l1_3.length c1_3, .slice A1_4 l1_4.length c1_4]) (t := 46) ?hr ?_; (case hd => rfl); (case hg => rfl); (case hr => exact qa21); intro gb102 hg w17 hbox hb; have hx_ := qHX HB hb qa0; have n0_ := qO (qB BK101.out hx_ hb); have n1_ := qO (below_step (below_step HB.out hx_) hb); have n2_ := qO (hbox); have n3_ := qO ((qa15 : w.heap.size ≤ gb102)); have n4_ := n3_; have n5_ := qO ((qa7 : gb101 ≠ gb102)); have n6_ := qO (Ne.symm n5_.out); clear BK101; clear HB; have BK101 := n0_; have HB := n1_; have BK102 := n2_; have GW102 := n3_; have GE102 := n4_; have NB101_102 := n5_; have NB102_101 := n6_; clear n0_ n1_ n2_ n3_ n4_ n5_ n6_; clear hx_; clear hb hbox hg))
   have n0_ := qO (qkD BK101.out); have n1_ := qO (qkD BK102.out); have n2_ := qO (qbD HB.out); clear BK101; clear BK102; clear HB; have BK101 := n0_; have BK102 := n1_; have HB := n2_; clear n0_ n1_ n2_; refine start_ (n := 14) (S := fun w' => w'.cell? ⟨gb101, 0, none⟩ = some (.int .i64 a0_0) ∧ w'.cell? ⟨gb101, 1, none⟩ = some (.int .i64 a0_1) ∧ w'.cell? ⟨gb101, 2, none⟩ = some (.string a0_2) ∧ w'.cell? ⟨gb101, 3, none⟩ = some (.slice A0_3 l0_3.length c0_3) ∧ w'.cell? ⟨gb101, 4, none⟩ = some (.slice A0_4 l0_4.length c0_4) ∧ w'.cell? ⟨gb102, 0, none⟩ = some (.int .i64 a1_0) ∧ w'.cell? ⟨gb102, 1, none⟩ = some (.int .i64 a1_1) ∧ w'.cell? ⟨gb102, 2, none⟩ = some (.string a1_2) ∧ w'.cell? ⟨gb102, 3, none⟩ = some (.slice A1_3 l1_3.length c1_3) ∧ w'.cell? ⟨gb102, 4, none⟩ = some (.slice A1_4 l1_4.length c1_4)) (ds := []) spec_SameOut.y0 qa10 rfl rfl ⟨(blk_cell BK101.out 0).trans rfl, (blk_cell BK101.out 1).trans rfl, (blk_cell BK101.out 2).trans rfl, (blk_cell BK101.out 3).trans rfl, (blk_cell BK101.out 4).trans rfl, (blk_cell BK102.out 0).trans rfl, (blk_cell BK102.out 1).trans rfl, (blk_cell BK102.out 2).trans rfl, (blk_cell BK102.out 3).trans rfl, (blk_cell BK102.out 4).trans rfl⟩ (fun hHeld => ?_); refine with_tabW spec_SameOut.tab1 spec_SameOut.bits1 (fun HT_ HW_ => ?_); generalize w17.drew = w18 at BK101 BK102 HB hHeld ⊢; refine take_ (i := 0) (N := some 5) (v := ?_) (a' := ?_) spec_SameOut.y1 rfl rfl (take_ofW HT_.out HW_.out qa10) (fun _ _ _ h => h) (Or.inl ⟨by rfl, ?_⟩) hHeld ?_ ?_; rotate_left; exact qa36; rotate_left; exact qa3; refine one_ (i := 1) (N := some 6) spec_SameOut.y2 rfl rfl (one_of HT_.out qa10) qa68 (fun K hK => ?_); refine goes_ Try.func22 qa10 rfl #[.agg #[.int .i64 a0_0, .int .i64 a0_1, .string a0_2, .slice A0_3 l0_3.length c0_3, .slice A0_4 l0_4.length c0_4]] (by rfl) rfl rfl qa1 ?_; (with_reducible refine (spec_OutOK.calls k a0_0 a0_1 a0_2 _ _ l0_3 _ _ l0_4 true _ ?side1 ?side2 ?side3 ?side4 A3.out).mono ?_); (case side1 => exact qa14); (case side2 => exact HC0_3.out); (case side3 => exact qa19); (case side4 => exact HC0_4.out); rintro e w19 ⟨rfl, hb⟩; have hx_ := qHX HB hb qa0; refine ⟨_, rfl, ?_⟩; have n0_ := qO (qB BK101.out hx_ hb); have n1_ := qO (qB BK102.out hx_ hb); have n2_ := qO (below_step (below_step HB.out hx_) hb); clear BK101; clear BK102; clear HB; have BK101 := n0_; have BK102 := n1_; have HB := n2_; clear n0_ n1_ n2_; clear hx_; (try clear hb); (try clear hb2); (try clear hk); (try clear hi); refine hK.out _ _ ⟨(blk_cell BK101.out 0).trans rfl, (blk_cell BK101.out 1).trans rfl, (blk_cell BK101.out 2).trans rfl, (blk_cell BK101.out 3).trans rfl, (blk_cell BK101.out 4).trans rfl, (blk_cell BK102.out 0).trans rfl, (blk_cell BK102.out 1).trans rfl, (blk_cell BK102.out 2).trans rfl, (blk_cell BK102.out 3).trans rfl, (blk_cell BK102.out 4).trans rfl⟩ (fun hHeld => ?_); clear hK K; refine norm_ (a' := ?_) ?_ ?_; rotate_left
   ·exact qa16
   refine pure_ (i := 2) (N := some 7) (v := ?_) (a' := ?_) spec_SameOut.y3 rfl rfl (any_of HT_.out qa10) (fun _ _ _ h => h) (Or.inl ⟨by rfl, ?_⟩) ?_ ?_; rotate_left; exact qa11; rotate_left; exact qa3; refine take_ (i := 3) (N := some 8) (v := ?_) (a' := ?_) spec_SameOut.y4 rfl rfl (take_ofW HT_.out HW_.out qa10) (fun _ _ _ h => h) (Or.inl ⟨by rfl, ?_⟩) hHeld ?_ ?_; rotate_left; exact qa36; rotate_left; exact qa3; refine one_ (i := 4) (N := some 9) spec_SameOut.y5 rfl rfl (one_of HT_.out qa10) qa68 (fun K hK => ?_); refine goes_ Try.func22 qa10 rfl #[.agg #[.int .i64 a1_0, .int .i64 a1_1, .string a1_2, .slice A1_3 l1_3.length c1_3, .slice A1_4 l1_4.length c1_4]] (by rfl) rfl rfl qa1 ?_; (with_reducible refine (spec_OutOK.calls k a1_0 a1_1 a1_2 _ _ l1_3 _ _ l1_4 false _ ?side1 ?side2 ?side3 ?side4 A5.out).mono ?_); (case side1 => exact qa18); (case side2 => exact HC1_3.out); (case side3 => exact qa29); (case side4 => exact HC1_4.out); rintro e w20 ⟨rfl, hb⟩; have hx_ := qHX HB hb qa0; refine ⟨_, rfl, ?_⟩; have n0_ := qO (qB BK101.out hx_ hb); have n1_ := qO (qB BK102.out hx_ hb); have n2_ := qO (below_step (below_step HB.out hx_) hb); clear BK101; clear BK102; clear HB; have BK101 := n0_; have BK102 := n1_; have HB := n2_; clear n0_ n1_ n2_; clear hx_; (try clear hb); (try clear hb2); (try clear hk); (try clear hi); refine hK.out _ _ ⟨(blk_cell BK101.out 0).trans rfl, (blk_cell BK101.out 1).trans rfl, (blk_cell BK101.out 2).trans rfl, (blk_cell BK101.out 3).trans rfl, (blk_cell BK101.out 4).trans rfl, (blk_cell BK102.out 0).trans rfl, (blk_cell BK102.out 1).trans rfl, (blk_cell BK102.out 2).trans rfl, (blk_cell BK102.out 3).trans rfl, (blk_cell BK102.out 4).trans rfl⟩ (fun hHeld => ?_); clear hK K; refine norm_ (a' := ?_) ?_ ?_; rotate_left
   ·exact qa16
   refine pure_ (i := 5) (N := some 10) (v := ?_) (a' := ?_) spec_SameOut.y6 rfl rfl (any_of HT_.out qa10) (fun _ _ _ h => h) (Or.inl ⟨by rfl, ?_⟩) ?_ ?_; rotate_left; exact qa11; rotate_left; exact qa3; refine pure_ (i := 6) (N := some 11) (v := ?_) (a' := ?_) spec_SameOut.y7 rfl rfl (any_of HT_.out qa10) (fun _ _ _ h => h) (Or.inl ⟨by rfl, ?_⟩) ?_ ?_; rotate_left; exact qa11; rotate_left; exact qa3; refine pure_ (i := 7) (N := some 12) (v := undef) (a' := ?_) spec_SameOut.y8 rfl rfl (any_of HT_.out qa10) (fun _ _ _ h => h) (Or.inr ⟨by rfl, rfl⟩) ?_ ?_; rotate_left
   ·simp only [Act.put, qzA, qzB, qzC, i64_w, i32_w]
    rfl
   refine pure_ (i := 8) (N := some 13) (v := undef) (a' := ?_) spec_SameOut.y15 rfl rfl (any_of HT_.out qa10) (fun _ _ _ h => h) (Or.inr ⟨by rfl, rfl⟩) ?_ ?_; rotate_left
   ·simp only [Act.put, qzA, qzB, qzC, i64_w, i32_w]
    rfl
   refine pure_ (i := 9) (N := some 14) (v := undef) (a' := ?_) spec_SameOut.y10 rfl rfl (any_of HT_.out qa10) (fun _ _ _ h => h) (Or.inr ⟨by rfl, rfl⟩) ?_ ?_; rotate_left
   ·simp only [Act.put, qzA, qzB, qzC, i64_w, i32_w]
    rfl
   refine pure_ (i := 10) (N := some 15) (v := undef) (a' := ?_) spec_SameOut.y11 rfl rfl (any_of HT_.out qa10) (fun _ _ _ h => h) (Or.inr ⟨by rfl, rfl⟩) ?_ ?_; rotate_left
   ·simp only [Act.put, qzA, qzB, qzC, i64_w, i32_w]
    rfl
   refine pure_ (i := 11) (N := some 16) (v := undef) (a' := ?_) spec_SameOut.y12 rfl rfl (any_of HT_.out qa10) (fun _ _ _ h => h) (Or.inr ⟨by rfl, rfl⟩) ?_ ?_; rotate_left
   ·simp only [Act.put, qzA, qzB, qzC, i64_w, i32_w]
    rfl
   refine pure_ (i := 12) (N := some 17) (v := ?_) (a' := ?_) spec_SameOut.y13 rfl rfl (any_of HT_.out qa10) (fun _ _ _ h => h) (Or.inl ⟨by rfl, ?_⟩) ?_ ?_; rotate_left; exact qa11; rotate_left; exact qa3; refine pure_ (i := 13) (N := some 4) (v := ?_) (a' := ?_) spec_SameOut.y14 rfl rfl (any_of HT_.out qa10) (fun _ _ _ h => h) (Or.inl ⟨by rfl, ?_⟩) ?_ ?_; rotate_left; exact qa11; rotate_left; exact qa3; refine done_ (done_of HT_.out qa10) ?_
   try go_wp2
   go_ret
   exact ⟨qa4, qa8⟩
 ·replace c4 := Bool.eq_false_iff.mpr c4
  subst c4; have H1 : (some false) = some r := by rw [if_neg (show ¬ (false = true) by decide)] at H; exact H
  clear H; have H := H1; clear H1; obtain rfl := Option.some.inj H
  go_enter Try.func26, Try.ntmps26
  try go_wp2_with (first | ((with_reducible refine gate_dst (N := 2) rfl ?_); refine box_event ?hg (N := 2) ?hd (cs := #[.int .i64 a0_0, .int .i64 a0_1, .string a0_2, .slice A0_3 l0_3.length c0_3, .slice A0_4 l0_4.length c0_4]) (t := 46) ?hr ?_; (case hd => rfl); (case hg => rfl); (case hr => exact qa21); intro gb101 hg w21 hbox hb; have hx_ := qHX HB hb qa0; have n0_ := qO (below_step (below_step HB.out hx_) hb); have n1_ := qO (hbox); have n2_ := qO ((qa15 : w.heap.size ≤ gb101)); have n3_ := n2_; clear HB; have HB := n0_; have BK101 := n1_; have GW101 := n2_; have GE101 := n3_; clear n0_ n1_ n2_ n3_; clear hx_; clear hb hbox hg) | ((with_reducible refine gate_dst (N := 3) rfl ?_); refine box_event ?hg (N := 3) ?hd (cs := #[.int .i64 a1_0, .int .i64 a1_1, .string a1_2, .slice A1_3 l1_3.length c1_3, .slice A1_4 l1_4.length c1_4]) (t := 46) ?hr ?_; (case hd => rfl); (case hg => rfl); (case hr => exact qa21); intro gb102 hg w22 hbox hb; have hx_ := qHX HB hb qa0; have n0_ := qO (qB BK101.out hx_ hb); have n1_ := qO (below_step (below_step HB.out hx_) hb); have n2_ := qO (hbox); have n3_ := qO ((qa15 : w.heap.size ≤ gb102)); have n4_ := n3_; have n5_ := qO ((qa7 : gb101 ≠ gb102)); have n6_ := qO (Ne.symm n5_.out); clear BK101; clear HB; have BK101 := n0_; have HB := n1_; have BK102 := n2_; have GW102 := n3_; have GE102 := n4_; have NB101_102 := n5_; have NB102_101 := n6_; clear n0_ n1_ n2_ n3_ n4_ n5_ n6_; clear hx_; clear hb hbox hg))
  have n0_ := qO (qkD BK101.out); have n1_ := qO (qkD BK102.out); have n2_ := qO (qbD HB.out); clear BK101; clear BK102; clear HB; have BK101 := n0_; have BK102 := n1_; have HB := n2_; clear n0_ n1_ n2_; refine start_ (n := 14) (S := fun w' => w'.cell? ⟨gb101, 0, none⟩ = some (.int .i64 a0_0) ∧ w'.cell? ⟨gb101, 1, none⟩ = some (.int .i64 a0_1) ∧ w'.cell? ⟨gb101, 2, none⟩ = some (.string a0_2) ∧ w'.cell? ⟨gb101, 3, none⟩ = some (.slice A0_3 l0_3.length c0_3) ∧ w'.cell? ⟨gb101, 4, none⟩ = some (.slice A0_4 l0_4.length c0_4)) (ds := []) spec_SameOut.y0 qa10 rfl rfl ⟨(blk_cell BK101.out 0).trans rfl, (blk_cell BK101.out 1).trans rfl, (blk_cell BK101.out 2).trans rfl, (blk_cell BK101.out 3).trans rfl, (blk_cell BK101.out 4).trans rfl⟩ (fun hHeld => ?_); refine with_tabW spec_SameOut.tab1 spec_SameOut.bits1 (fun HT_ HW_ => ?_); generalize w22.drew = w23 at BK101 BK102 HB hHeld ⊢; refine take_ (i := 0) (N := some 5) (v := ?_) (a' := ?_) spec_SameOut.y1 rfl rfl (take_ofW HT_.out HW_.out qa10) (fun _ _ _ h => h) (Or.inl ⟨by rfl, ?_⟩) hHeld ?_ ?_; rotate_left; exact qa63; rotate_left; exact qa3; refine one_ (i := 1) (N := some 6) spec_SameOut.y2 rfl rfl (one_of HT_.out qa10) qa68 (fun K hK => ?_); refine goes_ Try.func22 qa10 rfl #[.agg #[.int .i64 a0_0, .int .i64 a0_1, .string a0_2, .slice A0_3 l0_3.length c0_3, .slice A0_4 l0_4.length c0_4]] (by rfl) rfl rfl qa1 ?_; (with_reducible refine (spec_OutOK.calls k a0_0 a0_1 a0_2 _ _ l0_3 _ _ l0_4 false _ ?side1 ?side2 ?side3 ?side4 A3.out).mono ?_); (case side1 => exact qa14); (case side2 => exact HC0_3.out); (case side3 => exact qa19); (case side4 => exact HC0_4.out); rintro e w24 ⟨rfl, hb⟩; have hx_ := qHX HB hb qa0; refine ⟨_, rfl, ?_⟩; have n0_ := qO (qB BK101.out hx_ hb); have n1_ := qO (qB BK102.out hx_ hb); have n2_ := qO (below_step (below_step HB.out hx_) hb); clear BK101; clear BK102; clear HB; have BK101 := n0_; have BK102 := n1_; have HB := n2_; clear n0_ n1_ n2_; clear hx_; (try clear hb); (try clear hb2); (try clear hk); (try clear hi); refine hK.out _ _ ⟨(blk_cell BK101.out 0).trans rfl, (blk_cell BK101.out 1).trans rfl, (blk_cell BK101.out 2).trans rfl, (blk_cell BK101.out 3).trans rfl, (blk_cell BK101.out 4).trans rfl⟩ (fun hHeld => ?_); clear hK K; refine norm_ (a' := ?_) ?_ ?_; rotate_left
  ·exact qa16
  refine pure_ (i := 2) (N := some 7) (v := ?_) (a' := ?_) spec_SameOut.y3 rfl rfl (any_of HT_.out qa10) (fun _ _ _ h => h) (Or.inl ⟨by rfl, ?_⟩) ?_ ?_; rotate_left; exact qa11; rotate_left; exact qa3; refine pure_ (i := 3) (N := some 8) (v := undef) (a' := ?_) spec_SameOut.y4 rfl rfl (any_of HT_.out qa10) (fun _ _ _ h => h) (Or.inr ⟨by rfl, rfl⟩) ?_ ?_; rotate_left
  ·simp only [Act.put, qzA, qzB, qzC, i64_w, i32_w]
   rfl
  refine pure_ (i := 4) (N := some 9) (v := undef) (a' := ?_) spec_SameOut.y5 rfl rfl (any_of HT_.out qa10) (fun _ _ _ h => h) (Or.inr ⟨by rfl, rfl⟩) ?_ ?_; rotate_left
  ·simp only [Act.put, qzA, qzB, qzC, i64_w, i32_w]
   rfl
  refine pure_ (i := 5) (N := some 10) (v := ?_) (a' := ?_) spec_SameOut.y6 rfl rfl (any_of HT_.out qa10) (fun _ _ _ h => h) (Or.inl ⟨by rfl, ?_⟩) ?_ ?_; rotate_left; exact qa11; rotate_left; exact qa3; refine pure_ (i := 6) (N := some 11) (v := ?_) (a' := ?_) spec_SameOut.y7 rfl rfl (any_of HT_.out qa10) (fun _ _ _ h => h) (Or.inl ⟨by rfl, ?_⟩) ?_ ?_; rotate_left; exact qa11; rotate_left; exact qa3; refine pure_ (i := 7) (N := some 12) (v := undef) (a' := ?_) spec_SameOut.y8 rfl rfl (any_of HT_.out qa10) (fun _ _ _ h => h) (Or.inr ⟨by rfl, rfl⟩) ?_ ?_; rotate_left
  ·simp only [Act.put, qzA, qzB, qzC, i64_w, i32_w]
   rfl
  refine pure_ (i := 8) (N := some 13) (v := undef) (a' := ?_) spec_SameOut.y15 rfl rfl (any_of HT_.out qa10) (fun _ _ _ h => h) (Or.inr ⟨by rfl, rfl⟩) ?_ ?_; rotate_left
  ·simp only [Act.put, qzA, qzB, qzC, i64_w, i32_w]
   rfl
  refine pure_ (i := 9) (N := some 14) (v := undef) (a' := ?_) spec_SameOut.y10 rfl rfl (any_of HT_.out qa10) (fun _ _ _ h => h) (Or.inr ⟨by rfl, rfl⟩) ?_ ?_; rotate_left
  ·simp only [Act.put, qzA, qzB, qzC, i64_w, i32_w]
   rfl
  refine pure_ (i := 10) (N := some 15) (v := undef) (a' := ?_) spec_SameOut.y11 rfl rfl (any_of HT_.out qa10) (fun _ _ _ h => h) (Or.inr ⟨by rfl, rfl⟩) ?_ ?_; rotate_left
  ·simp only [Act.put, qzA, qzB, qzC, i64_w, i32_w]
   rfl
  refine pure_ (i := 11) (N := some 16) (v := undef) (a' := ?_) spec_SameOut.y12 rfl rfl (any_of HT_.out qa10) (fun _ _ _ h => h) (Or.inr ⟨by rfl, rfl⟩) ?_ ?_; rotate_left
  ·simp only [Act.put, qzA, qzB, qzC, i64_w, i32_w]
   rfl
  refine pure_ (i := 12) (N := some 17) (v := ?_) (a' := ?_) spec_SameOut.y13 rfl rfl (any_of HT_.out qa10) (fun _ _ _ h => h) (Or.inl ⟨by rfl, ?_⟩) ?_ ?_; rotate_left; exact qa11; rotate_left; exact qa3; refine pure_ (i := 13) (N := some 4) (v := ?_) (a' := ?_) spec_SameOut.y14 rfl rfl (any_of HT_.out qa10) (fun _ _ _ h => h) (Or.inl ⟨by rfl, ?_⟩) ?_ ?_; rotate_left; exact qa11; rotate_left; exact qa3; refine done_ (done_of HT_.out qa10) ?_
  try go_wp2
  go_ret
  exact ⟨qa4, qa8⟩


def impl_isLetter.f (a0 : Int) : Option (Bool) := if a0 ≥ 97 then (if a0 ≤ 122 then (some true) else (if a0 ≥ 65 then (if a0 ≤ 90 then (some true) else (some (a0 == 95))) else (some (a0 == 95)))) else (if a0 ≥ 65 then (if a0 ≤ 90 then (some true) else (some (a0 == 95))) else (some (a0 == 95)))
set_option maxHeartbeats 8000000 in
set_option maxRecDepth 100000 in
theorem impl_isLetter.calls (a0 : Int) (r : Bool) (w : World) (h : impl_isLetter.f a0 = some r) :
  Calls Try.prog 96 #[.int .u8 a0] w fun e w' => e = .returned (.bool r) ∧ Drawn0 w w' := by
 have H : (if a0 ≥ 97 then (if a0 ≤ 122 then (some true) else (if a0 ≥ 65 then (if a0 ≤ 90 then (some true) else (some (a0 == 95))) else (some (a0 == 95)))) else (if a0 ≥ 65 then (if a0 ≤ 90 then (some true) else (some (a0 == 95))) else (some (a0 == 95)))) = some r := h; clear h
 by_cases c2 : a0 ≥ 97
 ·rw [if_pos c2] at H
  have c2b0 : decide (97 ≤ a0) = true := decide_eq_true c2; clear c2
  by_cases c3 : a0 ≤ 122
  ·rw [if_pos c3] at H
   have c3b0 : decide (a0 ≤ 122) = true := decide_eq_true c3; clear c3; obtain rfl := Option.some.inj H
   go_enter Try.func96, Try.ntmps96
   go_wp2
   go_ret
   exact ⟨qa5, qa13⟩
  ·rw [if_neg c3] at H
   have c3b0 : decide (a0 ≤ 122) = false := decide_eq_false c3; clear c3
   by_cases c4 : a0 ≥ 65
   ·rw [if_pos c4] at H
    have c4b0 : decide (65 ≤ a0) = true := decide_eq_true c4; clear c4
    by_cases c5 : a0 ≤ 90
    ·rw [if_pos c5] at H
     have c5b0 : decide (a0 ≤ 90) = true := decide_eq_true c5; clear c5; obtain rfl := Option.some.inj H
     go_enter Try.func96, Try.ntmps96
     go_wp2
     go_ret
     exact ⟨qa5, qa13⟩
    ·rw [if_neg c5] at H
     have c5b0 : decide (a0 ≤ 90) = false := decide_eq_false c5; clear c5; obtain rfl := Option.some.inj H
     go_enter Try.func96, Try.ntmps96
     go_wp2
     go_ret
     exact ⟨qa5, qa13⟩
   ·rw [if_neg c4] at H
    have c4b0 : decide (65 ≤ a0) = false := decide_eq_false c4; clear c4; obtain rfl := Option.some.inj H
    go_enter Try.func96, Try.ntmps96
    go_wp2
    go_ret
    exact ⟨qa5, qa13⟩
 ·rw [if_neg c2] at H
  have c2b0 : decide (97 ≤ a0) = false := decide_eq_false c2; clear c2
  by_cases c6 : a0 ≥ 65
  ·rw [if_pos c6] at H
   have c6b0 : decide (65 ≤ a0) = true := decide_eq_true c6; clear c6
   by_cases c7 : a0 ≤ 90
   ·rw [if_pos c7] at H
    have c7b0 : decide (a0 ≤ 90) = true := decide_eq_true c7; clear c7; obtain rfl := Option.some.inj H
    go_enter Try.func96, Try.ntmps96
    go_wp2
    go_ret
    exact ⟨qa5, qa13⟩
   ·rw [if_neg c7] at H
    have c7b0 : decide (a0 ≤ 90) = false := decide_eq_false c7; clear c7; obtain rfl := Option.some.inj H
    go_enter Try.func96, Try.ntmps96
    go_wp2
    go_ret
    exact ⟨qa5, qa13⟩
  ·rw [if_neg c6] at H
   have c6b0 : decide (65 ≤ a0) = false := decide_eq_false c6; clear c6; obtain rfl := Option.some.inj H
   go_enter Try.func96, Try.ntmps96
   go_wp2
   go_ret
   exact ⟨qa5, qa13⟩


def impl_isDigit.f (a0 : Int) : Option (Bool) := if a0 ≥ 48 then (some (decide (a0 ≤ 57))) else (some false)
set_option maxHeartbeats 8000000 in
set_option maxRecDepth 100000 in
theorem impl_isDigit.calls (a0 : Int) (r : Bool) (w : World) (h : impl_isDigit.f a0 = some r) :
  Calls Try.prog 97 #[.int .u8 a0] w fun e w' => e = .returned (.bool r) ∧ Drawn0 w w' := by
 have H : (if a0 ≥ 48 then (some (decide (a0 ≤ 57))) else (some false)) = some r := h; clear h
 by_cases c2 : a0 ≥ 48
 ·rw [if_pos c2] at H
  have c2b0 : decide (48 ≤ a0) = true := decide_eq_true c2; clear c2; obtain rfl := Option.some.inj H
  go_enter Try.func97, Try.ntmps97
  go_wp2
  go_ret
  exact ⟨qa5, qa13⟩
 ·rw [if_neg c2] at H
  have c2b0 : decide (48 ≤ a0) = false := decide_eq_false c2; clear c2; obtain rfl := Option.some.inj H
  go_enter Try.func97, Try.ntmps97
  go_wp2
  go_ret
  exact ⟨qa5, qa13⟩


def impl_within.f (a0 : Int) (a1 : Int) (a2 : Int) : Option (Bool) := if a0 ≥ a1 then (some (decide (a0 ≤ a2))) else (some false)
set_option maxHeartbeats 8000000 in
set_option maxRecDepth 100000 in
theorem impl_within.calls (a0 : Int) (a1 : Int) (a2 : Int) (r : Bool) (w : World) (h : impl_within.f a0 a1 a2 = some r) :
  Calls Try.prog 98 #[.int .i64 a0, .int .i64 a1, .int .i64 a2] w fun e w' => e = .returned (.bool r) ∧ Drawn0 w w' := by
 have H : (if a0 ≥ a1 then (some (decide (a0 ≤ a2))) else (some false)) = some r := h; clear h
 by_cases c4 : a0 ≥ a1
 ·rw [if_pos c4] at H
  have c4b0 : decide (a1 ≤ a0) = true := decide_eq_true c4; clear c4; obtain rfl := Option.some.inj H
  go_enter Try.func98, Try.ntmps98
  go_wp2
  go_ret
  exact ⟨qa5, qa13⟩
 ·rw [if_neg c4] at H
  have c4b0 : decide (a1 ≤ a0) = false := decide_eq_false c4; clear c4; obtain rfl := Option.some.inj H
  go_enter Try.func98, Try.ntmps98
  go_wp2
  go_ret
  exact ⟨qa5, qa13⟩


def impl_NameOK.l0 : Nat → ByteArray → Int → Int → Option (Bool)
 | 0, _, _, _ => none
 | k + 1, x0, x5, x6 => if x6 < x5 then (if 0 ≤ x6 then (if x6 < (x0.size : Int) then ((impl_isLetter.f (bt x0 x6)).bind fun t102 => (if t102 = true then (impl_NameOK.l0 k x0 x5 (wrap64 (x6 + 1))) else (if x6 = 0 then (some false) else ((impl_isDigit.f (bt x0 x6)).bind fun t103 => (if t103 = true then (impl_NameOK.l0 k x0 x5 (wrap64 (x6 + 1))) else (some false)))))) else (none)) else (none)) else ((impl_within.f (x0.size : Int) 1 40).bind fun t101 => (some t101))
def impl_NameOK.f (k : Nat) (a0 : ByteArray) : Option (Bool) := impl_NameOK.l0 k a0 (a0.size : Int) 0
set_option maxHeartbeats 8000000 in
set_option maxRecDepth 100000 in
theorem impl_NameOK.calls (k : Nat) (a0 : ByteArray) (r : Bool) (w : World) (h : impl_NameOK.f k a0 = some r) :
  Calls Try.prog 52 #[.string a0] w fun e w' => e = .returned (.bool r) ∧ Drawn0 w w' := by
 have H : (impl_NameOK.l0 k a0 (a0.size : Int) 0) = some r := h; clear h; have H' := qO H; clear H
 go_enter Try.func52, Try.ntmps52
 go_wp2
 go_loopg [6] k (fun kq v6 w' => ∃ (x6_1 : Int), v6 = .int .i64 x6_1 ∧ Aside0 (impl_NameOK.l0 kq a0 (a0.size : Int) x6_1 = some r) ∧ Aside0 (kq ≤ k) ∧ Drawn0 w w')
 case atStart => exact ⟨(0), qa5, H', ⟨Nat.le_refl _⟩, qa13⟩
 case round =>
  clear H'; obtain ⟨x6_1, rfl, HA, HK1, ⟨m1, rfl⟩⟩ := hrel
  cases gk with
  | zero => exact absurd HA.out (by simp [impl_NameOK.l0])
  | succ k1 =>
   have H := HA.out; clear HA; simp only [impl_NameOK.l0] at H
   by_cases c2 : x6_1 < (a0.size : Int)
   ·rw [if_pos c2] at H
    have c2b0 : decide (x6_1 < (a0.size : Int)) = true := decide_eq_true c2; clear c2
    by_cases c3 : 0 ≤ x6_1
    ·rw [if_pos c3] at H
     have c3b0 : decide (0 ≤ x6_1) = true := decide_eq_true c3; clear c3
     by_cases c4 : x6_1 < (a0.size : Int)
     ·rw [if_pos c4] at H
      have c4b0 : decide (x6_1 < (a0.size : Int)) = true := decide_eq_true c4; clear c4; replace H := Option.bind_eq_some_iff.mp H; obtain ⟨t102, A60, H⟩ := H; replace H : (if t102 = true then (impl_NameOK.l0 k1 a0 (a0.size : Int) (wrap64 (x6_1 + 1))) else (if x6_1 = 0 then (some false) else ((impl_isDigit.f (bt a0 x6_1)).bind fun t103 => (if t103 = true then (impl_NameOK.l0 k1 a0 (a0.size : Int) (wrap64 (x6_1 + 1))) else (some false))))) = some r := H; have A6 := qO A60; clear A60
      by_cases c7 : t102 = true
      ·subst c7
       have H1 : (impl_NameOK.l0 k1 a0 (a0.size : Int) (wrap64 (x6_1 + 1))) = some r := by rw [if_pos rfl] at H; exact H
       clear H; have H := H1; clear H1; have H' := qO H; clear H; have p5 : 0 ≤ (x6_1 : Int) := qT qa6; have q5 : x6_1 < (a0.size : Int) := qT qa6; have hx5 := bt_at a0 x6_1; replace p5 := eq_true p5; replace q5 := eq_true q5
       go_wp2_with (first | ((with_reducible refine gate_callee (f := 96) rfl ?_); refine goesL_ (some 12) rfl rfl Try.func96 qa10 rfl #[.int .u8 (bt a0 x6_1)] rfl qa1 ?_; (with_reducible refine (impl_isLetter.calls (bt a0 x6_1) true _ A6.out).mono ?_); rintro e w' ⟨rfl, ⟨nd, rfl⟩⟩; refine ⟨_, rfl, ?_⟩))
       go_roundg k1
       case measure => have := HK1.out; omega
       case rel => exact ⟨(wrap64 (x6_1 + 1)), qa5, H', ⟨qa66⟩, qa13⟩
      ·replace c7 := Bool.eq_false_iff.mpr c7
       subst c7; have H1 : (if x6_1 = 0 then (some false) else ((impl_isDigit.f (bt a0 x6_1)).bind fun t103 => (if t103 = true then (impl_NameOK.l0 k1 a0 (a0.size : Int) (wrap64 (x6_1 + 1))) else (some false)))) = some r := by rw [if_neg (show ¬ (false = true) by decide)] at H; exact H
       clear H; have H := H1; clear H1
       by_cases c8 : x6_1 = 0
       ·rw [if_pos c8] at H
        have c8b0 : (x6_1 == 0) = true := beq_iff_eq.mpr c8; have c8b1 : (x6_1 != 0) = false := bne_eq_false_iff_eq.mpr c8; clear c8; obtain rfl := Option.some.inj H; have p5 : 0 ≤ (x6_1 : Int) := qT qa6; have q5 : x6_1 < (a0.size : Int) := qT qa6; have hx5 := bt_at a0 x6_1; replace p5 := eq_true p5; replace q5 := eq_true q5
        go_wp2_with (first | ((with_reducible refine gate_callee (f := 96) rfl ?_); refine goesL_ (some 12) rfl rfl Try.func96 qa10 rfl #[.int .u8 (bt a0 x6_1)] rfl qa1 ?_; (with_reducible refine (impl_isLetter.calls (bt a0 x6_1) false _ A6.out).mono ?_); rintro e w' ⟨rfl, ⟨nd, rfl⟩⟩; refine ⟨_, rfl, ?_⟩))
        go_ret
        exact ⟨qa5, qa13⟩
       ·rw [if_neg c8] at H
        have c8b0 : (x6_1 == 0) = false := beq_eq_false_iff_ne.mpr c8; have c8b1 : (x6_1 != 0) = true := bne_iff_ne.mpr c8; replace H := Option.bind_eq_some_iff.mp H; obtain ⟨t103, A100, H⟩ := H; replace H : (if t103 = true then (impl_NameOK.l0 k1 a0 (a0.size : Int) (wrap64 (x6_1 + 1))) else (some false)) = some r := H; have A10 := qO A100; clear A100
        by_cases c11 : t103 = true
        ·subst c11
         have H1 : (impl_NameOK.l0 k1 a0 (a0.size : Int) (wrap64 (x6_1 + 1))) = some r := by rw [if_pos rfl] at H; exact H
         clear H; have H := H1; clear H1; have H' := qO H; clear H; have p5 : 0 ≤ (x6_1 : Int) := qT qa6; have q5 : x6_1 < (a0.size : Int) := qT qa6; have hx5 := bt_at a0 x6_1; replace p5 := eq_true p5; replace q5 := eq_true q5
         go_wp2_with (first | ((with_reducible refine gate_callee (f := 96) rfl ?_); refine goesL_ (some 12) rfl rfl Try.func96 qa10 rfl #[.int .u8 (bt a0 x6_1)] rfl qa1 ?_; (with_reducible refine (impl_isLetter.calls (bt a0 x6_1) false _ A6.out).mono ?_); rintro e w' ⟨rfl, ⟨nd, rfl⟩⟩; refine ⟨_, rfl, ?_⟩; have p9 : 0 ≤ (x6_1 : Int) := qT qa6; have q9 : x6_1 < (a0.size : Int) := qT qa6; have hx9 := bt_at a0 x6_1; replace p9 := eq_true p9; replace q9 := eq_true q9) | (go_at_call 97; (with_reducible refine (impl_isDigit.calls (bt a0 x6_1) true _ A10.out).mono ?_); rintro e w' ⟨rfl, ⟨nd, rfl⟩⟩))
         go_roundg k1
         case measure => have := HK1.out; omega
         case rel => exact ⟨(wrap64 (x6_1 + 1)), qa5, H', ⟨qa66⟩, qa13⟩
        ·replace c11 := Bool.eq_false_iff.mpr c11
         subst c11; have H1 : (some false) = some r := by rw [if_neg (show ¬ (false = true) by decide)] at H; exact H
         clear H; have H := H1; clear H1; obtain rfl := Option.some.inj H; have p5 : 0 ≤ (x6_1 : Int) := qT qa6; have q5 : x6_1 < (a0.size : Int) := qT qa6; have hx5 := bt_at a0 x6_1; replace p5 := eq_true p5; replace q5 := eq_true q5
         go_wp2_with (first | ((with_reducible refine gate_callee (f := 96) rfl ?_); refine goesL_ (some 12) rfl rfl Try.func96 qa10 rfl #[.int .u8 (bt a0 x6_1)] rfl qa1 ?_; (with_reducible refine (impl_isLetter.calls (bt a0 x6_1) false _ A6.out).mono ?_); rintro e w' ⟨rfl, ⟨nd, rfl⟩⟩; refine ⟨_, rfl, ?_⟩; have p9 : 0 ≤ (x6_1 : Int) := qT qa6; have q9 : x6_1 < (a0.size : Int) := qT qa6; have hx9 := bt_at a0 x6_1; replace p9 := eq_true p9; replace q9 := eq_true q9) | (go_at_call 97; (with_reducible refine (impl_isDigit.calls (bt a0 x6_1) false _ A10.out).mono ?_); rintro e w' ⟨rfl, ⟨nd, rfl⟩⟩))
         go_ret
         exact ⟨qa5, qa13⟩
     ·rw [if_neg c4] at H
      exact absurd H qa70
    ·rw [if_neg c3] at H
     exact absurd H qa70
   ·rw [if_neg c2] at H
    have c2b0 : decide (x6_1 < (a0.size : Int)) = false := decide_eq_false c2; clear c2; replace H := Option.bind_eq_some_iff.mp H; obtain ⟨t101, A120, H⟩ := H; replace H : (some t101) = some r := H; have A12 := qO A120; clear A120; obtain rfl := Option.some.inj H
    go_wp2_with (first | ((with_reducible refine gate_callee (f := 98) rfl ?_); refine goesL_ (some 28) rfl rfl Try.func98 qa10 rfl #[.int .i64 (a0.size : Int), .int .i64 1, .int .i64 40] rfl qa1 ?_; (with_reducible refine (impl_within.calls (a0.size : Int) 1 40 t101 _ A12.out).mono ?_); rintro e w' ⟨rfl, ⟨nd, rfl⟩⟩; refine ⟨_, rfl, ?_⟩))
    go_ret
    exact ⟨qa5, qa13⟩


def impl_IsInt.f (a0 : Int) : Option (Bool) := (impl_within.f a0 (-2147483648) 2147483647).bind fun t101 => (some t101)
set_option maxHeartbeats 8000000 in
set_option maxRecDepth 100000 in
theorem impl_IsInt.calls (a0 : Int) (r : Bool) (w : World) (h : impl_IsInt.f a0 = some r) :
  Calls Try.prog 99 #[.int .i64 a0] w fun e w' => e = .returned (.bool r) ∧ Drawn0 w w' := by
 have H : ((impl_within.f a0 (-2147483648) 2147483647).bind fun t101 => (some t101)) = some r := h; clear h; replace H := Option.bind_eq_some_iff.mp H; obtain ⟨t101, A20, H⟩ := H; replace H : (some t101) = some r := H; have A2 := qO A20; clear A20; obtain rfl := Option.some.inj H
 go_enter Try.func99, Try.ntmps99
 go_wp2_with (first | ((with_reducible refine gate_callee (f := 98) rfl ?_); refine goesL_ (some 4) rfl rfl Try.func98 qa10 rfl #[.int .i64 a0, .int .i64 (-2147483648), .int .i64 2147483647] rfl qa1 ?_; (with_reducible refine (impl_within.calls a0 (-2147483648) 2147483647 t101 _ A2.out).mono ?_); rintro e w' ⟨rfl, ⟨nd, rfl⟩⟩; refine ⟨_, rfl, ?_⟩))
 go_ret
 exact ⟨qa5, qa13⟩

end Go.Proofs.Ytfpkooafbeejmaa.Q
