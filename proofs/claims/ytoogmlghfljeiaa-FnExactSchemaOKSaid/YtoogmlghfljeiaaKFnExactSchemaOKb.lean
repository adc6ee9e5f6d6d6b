/- Texts of the claim on FnExactSchemaOK, gathered by a program of this session: what the program's functions compute (proved by walks), and the plain part. -/
import Derived.Test.YtoogmlghfljeiaaKFnExactSchemaOKa
namespace Go.Proofs.Ytoogmlghfljeiaa.Q
open Go.RowKit Go.Proofs.YtoogmlghfljeiaaW.PrintWords Go.Proofs.YtoogmlghfljeiaaW.PrintLast Go.Proofs.YtoogmlghfljeiaaW.PrintMore
attribute [local go_sem] max2_int min2_int max_two min_two max_three min_three max_four min_four
set_option linter.unusedVariables false
set_option linter.unusedSimpArgs false

mutual
def spec_SchemaOK.j0 : Nat → Bool → List (S53) → Option (Bool)
 | 0, _, _ => none
 | k + 1, x17, x102000 => if x17 = true then (some false) else (spec_SchemaOK.l0 k 0 x102000)
def spec_SchemaOK.l0 : Nat → Int → List (S53) → Option (Bool)
 | 0, _, _ => none
 | k + 1, x3, x102000 => if x3 < (x102000.length : Int) then (if 0 ≤ x3 then ((spec_NameOK.f k ((rd_T53 x102000 x3).f0)).bind fun t106 => (if t106 = true then (if ((rd_T53 x102000 x3).f0).toList = ([73, 110, 116] : List UInt8) then (spec_SchemaOK.j2 k x3 true x102000 ((rd_T53 x102000 x3).f0) ((rd_T53 x102000 x3).f1)) else ((spec_l03Find.f k x102000 ((rd_T53 x102000 x3).f0)).bind fun t107 => (if t107 = x3 then ((spec_l01In.f (((rd_T53 x102000 x3).f1).length : Int) 1 10).bind fun t108 => (spec_SchemaOK.j2 k x3 (!t108) x102000 ((rd_T53 x102000 x3).f0) ((rd_T53 x102000 x3).f1))) else (spec_SchemaOK.j2 k x3 true x102000 ((rd_T53 x102000 x3).f0) ((rd_T53 x102000 x3).f1))))) else (spec_SchemaOK.j2 k x3 true x102000 ((rd_T53 x102000 x3).f0) ((rd_T53 x102000 x3).f1)))) else (none)) else (some true)
def spec_SchemaOK.j2 : Nat → Int → Bool → List (S53) → ByteArray → List (S38) → Option (Bool)
 | 0, _, _, _, _, _ => none
 | k + 1, x3, x53, x102000, x106000, x106001 => if x53 = true then (some false) else (spec_SchemaOK.l1 k x3 0 x102000 x106000 x106001)
def spec_SchemaOK.l1 : Nat → Int → Int → List (S53) → ByteArray → List (S38) → Option (Bool)
 | 0, _, _, _, _, _ => none
 | k + 1, x3, x5, x102000, x106000, x106001 => if x5 < (x106001.length : Int) then (if 0 ≤ x5 then ((spec_NameOK.f k ((rd_T38 x106001 x5).f0)).bind fun t111 => (if t111 = true then (if ((rd_T38 x106001 x5).f0).toList = ([95, 95, 116, 121, 112, 101, 110, 97, 109, 101] : List UInt8) then (spec_SchemaOK.j4 k x3 x5 true x102000 x106000 x106001 ((rd_T38 x106001 x5).f0) ((rd_T38 x106001 x5).f1) ((rd_T38 x106001 x5).f2) ((rd_T38 x106001 x5).f3) ((rd_T38 x106001 x5).f4)) else ((spec_l03Field.f k x106000 x106001 ((rd_T38 x106001 x5).f0)).bind fun t112 => (if t112 = x5 then (if ((rd_T38 x106001 x5).f2).toList = ([73, 110, 116] : List UInt8) then (spec_SchemaOK.j4 k x3 x5 (decide ((((rd_T38 x106001 x5).f1).length : Int) > 4)) x102000 x106000 x106001 ((rd_T38 x106001 x5).f0) ((rd_T38 x106001 x5).f1) ((rd_T38 x106001 x5).f2) ((rd_T38 x106001 x5).f3) ((rd_T38 x106001 x5).f4)) else ((spec_l03Find.f k x102000 ((rd_T38 x106001 x5).f2)).bind fun t113 => (if t113 < 0 then (spec_SchemaOK.j4 k x3 x5 true x102000 x106000 x106001 ((rd_T38 x106001 x5).f0) ((rd_T38 x106001 x5).f1) ((rd_T38 x106001 x5).f2) ((rd_T38 x106001 x5).f3) ((rd_T38 x106001 x5).f4)) else (spec_SchemaOK.j4 k x3 x5 (decide ((((rd_T38 x106001 x5).f1).length : Int) > 4)) x102000 x106000 x106001 ((rd_T38 x106001 x5).f0) ((rd_T38 x106001 x5).f1) ((rd_T38 x106001 x5).f2) ((rd_T38 x106001 x5).f3) ((rd_T38 x106001 x5).f4))))) else (spec_SchemaOK.j4 k x3 x5 true x102000 x106000 x106001 ((rd_T38 x106001 x5).f0) ((rd_T38 x106001 x5).f1) ((rd_T38 x106001 x5).f2) ((rd_T38 x106001 x5).f3) ((rd_T38 x106001 x5).f4))))) else (spec_SchemaOK.j4 k x3 x5 true x102000 x106000 x106001 ((rd_T38 x106001 x5).f0) ((rd_T38 x106001 x5).f1) ((rd_T38 x106001 x5).f2) ((rd_T38 x106001 x5).f3) ((rd_T38 x106001 x5).f4)))) else (none)) else (spec_SchemaOK.l0 k (wrap64 (x3 + 1)) x102000)
def spec_SchemaOK.j4 : Nat → Int → Int → Bool → List (S53) → ByteArray → List (S38) → ByteArray → List (S57) → ByteArray → Bool → Bool → Option (Bool)
 | 0, _, _, _, _, _, _, _, _, _, _, _ => none
 | k + 1, x3, x5, x100, x102000, x106000, x106001, x111000, x111001, x111002, x111003, x111004 => if x100 = true then (some false) else (spec_SchemaOK.l2 k x3 x5 0 x102000 x106000 x106001 x111000 x111001 x111002 x111003 x111004)
def spec_SchemaOK.l2 : Nat → Int → Int → Int → List (S53) → ByteArray → List (S38) → ByteArray → List (S57) → ByteArray → Bool → Bool → Option (Bool)
 | 0, _, _, _, _, _, _, _, _, _, _, _ => none
 | k + 1, x3, x5, x7, x102000, x106000, x106001, x111000, x111001, x111002, x111003, x111004 => if x7 < (x111001.length : Int) then (if 0 ≤ x7 then ((spec_NameOK.f k ((rd_T57 x111001 x7).f0)).bind fun t115 => (if t115 = true then ((spec_l03Arg.f k x111000 x111001 x111002 x111003 x111004 ((rd_T57 x111001 x7).f0)).bind fun t117 => (if t117 = x7 then (spec_SchemaOK.l2 k x3 x5 (wrap64 (x7 + 1)) x102000 x106000 x106001 x111000 x111001 x111002 x111003 x111004) else (some false))) else (some false))) else (none)) else (spec_SchemaOK.l1 k x3 (wrap64 (x5 + 1)) x102000 x106000 x106001)
end
def spec_SchemaOK.f (k : Nat) (l0_0 : List (S53)) : Option (Bool) := (spec_l01In.f (l0_0.length : Int) 1 8).bind fun t102 => (if t102 = true then ((spec_l03Find.f k l0_0 (⟨#[81, 117, 101, 114, 121]⟩ : ByteArray)).bind fun t103 => (spec_SchemaOK.j0 k (decide (t103 < 0)) l0_0)) else (spec_SchemaOK.j0 k true l0_0))
def spec_SchemaOK.T18 : Bool × List (List Nat × List Nat) := (true, [([], []), ([0], [0]), ([], []), ([1, 2], [1, 2]), ([3], [3]), ([4], [4]), ([5], [5]), ([6], [6]), ([7, 6], [7]), ([8], [8]), ([8], [8]), ([10, 8], [8, 10]), ([8], [8]), ([11, 12, 8], [8, 11, 12]), ([13, 8], [8, 13]), ([14, 8], [8, 14]), ([9, 15, 8, 8], [8, 9, 15]), ([8], [8]), ([16, 17, 8], [8, 16, 17]), ([8, 18], [8, 18])])
def spec_SchemaOK.B18 : List Nat := [0, 1, 0, 7, 15, 31, 63, 127, 255, 511, 511, 1535, 511, 7679, 15871, 32255, 65535, 511, 262143, 524287]
theorem spec_SchemaOK.tab18 : rtab .any (opsOf Try.f9 18) = spec_SchemaOK.T18 := by kernel_rfl
theorem spec_SchemaOK.bits18 : waitsOk spec_SchemaOK.T18.2 spec_SchemaOK.B18 = true := by kernel_rfl
def spec_SchemaOK.y0 : Array Bool := #[false, false, false, false, false, false, false, false, false, false, false, false, false, false, false, false, false, false, false, false]
def spec_SchemaOK.y1 : Array Bool := #[true, false, false, false, false, false, false, false, false, false, false, false, false, false, false, false, false, false, false, false]
def spec_SchemaOK.y2 : Array Bool := #[true, false, true, false, false, false, false, false, false, false, false, false, false, false, false, false, false, false, false, false]
def spec_SchemaOK.y3 : Array Bool := #[true, true, true, false, false, false, false, false, false, false, false, false, false, false, false, false, false, false, false, false]
def spec_SchemaOK.y4 : Array Bool := #[true, true, true, true, false, false, false, false, false, false, false, false, false, false, false, false, false, false, false, false]
def spec_SchemaOK.y5 : Array Bool := #[true, true, true, true, true, false, false, false, false, false, false, false, false, false, false, false, false, false, false, false]
def spec_SchemaOK.y6 : Array Bool := #[true, true, true, true, true, true, false, false, false, false, false, false, false, false, false, false, false, false, false, false]
def spec_SchemaOK.y7 : Array Bool := #[true, true, true, true, true, true, true, false, false, false, false, false, false, false, false, false, false, false, false, false]
def spec_SchemaOK.y8 : Array Bool := #[true, true, true, true, true, true, true, true, false, false, false, false, false, false, false, false, false, false, false, false]
def spec_SchemaOK.y9 : Array Bool := #[true, true, true, true, true, true, true, true, true, false, false, false, false, false, false, false, false, false, false, false]
def spec_SchemaOK.y10 : Array Bool := #[true, true, true, true, true, true, true, true, true, false, true, false, false, false, false, false, false, false, false, false]
def spec_SchemaOK.y11 : Array Bool := #[true, true, true, true, true, true, true, true, true, false, true, false, true, false, false, false, false, false, false, false]
def spec_SchemaOK.y12 : Array Bool := #[true, true, true, true, true, true, true, true, true, false, true, false, true, false, false, false, false, true, false, false]
def spec_SchemaOK.y13 : Array Bool := #[true, true, true, true, true, true, true, true, true, true, true, false, true, false, false, false, false, true, false, false]
def spec_SchemaOK.y14 : Array Bool := #[true, true, true, true, true, true, true, true, true, true, true, true, true, false, false, false, false, true, false, false]
def spec_SchemaOK.y15 : Array Bool := #[true, true, true, true, true, true, true, true, true, true, true, true, true, true, false, false, false, true, false, false]
def spec_SchemaOK.y16 : Array Bool := #[true, true, true, true, true, true, true, true, true, true, true, true, true, true, true, false, false, true, false, false]
def spec_SchemaOK.y17 : Array Bool := #[true, true, true, true, true, true, true, true, true, true, true, true, true, true, true, true, false, true, false, false]
def spec_SchemaOK.y18 : Array Bool := #[true, true, true, true, true, true, true, true, true, true, true, true, true, true, true, true, true, true, false, false]
def spec_SchemaOK.y19 : Array Bool := #[true, true, true, true, true, true, true, true, true, true, true, true, true, true, true, true, true, true, true, false]
def spec_SchemaOK.y20 : Array Bool := #[true, true, true, true, true, true, true, true, true, true, true, true, true, true, true, true, true, true, true, true]
def spec_SchemaOK.y21 : Array Bool := #[true, true, true, true, true, true, true, true, true, true, false, false, false, false, false, false, false, false, false, false]
def spec_SchemaOK.y22 : Array Bool := #[true, true, true, true, true, true, true, true, true, true, true, false, false, false, false, false, false, false, false, false]
def spec_SchemaOK.y23 : Array Bool := #[true, true, true, true, true, true, true, true, true, true, true, true, false, false, false, false, false, false, false, false]
def spec_SchemaOK.y24 : Array Bool := #[true, true, true, true, true, true, true, true, true, true, true, true, true, false, false, false, false, false, false, false]
def spec_SchemaOK.y25 : Array Bool := #[true, true, true, true, true, true, true, true, true, true, true, true, true, true, false, false, false, false, false, false]
def spec_SchemaOK.y26 : Array Bool := #[true, true, true, true, true, true, true, true, true, true, true, true, true, true, true, false, false, false, false, false]
def spec_SchemaOK.y27 : Array Bool := #[true, true, true, true, true, true, true, true, true, true, true, true, true, true, true, true, false, false, false, false]
def spec_SchemaOK.y28 : Array Bool := #[true, true, true, true, true, true, true, true, true, true, true, true, true, true, true, true, true, false, false, false]
set_option maxHeartbeats 8000000 in
set_option maxRecDepth 100000 in
theorem spec_SchemaOK.calls (k : Nat) (A0_0 : Option Addr) (c0_0 : Nat) (l0_0 : List (S53)) (r : Bool) (w : World) (hr0_0 : Kd.C k53 w A0_0 l0_0.length l0_0) (hc0_0 : l0_0.length ≤ c0_0) (h : spec_SchemaOK.f k l0_0 = some r) :
  Calls Try.prog 9 #[.agg #[.slice A0_0 l0_0.length c0_0]] w fun e w' => e = .returned (.bool r) ∧ Below w.heap.size w w' := by
 have hu29 := Try.underlying29; have hu53 := Try.underlying53; have hu38 := Try.underlying38; have HR0_0 := qO hr0_0; have HC0_0 := qO hc0_0; clear hr0_0 hc0_0; have HB := qO (Below.refl w.heap.size w); have H : ((spec_l01In.f (l0_0.length : Int) 1 8).bind fun t102 => (if t102 = true then ((spec_l03Find.f k l0_0 (⟨#[81, 117, 101, 114, 121]⟩ : ByteArray)).bind fun t103 => (spec_SchemaOK.j0 k (decide (t103 < 0)) l0_0)) else (spec_SchemaOK.j0 k true l0_0))) = some r := h; clear h; have HC2 := qO H; clear H
 go_enter Try.func9, Try.ntmps9
 go_upto_region 1 with (first | ((with_reducible refine gate_dst (N := 1) rfl ?_); (try (refine gate_guard (by rfl) ?_; dsimp only)); refine box_event ?hg (N := 1) ?hd (cs := #[.slice A0_0 l0_0.length c0_0]) (t := 29) ?hr ?_; (case hd => rfl); (case hg => rfl); (case hr => first | (go_simp; done) | (go_simp; rfl)); intro gb101 hg w3 hbox hb; have n0_ := qO (below_step (by repeat (first | (with_reducible first | exact HB.out | apply qbA | apply qbN | apply qbD) | exact HB.out)) hb); have n1_ := qO (hbox); have n2_ := qO ((by rw [hg]; exact (below_size (by repeat (first | (with_reducible first | exact HB.out | apply qbA | apply qbN | apply qbD) | exact HB.out))) : w.heap.size ≤ gb101)); have n3_ := qO ((by rw [hg]; exact (below_size (by repeat (first | (with_reducible first | exact HB.out | apply qbA | apply qbN | apply qbD) | exact HB.out))) : w.heap.size ≤ gb101)); clear HB; have HB := n0_; have BK101 := n1_; have GW101 := n2_; have GE101 := n3_; clear n0_ n1_ n2_ n3_; clear hb hbox hg))
 (try simp only [Act.put, qzA, qzB, qzC])
 go_cut [17] (fun v17 wc => ∃ (kq : Nat) (x17_1 : Bool), v17 = .bool x17_1 ∧ Aside0 (spec_SchemaOK.j0 kq x17_1 l0_0 = some r) ∧ Aside0 (kq ≤ k) ∧ Aside0 (wc.heap[gb101]? = some (.cells #[(.slice A0_0 l0_0.length c0_0)] 29 (0, 0))) ∧ Aside0 (Below w.heap.size w wc))
 case first =>
  have H := HC2.out; clear HC2; replace H := Option.bind_eq_some_iff.mp H; obtain ⟨t102, A40, H⟩ := H; replace H : (if t102 = true then ((spec_l03Find.f k l0_0 (⟨#[81, 117, 101, 114, 121]⟩ : ByteArray)).bind fun t103 => (spec_SchemaOK.j0 k (decide (t103 < 0)) l0_0)) else (spec_SchemaOK.j0 k true l0_0)) = some r := H; have A4 := qO A40; clear A40
  by_cases c5 : t102 = true
  ·subst c5
   have H1 : ((spec_l03Find.f k l0_0 (⟨#[81, 117, 101, 114, 121]⟩ : ByteArray)).bind fun t103 => (spec_SchemaOK.j0 k (decide (t103 < 0)) l0_0)) = some r := by rw [if_pos rfl] at H; exact H
   clear H; have H := H1; clear H1; replace H := Option.bind_eq_some_iff.mp H; obtain ⟨t103, A60, H⟩ := H; replace H : (spec_SchemaOK.j0 k (decide (t103 < 0)) l0_0) = some r := H; have A6 := qO A60; clear A60; have H' := qO H; clear H; have hcz7_0 : w3.cell? ⟨gb101, 0, none⟩ = some (.slice A0_0 l0_0.length c0_0) := (blk_cell BK101.out 0).trans rfl; have hfz7_0 := blk_frozen BK101.out 0
   go_wp2_with (first | ((with_reducible refine gate_callee (f := 27) rfl ?_); refine goesL_ (some 11) rfl rfl Try.func27 (by kernel_rfl) rfl #[.int .i64 (l0_0.length : Int), .int .i64 1, .int .i64 8] rfl (by (try simp only [List.map_toArray, List.map_cons, List.map_nil]); first | done | rfl | (simp only [List.length_drop, List.length_take]; rfl)) ?_; (with_reducible refine (spec_l01In.calls (l0_0.length : Int) 1 8 true _ A4.out).mono ?_); rintro e w' ⟨rfl, ⟨nd, rfl⟩⟩; refine ⟨_, rfl, ?_⟩) | (go_at_call 28; (with_reducible refine (spec_l03Find.calls k _ _ l0_0 (⟨#[81, 117, 101, 114, 121]⟩ : ByteArray) t103 _ ?side1 ?side2 A6.out).mono ?_); (case side1 => repeat (first | exact (Kd.C_below HR0_0.out (by repeat (first | (with_reducible first | exact HB.out | apply qbA | apply qbN | apply qbD | refine qbS ?_ GE101.out) | exact HB.out))) | with_reducible first | refine Kd.C_alloc ?_ _ | refine Kd.C_drewN ?_ _ | refine Kd.C_drew ?_)); (case side2 => exact HC0_0.out); rintro e w8 ⟨rfl, hb⟩; have hx_ := qHX HB hb (by with_reducible repeat (first | refine qbN ?_ _ | refine qbD ?_ | refine qbA ?_ _ | exact Below.refl _ _)); have n0_ := qO (qB BK101.out hx_ hb); have n1_ := qO (below_step (below_step HB.out hx_) hb); clear BK101; clear HB; have BK101 := n0_; have HB := n1_; clear n0_ n1_; clear hx_; (try clear hb); (try clear hb2); (try clear hk); (try clear hi)))
   go_meet
   case rel => exact ⟨_, (decide (t103 < 0)), (by first | rfl | (simp; done) | (simp [*]; done)), H', ⟨by first | omega | exact Nat.le_refl _⟩, ⟨by (with_reducible repeat (first | refine qkN ?_ _ | refine qkD ?_ | refine qkA ?_ _)); exact BK101.out⟩, ⟨by repeat (first | (with_reducible first | exact HB.out | apply qbA | apply qbN | apply qbD | refine qbS ?_ GE101.out) | exact HB.out)⟩⟩
  ·replace c5 := Bool.eq_false_iff.mpr c5
   subst c5; have H1 : (spec_SchemaOK.j0 k true l0_0) = some r := by rw [if_neg (show ¬ (false = true) by decide)] at H; exact H
   clear H; have H := H1; clear H1; have H' := qO H; clear H; have hcz9_0 : w3.cell? ⟨gb101, 0, none⟩ = some (.slice A0_0 l0_0.length c0_0) := (blk_cell BK101.out 0).trans rfl; have hfz9_0 := blk_frozen BK101.out 0
   go_wp2_with (first | ((with_reducible refine gate_callee (f := 27) rfl ?_); refine goesL_ (some 11) rfl rfl Try.func27 (by kernel_rfl) rfl #[.int .i64 (l0_0.length : Int), .int .i64 1, .int .i64 8] rfl (by (try simp only [List.map_toArray, List.map_cons, List.map_nil]); first | done | rfl | (simp only [List.length_drop, List.length_take]; rfl)) ?_; (with_reducible refine (spec_l01In.calls (l0_0.length : Int) 1 8 false _ A4.out).mono ?_); rintro e w' ⟨rfl, ⟨nd, rfl⟩⟩; refine ⟨_, rfl, ?_⟩))
   go_meet
   case rel => exact ⟨_, (true), (by first | rfl | (simp; done) | (simp [*]; done)), H', ⟨by first | omega | exact Nat.le_refl _⟩, ⟨by (with_reducible repeat (first | refine qkN ?_ _ | refine qkD ?_ | refine qkA ?_ _)); exact BK101.out⟩, ⟨by repeat (first | (with_reducible first | exact HB.out | apply qbA | apply qbN | apply qbD | refine qbS ?_ GE101.out) | exact HB.out)⟩⟩
 case rest =>
  clear HC2
  try clear c2
  try clear p2
  try clear c5
  try clear c9
  try clear hcz7_0
  try clear hcz9_0
  try clear hfz7_0
  try clear hfz9_0
  obtain ⟨kq, x17_1, rfl, HA, HJ1, BK101, HB⟩ := hcut
  cases kq with
  | zero => exact absurd HA.out (by simp [spec_SchemaOK.j0])
  | succ kj1 =>
   have H := HA.out; clear HA; simp only [spec_SchemaOK.j0] at H
   by_cases c10 : x17_1 = true
   ·subst c10
    have H1 : (some false) = some r := by rw [if_pos rfl] at H; exact H
    clear H; have H := H1; clear H1; obtain rfl := Option.some.inj H; go_wp2
    go_ret
    exact ⟨by first | rfl | (simp [errW_none, errW_some] <;> rfl) | (simp [*, errW_none, errW_some] <;> rfl), by repeat (first | (with_reducible first | exact HB.out | apply qbA | apply qbN | apply qbD | refine qbS ?_ GE101.out) | exact HB.out)⟩
   ·replace c10 := Bool.eq_false_iff.mpr c10
    subst c10; have H1 : (spec_SchemaOK.l0 kj1 0 l0_0) = some r := by rw [if_neg (show ¬ (false = true) by decide)] at H; exact H
    clear H; have H := H1; clear H1; have H' := qO H; clear H; go_wp2
    go_loopg [3] kj1 (fun kq v3 w' => ∃ (x3_2 : Int), v3 = .int .i64 x3_2 ∧ Aside0 (spec_SchemaOK.l0 kq x3_2 l0_0 = some r) ∧ Aside0 (kq ≤ kj1) ∧ Aside0 (w'.heap[gb101]? = some (.cells #[(.slice A0_0 l0_0.length c0_0)] 29 (0, 0))) ∧ Aside0 (Below w.heap.size w w'))
    case atStart => exact ⟨(0), (by first | rfl | (simp; done) | (simp [*]; done)), H', ⟨Nat.le_refl _⟩, ⟨by (with_reducible repeat (first | refine qkN ?_ _ | refine qkD ?_ | refine qkA ?_ _)); exact BK101.out⟩, ⟨by repeat (first | (with_reducible first | exact HB.out | apply qbA | apply qbN | apply qbD | refine qbS ?_ GE101.out) | exact HB.out)⟩⟩
    case round =>
     clear H'
     try clear c1
     try clear c2
     try clear p2
     try clear c5
     try clear c9
     try clear c10
     try clear hcz7_0
     try clear hcz9_0
     try clear hfz7_0
     try clear hfz9_0
     try clear p2
     obtain ⟨x3_2, rfl, HA, HK2, BK101, HB⟩ := hrel
     cases gk with
     | zero => exact absurd HA.out (by simp [spec_SchemaOK.l0])
     | succ k2 =>
      have H := HA.out; clear HA; simp only [spec_SchemaOK.l0] at H
      by_cases c11 : x3_2 < (l0_0.length : Int)
      ·rw [if_pos c11] at H
       have c11b0 : decide (x3_2 < (l0_0.length : Int)) = true := decide_eq_true c11; clear c11
       by_cases c12 : 0 ≤ x3_2
       ·rw [if_pos c12] at H
        have c12b0 : decide (0 ≤ x3_2) = true := decide_eq_true c12; clear c12; have HC13 := qO H; clear H; have hcz14_0 : wr.cell? ⟨gb101, 0, none⟩ = some (.slice A0_0 l0_0.length c0_0) := (blk_cell BK101.out 0).trans rfl; have hfz14_0 := blk_frozen BK101.out 0; have p104 : 0 ≤ (x3_2 : Int) := qT (by first | (with_reducible assumption) | assumption); have q104 : x3_2 < (l0_0.length : Int) := qT (by first | (with_reducible assumption) | assumption); obtain ⟨ad104, A104_1, c104_1, e104, hx104_0, hx104_1, hl104_1, hi104_1⟩ := at_T53 HR0_0.out x3_2 p104 q104
        cases e104
        replace hx104_0 := (HB.out.cell (qL w _ hx104_0)).trans hx104_0; replace hx104_1 := (HB.out.cell (qL w _ hx104_1)).trans hx104_1; have HR104_1 := qO hi104_1; have HC104_1 := qO hl104_1; clear hi104_1 hl104_1; replace p104 := eq_true p104; replace q104 := eq_true q104
        go_upto_region 7 with (first | ((with_reducible refine gate_dst (N := 4) rfl ?_); (try (refine gate_guard (by rfl) ?_; dsimp only)); refine box_event ?hg (N := 4) ?hd (cs := #[.string (⟨#[]⟩ : ByteArray), .slice none 0 0]) (t := 53) ?hr ?_; (case hd => rfl); (case hg => rfl); (case hr => first | (go_simp; done) | (go_simp; rfl)); intro gb105 hg w15 hbox hb; have n0_ := qO (blk_below (g := gb101) (o := .cells #[.slice (some ad104) l0_0.length c0_0] 29 (0, 0)) (by (with_reducible repeat (first | refine qkN ?_ _ | refine qkD ?_ | refine qkA ?_ _)); exact BK101.out) hb); have n1_ := qO (below_step (by repeat (first | (with_reducible first | exact HB.out | apply qbA | apply qbN | apply qbD | refine qbS ?_ GE101.out) | exact HB.out)) hb); have n2_ := qO (hbox); have n3_ := qO ((by rw [hg]; exact (below_size (by repeat (first | (with_reducible first | exact HB.out | apply qbA | apply qbN | apply qbD | refine qbS ?_ GE101.out) | exact HB.out))) : w.heap.size ≤ gb105)); have n4_ := qO ((by rw [hg]; exact (below_size (by repeat (first | (with_reducible first | exact HB.out | apply qbA | apply qbN | apply qbD | refine qbS ?_ GE101.out) | exact HB.out))) : w.heap.size ≤ gb105)); have n5_ := qO ((by rw [hg]; exact Nat.ne_of_lt (blk_lt (g := gb101) (o := .cells #[.slice (some ad104) l0_0.length c0_0] 29 (0, 0)) (by (with_reducible repeat (first | refine qkN ?_ _ | refine qkD ?_ | refine qkA ?_ _)); exact BK101.out)) : gb101 ≠ gb105)); have n6_ := qO ((by rw [hg]; exact Nat.ne_of_gt (blk_lt (g := gb101) (o := .cells #[.slice (some ad104) l0_0.length c0_0] 29 (0, 0)) (by (with_reducible repeat (first | refine qkN ?_ _ | refine qkD ?_ | refine qkA ?_ _)); exact BK101.out)) : gb105 ≠ gb101)); clear BK101; clear HB; have BK101 := n0_; have HB := n1_; have BK105 := n2_; have GW105 := n3_; have GE105 := n4_; have NB101_105 := n5_; have NB105_101 := n6_; clear n0_ n1_ n2_ n3_ n4_ n5_ n6_; clear hb hbox hg; have hnb16 := NB105_101.out; have hnc16 := NB101_105.out; have hcz17_0 : w15.cell? ⟨gb105, 0, none⟩ = some (.string (⟨#[]⟩ : ByteArray)) := (blk_cell BK105.out 0).trans rfl; have hcz17_1 : w15.cell? ⟨gb105, 1, none⟩ = some (.slice none 0 0) := (blk_cell BK105.out 1).trans rfl; have hfz17_0 := blk_frozen BK105.out 0; have hfz17_1 := blk_frozen BK105.out 1))
        (try simp only [Act.put, qzA, qzB, qzC])
        go_cut [53] (fun v53 wc => ∃ (kq : Nat) (x53_12 : Bool), v53 = .bool x53_12 ∧ Aside0 (spec_SchemaOK.j2 kq x3_2 x53_12 l0_0 ((rd_T53 l0_0 x3_2).f0) ((rd_T53 l0_0 x3_2).f1) = some r) ∧ Aside0 (kq ≤ k2) ∧ Aside0 (wc.heap[gb101]? = some (.cells #[(.slice (some ad104) l0_0.length c0_0)] 29 (0, 0))) ∧ Aside0 (wc.heap[gb105]? = some (.cells #[.string ((rd_T53 l0_0 x3_2).f0), (.slice A104_1 ((rd_T53 l0_0 x3_2).f1).length c104_1)] 53 (0, 0))) ∧ Aside0 (Below w.heap.size w wc))
        case first =>
         have H := HC13.out; clear HC13; replace H := Option.bind_eq_some_iff.mp H; obtain ⟨t106, A180, H⟩ := H; replace H : (if t106 = true then (if ((rd_T53 l0_0 x3_2).f0).toList = ([73, 110, 116] : List UInt8) then (spec_SchemaOK.j2 k2 x3_2 true l0_0 ((rd_T53 l0_0 x3_2).f0) ((rd_T53 l0_0 x3_2).f1)) else ((spec_l03Find.f k2 l0_0 ((rd_T53 l0_0 x3_2).f0)).bind fun t107 => (if t107 = x3_2 then ((spec_l01In.f (((rd_T53 l0_0 x3_2).f1).length : Int) 1 10).bind fun t108 => (spec_SchemaOK.j2 k2 x3_2 (!t108) l0_0 ((rd_T53 l0_0 x3_2).f0) ((rd_T53 l0_0 x3_2).f1))) else (spec_SchemaOK.j2 k2 x3_2 true l0_0 ((rd_T53 l0_0 x3_2).f0) ((rd_T53 l0_0 x3_2).f1))))) else (spec_SchemaOK.j2 k2 x3_2 true l0_0 ((rd_T53 l0_0 x3_2).f0) ((rd_T53 l0_0 x3_2).f1))) = some r := H; have A18 := qO A180; clear A180
         by_cases c19 : t106 = true
         ·subst c19
          have H1 : (if ((rd_T53 l0_0 x3_2).f0).toList = ([73, 110, 116] : List UInt8) then (spec_SchemaOK.j2 k2 x3_2 true l0_0 ((rd_T53 l0_0 x3_2).f0) ((rd_T53 l0_0 x3_2).f1)) else ((spec_l03Find.f k2 l0_0 ((rd_T53 l0_0 x3_2).f0)).bind fun t107 => (if t107 = x3_2 then ((spec_l01In.f (((rd_T53 l0_0 x3_2).f1).length : Int) 1 10).bind fun t108 => (spec_SchemaOK.j2 k2 x3_2 (!t108) l0_0 ((rd_T53 l0_0 x3_2).f0) ((rd_T53 l0_0 x3_2).f1))) else (spec_SchemaOK.j2 k2 x3_2 true l0_0 ((rd_T53 l0_0 x3_2).f0) ((rd_T53 l0_0 x3_2).f1))))) = some r := by rw [if_pos rfl] at H; exact H
          clear H; have H := H1; clear H1
          by_cases c20 : ((rd_T53 l0_0 x3_2).f0).toList = ([73, 110, 116] : List UInt8)
          ·rw [if_pos c20] at H
           have c20b0 : (((rd_T53 l0_0 x3_2).f0).toList == ([73, 110, 116] : List UInt8)) = true := beq_iff_eq.mpr c20; have c20b1 : (((rd_T53 l0_0 x3_2).f0).toList != ([73, 110, 116] : List UInt8)) = false := bne_eq_false_iff_eq.mpr c20; clear c20; (first | rw [c20b0] | (simp only [i64_w, i32_w]; rw [c20b0]) | skip); have H' := qO H; clear H; have hnb21 := NB105_101.out; have hnc21 := NB101_105.out; have hcz22_0 : w15.cell? ⟨gb105, 0, none⟩ = some (.string (⟨#[]⟩ : ByteArray)) := (blk_cell BK105.out 0).trans rfl; have hcz22_1 : w15.cell? ⟨gb105, 1, none⟩ = some (.slice none 0 0) := (blk_cell BK105.out 1).trans rfl; have hfz22_0 := blk_frozen BK105.out 0; have hfz22_1 := blk_frozen BK105.out 1
           go_wp2_with (first | ((with_reducible refine gate_callee (f := 29) rfl ?_); refine goesL_ (some 32) rfl rfl Try.func29 (by kernel_rfl) rfl #[.string ((rd_T53 l0_0 x3_2).f0)] rfl (by (try simp only [List.map_toArray, List.map_cons, List.map_nil]); first | done | rfl | (simp only [List.length_drop, List.length_take]; rfl)) ?_; (with_reducible refine (spec_NameOK.calls k2 ((rd_T53 l0_0 x3_2).f0) true _ A18.out).mono ?_); rintro e w' ⟨rfl, ⟨nd, rfl⟩⟩; refine ⟨_, rfl, ?_⟩))
           go_meet
           case rel => exact ⟨_, (true), (by first | rfl | (simp; done) | (simp [*]; done)), H', ⟨by have := HJ1.out; have := HK2.out; first | omega | exact Nat.le_refl _⟩, ⟨by (with_reducible repeat (first | refine qkN ?_ _ | refine qkD ?_ | refine qkA ?_ _)); refine blk_far ?_ NB101_105.out _; (with_reducible repeat (first | refine qkN ?_ _ | refine qkD ?_ | refine qkA ?_ _)); refine blk_far ?_ NB101_105.out _; (with_reducible repeat (first | refine qkN ?_ _ | refine qkD ?_ | refine qkA ?_ _)); exact BK101.out⟩, ⟨by (with_reducible repeat (first | refine qkN ?_ _ | refine qkD ?_ | refine qkA ?_ _)); refine blk_put (cs := #[.string ((rd_T53 l0_0 x3_2).f0), .slice none 0 0]) ?_ 1 _ rfl; (with_reducible repeat (first | refine qkN ?_ _ | refine qkD ?_ | refine qkA ?_ _)); refine blk_put (cs := #[.string (⟨#[]⟩ : ByteArray), .slice none 0 0]) ?_ 0 _ rfl; (with_reducible repeat (first | refine qkN ?_ _ | refine qkD ?_ | refine qkA ?_ _)); exact BK105.out⟩, ⟨by repeat (first | (with_reducible first | exact HB.out | apply qbA | apply qbN | apply qbD | refine qbS ?_ GE101.out | refine qbS ?_ GE105.out) | exact HB.out)⟩⟩
          ·rw [if_neg c20] at H
           have c20b0 : (((rd_T53 l0_0 x3_2).f0).toList == ([73, 110, 116] : List UInt8)) = false := beq_eq_false_iff_ne.mpr c20; have c20b1 : (((rd_T53 l0_0 x3_2).f0).toList != ([73, 110, 116] : List UInt8)) = true := bne_iff_ne.mpr c20; (first | rw [c20b0] | (simp only [i64_w, i32_w]; rw [c20b0]) | skip); replace H := Option.bind_eq_some_iff.mp H; obtain ⟨t107, A230, H⟩ := H; replace H : (if t107 = x3_2 then ((spec_l01In.f (((rd_T53 l0_0 x3_2).f1).length : Int) 1 10).bind fun t108 => (spec_SchemaOK.j2 k2 x3_2 (!t108) l0_0 ((rd_T53 l0_0 x3_2).f0) ((rd_T53 l0_0 x3_2).f1))) else (spec_SchemaOK.j2 k2 x3_2 true l0_0 ((rd_T53 l0_0 x3_2).f0) ((rd_T53 l0_0 x3_2).f1))) = some r := H; have A23 := qO A230; clear A230
           by_cases c24 : t107 = x3_2
           ·rw [if_pos c24] at H
            have c24b0 : (t107 == x3_2) = true := beq_iff_eq.mpr c24; have c24b1 : (t107 != x3_2) = false := bne_eq_false_iff_eq.mpr c24; clear c24; replace H := Option.bind_eq_some_iff.mp H; obtain ⟨t108, A250, H⟩ := H; replace H : (spec_SchemaOK.j2 k2 x3_2 (!t108) l0_0 ((rd_T53 l0_0 x3_2).f0) ((rd_T53 l0_0 x3_2).f1)) = some r := H; have A25 := qO A250; clear A250; have H' := qO H; clear H; have hnb26 := NB105_101.out; have hnc26 := NB101_105.out; have hcz27_0 : w15.cell? ⟨gb105, 0, none⟩ = some (.string (⟨#[]⟩ : ByteArray)) := (blk_cell BK105.out 0).trans rfl; have hcz27_1 : w15.cell? ⟨gb105, 1, none⟩ = some (.slice none 0 0) := (blk_cell BK105.out 1).trans rfl; have hfz27_0 := blk_frozen BK105.out 0; have hfz27_1 := blk_frozen BK105.out 1
            go_wp2_with (first | ((with_reducible refine gate_callee (f := 29) rfl ?_); refine goesL_ (some 32) rfl rfl Try.func29 (by kernel_rfl) rfl #[.string ((rd_T53 l0_0 x3_2).f0)] rfl (by (try simp only [List.map_toArray, List.map_cons, List.map_nil]); first | done | rfl | (simp only [List.length_drop, List.length_take]; rfl)) ?_; (with_reducible refine (spec_NameOK.calls k2 ((rd_T53 l0_0 x3_2).f0) true _ A18.out).mono ?_); rintro e w' ⟨rfl, ⟨nd, rfl⟩⟩; refine ⟨_, rfl, ?_⟩; have hcz28_0 : w15.cell? ⟨gb101, 0, none⟩ = some (.slice (some ad104) l0_0.length c0_0) := (blk_cell BK101.out 0).trans rfl; have hfz28_0 := blk_frozen BK101.out 0) | (go_at_call 28; (with_reducible refine (spec_l03Find.calls k2 _ _ l0_0 ((rd_T53 l0_0 x3_2).f0) t107 _ ?side1 ?side2 A23.out).mono ?_); (case side1 => exact Kd.C_below HR0_0.out (by repeat (first | (with_reducible first | exact HB.out | apply qbA | apply qbN | apply qbD | refine qbS ?_ GE101.out | refine qbS ?_ GE105.out) | exact HB.out))); (case side2 => exact HC0_0.out); rintro e w29 ⟨rfl, hb⟩; have n0_ := qO (blk_below (g := gb101) (o := .cells #[.slice (some ad104) l0_0.length c0_0] 29 (0, 0)) (by (with_reducible repeat (first | refine qkN ?_ _ | refine qkD ?_ | refine qkA ?_ _)); refine blk_far ?_ NB101_105.out _; (with_reducible repeat (first | refine qkN ?_ _ | refine qkD ?_ | refine qkA ?_ _)); refine blk_far ?_ NB101_105.out _; (with_reducible repeat (first | refine qkN ?_ _ | refine qkD ?_ | refine qkA ?_ _)); exact BK101.out) hb); have n1_ := qO (blk_below (g := gb105) (o := .cells #[.string ((rd_T53 l0_0 x3_2).f0), .slice A104_1 ((rd_T53 l0_0 x3_2).f1).length c104_1] 53 (0, 0)) (by (with_reducible repeat (first | refine qkN ?_ _ | refine qkD ?_ | refine qkA ?_ _)); refine blk_put (cs := #[.string ((rd_T53 l0_0 x3_2).f0), .slice none 0 0]) ?_ 1 _ rfl; (with_reducible repeat (first | refine qkN ?_ _ | refine qkD ?_ | refine qkA ?_ _)); refine blk_put (cs := #[.string (⟨#[]⟩ : ByteArray), .slice none 0 0]) ?_ 0 _ rfl; (with_reducible repeat (first | refine qkN ?_ _ | refine qkD ?_ | refine qkA ?_ _)); exact BK105.out) hb); have n2_ := qO (below_step (by repeat (first | (with_reducible first | exact HB.out | apply qbA | apply qbN | apply qbD | refine qbS ?_ GE101.out | refine qbS ?_ GE105.out) | exact HB.out)) hb); clear BK101; clear BK105; clear HB; have BK101 := n0_; have BK105 := n1_; have HB := n2_; clear n0_ n1_ n2_; (try clear hb); (try clear hb2); (try clear hk); (try clear hi); have hcz30_0 : w29.cell? ⟨gb105, 0, none⟩ = some (.string ((rd_T53 l0_0 x3_2).f0)) := (blk_cell BK105.out 0).trans rfl; have hcz30_1 : w29.cell? ⟨gb105, 1, none⟩ = some (.slice A104_1 ((rd_T53 l0_0 x3_2).f1).length c104_1) := (blk_cell BK105.out 1).trans rfl; have hfz30_0 := blk_frozen BK105.out 0; have hfz30_1 := blk_frozen BK105.out 1) | (go_at_call 27; (with_reducible refine (spec_l01In.calls (((rd_T53 l0_0 x3_2).f1).length : Int) 1 10 t108 _ A25.out).mono ?_); rintro e w' ⟨rfl, ⟨nd, rfl⟩⟩))
            go_meet
            case rel => exact ⟨_, (!t108), (by first | rfl | (simp; done) | (simp [*]; done)), H', ⟨by have := HJ1.out; have := HK2.out; first | omega | exact Nat.le_refl _⟩, ⟨by (with_reducible repeat (first | refine qkN ?_ _ | refine qkD ?_ | refine qkA ?_ _)); exact BK101.out⟩, ⟨by (with_reducible repeat (first | refine qkN ?_ _ | refine qkD ?_ | refine qkA ?_ _)); exact BK105.out⟩, ⟨by repeat (first | (with_reducible first | exact HB.out | apply qbA | apply qbN | apply qbD | refine qbS ?_ GE101.out | refine qbS ?_ GE105.out) | exact HB.out)⟩⟩
           ·rw [if_neg c24] at H
            have c24b0 : (t107 == x3_2) = false := beq_eq_false_iff_ne.mpr c24; have c24b1 : (t107 != x3_2) = true := bne_iff_ne.mpr c24; have H' := qO H; clear H; have hnb31 := NB105_101.out; have hnc31 := NB101_105.out; have hcz32_0 : w15.cell? ⟨gb105, 0, none⟩ = some (.string (⟨#[]⟩ : ByteArray)) := (blk_cell BK105.out 0).trans rfl; have hcz32_1 : w15.cell? ⟨gb105, 1, none⟩ = some (.slice none 0 0) := (blk_cell BK105.out 1).trans rfl; have hfz32_0 := blk_frozen BK105.out 0; have hfz32_1 := blk_frozen BK105.out 1
            go_wp2_with (first | ((with_reducible refine gate_callee (f := 29) rfl ?_); refine goesL_ (some 32) rfl rfl Try.func29 (by kernel_rfl) rfl #[.string ((rd_T53 l0_0 x3_2).f0)] rfl (by (try simp only [List.map_toArray, List.map_cons, List.map_nil]); first | done | rfl | (simp only [List.length_drop, List.length_take]; rfl)) ?_; (with_reducible refine (spec_NameOK.calls k2 ((rd_T53 l0_0 x3_2).f0) true _ A18.out).mono ?_); rintro e w' ⟨rfl, ⟨nd, rfl⟩⟩; refine ⟨_, rfl, ?_⟩; have hcz33_0 : w15.cell? ⟨gb101, 0, none⟩ = some (.slice (some ad104) l0_0.length c0_0) := (blk_cell BK101.out 0).trans rfl; have hfz33_0 := blk_frozen BK101.out 0) | (go_at_call 28; (with_reducible refine (spec_l03Find.calls k2 _ _ l0_0 ((rd_T53 l0_0 x3_2).f0) t107 _ ?side1 ?side2 A23.out).mono ?_); (case side1 => exact Kd.C_below HR0_0.out (by repeat (first | (with_reducible first | exact HB.out | apply qbA | apply qbN | apply qbD | refine qbS ?_ GE101.out | refine qbS ?_ GE105.out) | exact HB.out))); (case side2 => exact HC0_0.out); rintro e w34 ⟨rfl, hb⟩; have n0_ := qO (blk_below (g := gb101) (o := .cells #[.slice (some ad104) l0_0.length c0_0] 29 (0, 0)) (by (with_reducible repeat (first | refine qkN ?_ _ | refine qkD ?_ | refine qkA ?_ _)); refine blk_far ?_ NB101_105.out _; (with_reducible repeat (first | refine qkN ?_ _ | refine qkD ?_ | refine qkA ?_ _)); refine blk_far ?_ NB101_105.out _; (with_reducible repeat (first | refine qkN ?_ _ | refine qkD ?_ | refine qkA ?_ _)); exact BK101.out) hb); have n1_ := qO (blk_below (g := gb105) (o := .cells #[.string ((rd_T53 l0_0 x3_2).f0), .slice A104_1 ((rd_T53 l0_0 x3_2).f1).length c104_1] 53 (0, 0)) (by (with_reducible repeat (first | refine qkN ?_ _ | refine qkD ?_ | refine qkA ?_ _)); refine blk_put (cs := #[.string ((rd_T53 l0_0 x3_2).f0), .slice none 0 0]) ?_ 1 _ rfl; (with_reducible repeat (first | refine qkN ?_ _ | refine qkD ?_ | refine qkA ?_ _)); refine blk_put (cs := #[.string (⟨#[]⟩ : ByteArray), .slice none 0 0]) ?_ 0 _ rfl; (with_reducible repeat (first | refine qkN ?_ _ | refine qkD ?_ | refine qkA ?_ _)); exact BK105.out) hb); have n2_ := qO (below_step (by repeat (first | (with_reducible first | exact HB.out | apply qbA | apply qbN | apply qbD | refine qbS ?_ GE101.out | refine qbS ?_ GE105.out) | exact HB.out)) hb); clear BK101; clear BK105; clear HB; have BK101 := n0_; have BK105 := n1_; have HB := n2_; clear n0_ n1_ n2_; (try clear hb); (try clear hb2); (try clear hk); (try clear hi)))
            go_meet
            case rel => exact ⟨_, (true), (by first | rfl | (simp; done) | (simp [*]; done)), H', ⟨by have := HJ1.out; have := HK2.out; first | omega | exact Nat.le_refl _⟩, ⟨by (with_reducible repeat (first | refine qkN ?_ _ | refine qkD ?_ | refine qkA ?_ _)); exact BK101.out⟩, ⟨by (with_reducible repeat (first | refine qkN ?_ _ | refine qkD ?_ | refine qkA ?_ _)); exact BK105.out⟩, ⟨by repeat (first | (with_reducible first | exact HB.out | apply qbA | apply qbN | apply qbD | refine qbS ?_ GE101.out | refine qbS ?_ GE105.out) | exact HB.out)⟩⟩
         ·replace c19 := Bool.eq_false_iff.mpr c19
          subst c19; have H1 : (spec_SchemaOK.j2 k2 x3_2 true l0_0 ((rd_T53 l0_0 x3_2).f0) ((rd_T53 l0_0 x3_2).f1)) = some r := by rw [if_neg (show ¬ (false = true) by decide)] at H; exact H
          clear H; have H := H1; clear H1; have H' := qO H; clear H; have hnb35 := NB105_101.out; have hnc35 := NB101_105.out; have hcz36_0 : w15.cell? ⟨gb105, 0, none⟩ = some (.string (⟨#[]⟩ : ByteArray)) := (blk_cell BK105.out 0).trans rfl; have hcz36_1 : w15.cell? ⟨gb105, 1, none⟩ = some (.slice none 0 0) := (blk_cell BK105.out 1).trans rfl; have hfz36_0 := blk_frozen BK105.out 0; have hfz36_1 := blk_frozen BK105.out 1
          go_wp2_with (first | ((with_reducible refine gate_callee (f := 29) rfl ?_); refine goesL_ (some 32) rfl rfl Try.func29 (by kernel_rfl) rfl #[.string ((rd_T53 l0_0 x3_2).f0)] rfl (by (try simp only [List.map_toArray, List.map_cons, List.map_nil]); first | done | rfl | (simp only [List.length_drop, List.length_take]; rfl)) ?_; (with_reducible refine (spec_NameOK.calls k2 ((rd_T53 l0_0 x3_2).f0) false _ A18.out).mono ?_); rintro e w' ⟨rfl, ⟨nd, rfl⟩⟩; refine ⟨_, rfl, ?_⟩))
          go_meet
          case rel => exact ⟨_, (true), (by first | rfl | (simp; done) | (simp [*]; done)), H', ⟨by have := HJ1.out; have := HK2.out; first | omega | exact Nat.le_refl _⟩, ⟨by (with_reducible repeat (first | refine qkN ?_ _ | refine qkD ?_ | refine qkA ?_ _)); refine blk_far ?_ NB101_105.out _; (with_reducible repeat (first | refine qkN ?_ _ | refine qkD ?_ | refine qkA ?_ _)); refine blk_far ?_ NB101_105.out _; (with_reducible repeat (first | refine qkN ?_ _ | refine qkD ?_ | refine qkA ?_ _)); exact BK101.out⟩, ⟨by (with_reducible repeat (first | refine qkN ?_ _ | refine qkD ?_ | refine qkA ?_ _)); refine blk_put (cs := #[.string ((rd_T53 l0_0 x3_2).f0), .slice none 0 0]) ?_ 1 _ rfl; (with_reducible repeat (first | refine qkN ?_ _ | refine qkD ?_ | refine qkA ?_ _)); refine blk_put (cs := #[.string (⟨#[]⟩ : ByteArray), .slice none 0 0]) ?_ 0 _ rfl; (with_reducible repeat (first | refine qkN ?_ _ | refine qkD ?_ | refine qkA ?_ _)); exact BK105.out⟩, ⟨by repeat (first | (with_reducible first | exact HB.out | apply qbA | apply qbN | apply qbD | refine qbS ?_ GE101.out | refine qbS ?_ GE105.out) | exact HB.out)⟩⟩
        case rest =>
         clear HC13
         try clear c1
         try clear p1
         try clear q1
         try clear hx1
         try clear c2
         try clear p2
         try clear c3
         try clear c5
         try clear c9
         try clear c10
         try clear p10
         try clear q10
         try clear hx10
         try clear c11
         try clear c11b0
         try clear c12
         try clear c12b0
         try clear c16
         try clear c19
         try clear c20
         try clear c20b0
         try clear c20b1
         try clear c21
         try clear c24
         try clear c24b0
         try clear c24b1
         try clear c26
         try clear c27
         try clear c29
         try clear c31
         try clear c35
         try clear hcz14_0
         try clear hcz17_0
         try clear hcz17_1
         try clear hcz22_0
         try clear hcz22_1
         try clear hcz27_0
         try clear hcz27_1
         try clear hcz28_0
         try clear hcz30_0
         try clear hcz30_1
         try clear hcz32_0
         try clear hcz32_1
         try clear hcz33_0
         try clear hcz36_0
         try clear hcz36_1
         try clear hcz7_0
         try clear hcz9_0
         try clear hfz14_0
         try clear hfz17_0
         try clear hfz17_1
         try clear hfz22_0
         try clear hfz22_1
         try clear hfz27_0
         try clear hfz27_1
         try clear hfz28_0
         try clear hfz30_0
         try clear hfz30_1
         try clear hfz32_0
         try clear hfz32_1
         try clear hfz33_0
         try clear hfz36_0
         try clear hfz36_1
         try clear hfz7_0
         try clear hfz9_0
         try clear hx104_0
         try clear hx104_1
         try clear p104
         try clear p2
         try clear q104
         obtain ⟨kq, x53_12, rfl, HA, HJ12, BK101, BK105, HB⟩ := hcut
         cases kq with
         | zero => exact absurd HA.out (by simp [spec_SchemaOK.j2])
         | succ kj12 =>
          have H := HA.out; clear HA; simp only [spec_SchemaOK.j2] at H
          by_cases c37 : x53_12 = true
          ·subst c37
           have H1 : (some false) = some r := by rw [if_pos rfl] at H; exact H
           clear H; have H := H1; clear H1; obtain rfl := Option.some.inj H; go_wp2
           go_ret
           exact ⟨by first | rfl | (simp [errW_none, errW_some] <;> rfl) | (simp [*, errW_none, errW_some] <;> rfl), by repeat (first | (with_reducible first | exact HB.out | apply qbA | apply qbN | apply qbD | refine qbS ?_ GE101.out | refine qbS ?_ GE105.out) | exact HB.out)⟩
          ·replace c37 := Bool.eq_false_iff.mpr c37
           subst c37; have H1 : (spec_SchemaOK.l1 kj12 x3_2 0 l0_0 ((rd_T53 l0_0 x3_2).f0) ((rd_T53 l0_0 x3_2).f1)) = some r := by rw [if_neg (show ¬ (false = true) by decide)] at H; exact H
           clear H; have H := H1; clear H1; have H' := qO H; clear H; go_wp2
           go_loopg [5] kj12 (fun kq v5 w' => ∃ (x5_4 : Int), v5 = .int .i64 x5_4 ∧ Aside0 (spec_SchemaOK.l1 kq x3_2 x5_4 l0_0 ((rd_T53 l0_0 x3_2).f0) ((rd_T53 l0_0 x3_2).f1) = some r) ∧ Aside0 (kq ≤ kj12) ∧ Aside0 (w'.heap[gb101]? = some (.cells #[(.slice (some ad104) l0_0.length c0_0)] 29 (0, 0))) ∧ Aside0 (w'.heap[gb105]? = some (.cells #[.string ((rd_T53 l0_0 x3_2).f0), (.slice A104_1 ((rd_T53 l0_0 x3_2).f1).length c104_1)] 53 (0, 0))) ∧ Aside0 (Below w.heap.size w w'))
           case atStart => exact ⟨(0), (by first | rfl | (simp; done) | (simp [*]; done)), H', ⟨Nat.le_refl _⟩, ⟨by (with_reducible repeat (first | refine qkN ?_ _ | refine qkD ?_ | refine qkA ?_ _)); exact BK101.out⟩, ⟨by (with_reducible repeat (first | refine qkN ?_ _ | refine qkD ?_ | refine qkA ?_ _)); exact BK105.out⟩, ⟨by repeat (first | (with_reducible first | exact HB.out | apply qbA | apply qbN | apply qbD | refine qbS ?_ GE101.out | refine qbS ?_ GE105.out) | exact HB.out)⟩⟩
           case round =>
            clear H'
            try clear c1
            try clear p1
            try clear q1
            try clear hx1
            try clear c2
            try clear p2
            try clear c3
            try clear c5
            try clear c9
            try clear c10
            try clear p10
            try clear q10
            try clear hx10
            try clear c11
            try clear c11b0
            try clear c12
            try clear c12b0
            try clear c16
            try clear c19
            try clear c20
            try clear c20b0
            try clear c20b1
            try clear c21
            try clear c24
            try clear c24b0
            try clear c24b1
            try clear c26
            try clear c27
            try clear c29
            try clear c31
            try clear c35
            try clear c37
            try clear hcz14_0
            try clear hcz17_0
            try clear hcz17_1
            try clear hcz22_0
            try clear hcz22_1
            try clear hcz27_0
            try clear hcz27_1
            try clear hcz28_0
            try clear hcz30_0
            try clear hcz30_1
            try clear hcz32_0
            try clear hcz32_1
            try clear hcz33_0
            try clear hcz36_0
            try clear hcz36_1
            try clear hcz7_0
            try clear hcz9_0
            try clear hfz14_0
            try clear hfz17_0
            try clear hfz17_1
            try clear hfz22_0
            try clear hfz22_1
            try clear hfz27_0
            try clear hfz27_1
            try clear hfz28_0
            try clear hfz30_0
            try clear hfz30_1
            try clear hfz32_0
            try clear hfz32_1
            try clear hfz33_0
            try clear hfz36_0
            try clear hfz36_1
            try clear hfz7_0
            try clear hfz9_0
            try clear hx104_0
            try clear hx104_1
            try clear p1
            try clear p10
            try clear p104
            try clear p2
            try clear q1
            try clear q10
            try clear q104
            obtain ⟨x5_4, rfl, HA, HK4, BK101, BK105, HB⟩ := hrel
            cases gk with
            | zero => exact absurd HA.out (by simp [spec_SchemaOK.l1])
            | succ k4 =>
             have H := HA.out; clear HA; simp only [spec_SchemaOK.l1] at H
             by_cases c38 : x5_4 < (((rd_T53 l0_0 x3_2).f1).length : Int)
             ·rw [if_pos c38] at H
              have c38b0 : decide (x5_4 < (((rd_T53 l0_0 x3_2).f1).length : Int)) = true := decide_eq_true c38; clear c38
              by_cases c39 : 0 ≤ x5_4
              ·rw [if_pos c39] at H
               have c39b0 : decide (0 ≤ x5_4) = true := decide_eq_true c39; clear c39; have HC40 := qO H; clear H; have hnb41 := NB105_101.out; have hnc41 := NB101_105.out; have hcz42_0 : wr.cell? ⟨gb105, 0, none⟩ = some (.string ((rd_T53 l0_0 x3_2).f0)) := (blk_cell BK105.out 0).trans rfl; have hcz42_1 : wr.cell? ⟨gb105, 1, none⟩ = some (.slice A104_1 ((rd_T53 l0_0 x3_2).f1).length c104_1) := (blk_cell BK105.out 1).trans rfl; have hfz42_0 := blk_frozen BK105.out 0; have hfz42_1 := blk_frozen BK105.out 1; have p109 : 0 ≤ (x5_4 : Int) := qT (by first | (with_reducible assumption) | assumption); have q109 : x5_4 < (((rd_T53 l0_0 x3_2).f1).length : Int) := qT (by first | (with_reducible assumption) | assumption); obtain ⟨ad109, A109_1, c109_1, e109, hx109_0, hx109_1, hx109_2, hx109_3, hx109_4, hl109_1, hi109_1⟩ := at_T38 HR104_1.out x5_4 p109 q109
               cases e109
               replace hx109_0 := (HB.out.cell (qL w _ hx109_0)).trans hx109_0; replace hx109_1 := (HB.out.cell (qL w _ hx109_1)).trans hx109_1; replace hx109_2 := (HB.out.cell (qL w _ hx109_2)).trans hx109_2; replace hx109_3 := (HB.out.cell (qL w _ hx109_3)).trans hx109_3; replace hx109_4 := (HB.out.cell (qL w _ hx109_4)).trans hx109_4; have HR109_1 := qO hi109_1; have HC109_1 := qO hl109_1; clear hi109_1 hl109_1; replace p109 := eq_true p109; replace q109 := eq_true q109
               go_upto_region 13 with (first | ((with_reducible refine gate_dst (N := 6) rfl ?_); (try (refine gate_guard (by rfl) ?_; dsimp only)); refine box_event ?hg (N := 6) ?hd (cs := #[.string (⟨#[]⟩ : ByteArray), .slice none 0 0, .string (⟨#[]⟩ : ByteArray), .bool false, .bool false]) (t := 38) ?hr ?_; (case hd => rfl); (case hg => rfl); (case hr => first | (go_simp; done) | (go_simp; rfl)); intro gb110 hg w43 hbox hb; have n0_ := qO (blk_below (g := gb101) (o := .cells #[.slice (some ad104) l0_0.length c0_0] 29 (0, 0)) (by (with_reducible repeat (first | refine qkN ?_ _ | refine qkD ?_ | refine qkA ?_ _)); exact BK101.out) hb); have n1_ := qO (blk_below (g := gb105) (o := .cells #[.string ((rd_T53 l0_0 x3_2).f0), .slice (some ad109) ((rd_T53 l0_0 x3_2).f1).length c104_1] 53 (0, 0)) (by (with_reducible repeat (first | refine qkN ?_ _ | refine qkD ?_ | refine qkA ?_ _)); exact BK105.out) hb); have n2_ := qO (below_step (by repeat (first | (with_reducible first | exact HB.out | apply qbA | apply qbN | apply qbD | refine qbS ?_ GE101.out | refine qbS ?_ GE105.out) | exact HB.out)) hb); have n3_ := qO (hbox); have n4_ := qO ((by rw [hg]; exact (below_size (by repeat (first | (with_reducible first | exact HB.out | apply qbA | apply qbN | apply qbD | refine qbS ?_ GE101.out | refine qbS ?_ GE105.out) | exact HB.out))) : w.heap.size ≤ gb110)); have n5_ := qO ((by rw [hg]; exact (below_size (by repeat (first | (with_reducible first | exact HB.out | apply qbA | apply qbN | apply qbD | refine qbS ?_ GE101.out | refine qbS ?_ GE105.out) | exact HB.out))) : w.heap.size ≤ gb110)); have n6_ := qO ((by rw [hg]; exact Nat.ne_of_lt (blk_lt (g := gb101) (o := .cells #[.slice (some ad104) l0_0.length c0_0] 29 (0, 0)) (by (with_reducible repeat (first | refine qkN ?_ _ | refine qkD ?_ | refine qkA ?_ _)); exact BK101.out)) : gb101 ≠ gb110)); have n7_ := qO ((by rw [hg]; exact Nat.ne_of_gt (blk_lt (g := gb101) (o := .cells #[.slice (some ad104) l0_0.length c0_0] 29 (0, 0)) (by (with_reducible repeat (first | refine qkN ?_ _ | refine qkD ?_ | refine qkA ?_ _)); exact BK101.out)) : gb110 ≠ gb101)); have n8_ := qO ((by rw [hg]; exact Nat.ne_of_lt (blk_lt (g := gb105) (o := .cells #[.string ((rd_T53 l0_0 x3_2).f0), .slice (some ad109) ((rd_T53 l0_0 x3_2).f1).length c104_1] 53 (0, 0)) (by (with_reducible repeat (first | refine qkN ?_ _ | refine qkD ?_ | refine qkA ?_ _)); exact BK105.out)) : gb105 ≠ gb110)); have n9_ := qO ((by rw [hg]; exact Nat.ne_of_gt (blk_lt (g := gb105) (o := .cells #[.string ((rd_T53 l0_0 x3_2).f0), .slice (some ad109) ((rd_T53 l0_0 x3_2).f1).length c104_1] 53 (0, 0)) (by (with_reducible repeat (first | refine qkN ?_ _ | refine qkD ?_ | refine qkA ?_ _)); exact BK105.out)) : gb110 ≠ gb105)); clear BK101; clear BK105; clear HB; have BK101 := n0_; have BK105 := n1_; have HB := n2_; have BK110 := n3_; have GW110 := n4_; have GE110 := n5_; have NB101_110 := n6_; have NB110_101 := n7_; have NB105_110 := n8_; have NB110_105 := n9_; clear n0_ n1_ n2_ n3_ n4_ n5_ n6_ n7_ n8_ n9_; clear hb hbox hg; have hnb44 := NB110_101.out; have hnc44 := NB101_110.out; have hnb45 := NB110_105.out; have hnc45 := NB105_110.out; have hcz46_0 : w43.cell? ⟨gb110, 0, none⟩ = some (.string (⟨#[]⟩ : ByteArray)) := (blk_cell BK110.out 0).trans rfl; have hcz46_1 : w43.cell? ⟨gb110, 1, none⟩ = some (.slice none 0 0) := (blk_cell BK110.out 1).trans rfl; have hcz46_2 : w43.cell? ⟨gb110, 2, none⟩ = some (.string (⟨#[]⟩ : ByteArray)) := (blk_cell BK110.out 2).trans rfl; have hcz46_3 : w43.cell? ⟨gb110, 3, none⟩ = some (.bool false) := (blk_cell BK110.out 3).trans rfl; have hcz46_4 : w43.cell? ⟨gb110, 4, none⟩ = some (.bool false) := (blk_cell BK110.out 4).trans rfl; have hfz46_0 := blk_frozen BK110.out 0; have hfz46_1 := blk_frozen BK110.out 1; have hfz46_2 := blk_frozen BK110.out 2; have hfz46_3 := blk_frozen BK110.out 3; have hfz46_4 := blk_frozen BK110.out 4))
               (try simp only [Act.put, qzA, qzB, qzC])
               go_cut [100] (fun v100 wc => ∃ (kq : Nat) (x100_39 : Bool), v100 = .bool x100_39 ∧ Aside0 (spec_SchemaOK.j4 kq x3_2 x5_4 x100_39 l0_0 ((rd_T53 l0_0 x3_2).f0) ((rd_T53 l0_0 x3_2).f1) ((rd_T38 ((rd_T53 l0_0 x3_2).f1) x5_4).f0) ((rd_T38 ((rd_T53 l0_0 x3_2).f1) x5_4).f1) ((rd_T38 ((rd_T53 l0_0 x3_2).f1) x5_4).f2) ((rd_T38 ((rd_T53 l0_0 x3_2).f1) x5_4).f3) ((rd_T38 ((rd_T53 l0_0 x3_2).f1) x5_4).f4) = some r) ∧ Aside0 (kq ≤ k4) ∧ Aside0 (wc.heap[gb101]? = some (.cells #[(.slice (some ad104) l0_0.length c0_0)] 29 (0, 0))) ∧ Aside0 (wc.heap[gb105]? = some (.cells #[.string ((rd_T53 l0_0 x3_2).f0), (.slice (some ad109) ((rd_T53 l0_0 x3_2).f1).length c104_1)] 53 (0, 0))) ∧ Aside0 (wc.heap[gb110]? = some (.cells #[.string ((rd_T38 ((rd_T53 l0_0 x3_2).f1) x5_4).f0), (.slice A109_1 ((rd_T38 ((rd_T53 l0_0 x3_2).f1) x5_4).f1).length c109_1), .string ((rd_T38 ((rd_T53 l0_0 x3_2).f1) x5_4).f2), .bool ((rd_T38 ((rd_T53 l0_0 x3_2).f1) x5_4).f3), .bool ((rd_T38 ((rd_T53 l0_0 x3_2).f1) x5_4).f4)] 38 (0, 0))) ∧ Aside0 (Below w.heap.size w wc))
               case first =>
                have H := HC40.out; clear HC40; replace H := Option.bind_eq_some_iff.mp H; obtain ⟨t111, A470, H⟩ := H; replace H : (if t111 = true then (if ((rd_T38 ((rd_T53 l0_0 x3_2).f1) x5_4).f0).toList = ([95, 95, 116, 121, 112, 101, 110, 97, 109, 101] : List UInt8) then (spec_SchemaOK.j4 k4 x3_2 x5_4 true l0_0 ((rd_T53 l0_0 x3_2).f0) ((rd_T53 l0_0 x3_2).f1) ((rd_T38 ((rd_T53 l0_0 x3_2).f1) x5_4).f0) ((rd_T38 ((rd_T53 l0_0 x3_2).f1) x5_4).f1) ((rd_T38 ((rd_T53 l0_0 x3_2).f1) x5_4).f2) ((rd_T38 ((rd_T53 l0_0 x3_2).f1) x5_4).f3) ((rd_T38 ((rd_T53 l0_0 x3_2).f1) x5_4).f4)) else ((spec_l03Field.f k4 ((rd_T53 l0_0 x3_2).f0) ((rd_T53 l0_0 x3_2).f1) ((rd_T38 ((rd_T53 l0_0 x3_2).f1) x5_4).f0)).bind fun t112 => (if t112 = x5_4 then (if ((rd_T38 ((rd_T53 l0_0 x3_2).f1) x5_4).f2).toList = ([73, 110, 116] : List UInt8) then (spec_SchemaOK.j4 k4 x3_2 x5_4 (decide ((((rd_T38 ((rd_T53 l0_0 x3_2).f1) x5_4).f1).length : Int) > 4)) l0_0 ((rd_T53 l0_0 x3_2).f0) ((rd_T53 l0_0 x3_2).f1) ((rd_T38 ((rd_T53 l0_0 x3_2).f1) x5_4).f0) ((rd_T38 ((rd_T53 l0_0 x3_2).f1) x5_4).f1) ((rd_T38 ((rd_T53 l0_0 x3_2).f1) x5_4).f2) ((rd_T38 ((rd_T53 l0_0 x3_2).f1) x5_4).f3) ((rd_T38 ((rd_T53 l0_0 x3_2).f1) x5_4).f4)) else ((spec_l03Find.f k4 l0_0 ((rd_T38 ((rd_T53 l0_0 x3_2).f1) x5_4).f2)).bind fun t113 => (if t113 < 0 then (spec_SchemaOK.j4 k4 x3_2 x5_4 true l0_0 ((rd_T53 l0_0 x3_2).f0) ((rd_T53 l0_0 x3_2).f1) ((rd_T38 ((rd_T53 l0_0 x3_2).f1) x5_4).f0) ((rd_T38 ((rd_T53 l0_0 x3_2).f1) x5_4).f1) ((rd_T38 ((rd_T53 l0_0 x3_2).f1) x5_4).f2) ((rd_T38 ((rd_T53 l0_0 x3_2).f1) x5_4).f3) ((rd_T38 ((rd_T53 l0_0 x3_2).f1) x5_4).f4)) else (spec_SchemaOK.j4 k4 x3_2 x5_4 (decide ((((rd_T38 ((rd_T53 l0_0 x3_2).f1) x5_4).f1).length : Int) > 4)) l0_0 ((rd_T53 l0_0 x3_2).f0) ((rd_T53 l0_0 x3_2).f1) ((rd_T38 ((rd_T53 l0_0 x3_2).f1) x5_4).f0) ((rd_T38 ((rd_T53 l0_0 x3_2).f1) x5_4).f1) ((rd_T38 ((rd_T53 l0_0 x3_2).f1) x5_4).f2) ((rd_T38 ((rd_T53 l0_0 x3_2).f1) x5_4).f3) ((rd_T38 ((rd_T53 l0_0 x3_2).f1) x5_4).f4))))) else (spec_SchemaOK.j4 k4 x3_2 x5_4 true l0_0 ((rd_T53 l0_0 x3_2).f0) ((rd_T53 l0_0 x3_2).f1) ((rd_T38 ((rd_T53 l0_0 x3_2).f1) x5_4).f0) ((rd_T38 ((rd_T53 l0_0 x3_2).f1) x5_4).f1) ((rd_T38 ((rd_T53 l0_0 x3_2).f1) x5_4).f2) ((rd_T38 ((rd_T53 l0_0 x3_2).f1) x5_4).f3) ((rd_T38 ((rd_T53 l0_0 x3_2).f1) x5_4).f4))))) else (spec_SchemaOK.j4 k4 x3_2 x5_4 true l0_0 ((rd_T53 l0_0 x3_2).f0) ((rd_T53 l0_0 x3_2).f1) ((rd_T38 ((rd_T53 l0_0 x3_2).f1) x5_4).f0) ((rd_T38 ((rd_T53 l0_0 x3_2).f1) x5_4).f1) ((rd_T38 ((rd_T53 l0_0 x3_2).f1) x5_4).f2) ((rd_T38 ((rd_T53 l0_0 x3_2).f1) x5_4).f3) ((rd_T38 ((rd_T53 l0_0 x3_2).f1) x5_4).f4))) = some r := H; have A47 := qO A470; clear A470
                by_cases c48 : t111 = true
                ·subst c48
                 have H1 : (if ((rd_T38 ((rd_T53 l0_0 x3_2).f1) x5_4).f0).toList = ([95, 95, 116, 121, 112, 101, 110, 97, 109, 101] : List UInt8) then (spec_SchemaOK.j4 k4 x3_2 x5_4 true l0_0 ((rd_T53 l0_0 x3_2).f0) ((rd_T53 l0_0 x3_2).f1) ((rd_T38 ((rd_T53 l0_0 x3_2).f1) x5_4).f0) ((rd_T38 ((rd_T53 l0_0 x3_2).f1) x5_4).f1) ((rd_T38 ((rd_T53 l0_0 x3_2).f1) x5_4).f2) ((rd_T38 ((rd_T53 l0_0 x3_2).f1) x5_4).f3) ((rd_T38 ((rd_T53 l0_0 x3_2).f1) x5_4).f4)) else ((spec_l03Field.f k4 ((rd_T53 l0_0 x3_2).f0) ((rd_T53 l0_0 x3_2).f1) ((rd_T38 ((rd_T53 l0_0 x3_2).f1) x5_4).f0)).bind fun t112 => (if t112 = x5_4 then (if ((rd_T38 ((rd_T53 l0_0 x3_2).f1) x5_4).f2).toList = ([73, 110, 116] : List UInt8) then (spec_SchemaOK.j4 k4 x3_2 x5_4 (decide ((((rd_T38 ((rd_T53 l0_0 x3_2).f1) x5_4).f1).length : Int) > 4)) l0_0 ((rd_T53 l0_0 x3_2).f0) ((rd_T53 l0_0 x3_2).f1) ((rd_T38 ((rd_T53 l0_0 x3_2).f1) x5_4).f0) ((rd_T38 ((rd_T53 l0_0 x3_2).f1) x5_4).f1) ((rd_T38 ((rd_T53 l0_0 x3_2).f1) x5_4).f2) ((rd_T38 ((rd_T53 l0_0 x3_2).f1) x5_4).f3) ((rd_T38 ((rd_T53 l0_0 x3_2).f1) x5_4).f4)) else ((spec_l03Find.f k4 l0_0 ((rd_T38 ((rd_T53 l0_0 x3_2).f1) x5_4).f2)).bind fun t113 => (if t113 < 0 then (spec_SchemaOK.j4 k4 x3_2 x5_4 true l0_0 ((rd_T53 l0_0 x3_2).f0) ((rd_T53 l0_0 x3_2).f1) ((rd_T38 ((rd_T53 l0_0 x3_2).f1) x5_4).f0) ((rd_T38 ((rd_T53 l0_0 x3_2).f1) x5_4).f1) ((rd_T38 ((rd_T53 l0_0 x3_2).f1) x5_4).f2) ((rd_T38 ((rd_T53 l0_0 x3_2).f1) x5_4).f3) ((rd_T38 ((rd_T53 l0_0 x3_2).f1) x5_4).f4)) else (spec_SchemaOK.j4 k4 x3_2 x5_4 (decide ((((rd_T38 ((rd_T53 l0_0 x3_2).f1) x5_4).f1).length : Int) > 4)) l0_0 ((rd_T53 l0_0 x3_2).f0) ((rd_T53 l0_0 x3_2).f1) ((rd_T38 ((rd_T53 l0_0 x3_2).f1) x5_4).f0) ((rd_T38 ((rd_T53 l0_0 x3_2).f1) x5_4).f1) ((rd_T38 ((rd_T53 l0_0 x3_2).f1) x5_4).f2) ((rd_T38 ((rd_T53 l0_0 x3_2).f1) x5_4).f3) ((rd_T38 ((rd_T53 l0_0 x3_2).f1) x5_4).f4))))) else (spec_SchemaOK.j4 k4 x3_2 x5_4 true l0_0 ((rd_T53 l0_0 x3_2).f0) ((rd_T53 l0_0 x3_2).f1) ((rd_T38 ((rd_T53 l0_0 x3_2).f1) x5_4).f0) ((rd_T38 ((rd_T53 l0_0 x3_2).f1) x5_4).f1) ((rd_T38 ((rd_T53 l0_0 x3_2).f1) x5_4).f2) ((rd_T38 ((rd_T53 l0_0 x3_2).f1) x5_4).f3) ((rd_T38 ((rd_T53 l0_0 x3_2).f1) x5_4).f4))))) = some r := by rw [if_pos rfl] at H; exact H
                 clear H; have H := H1; clear H1
                 by_cases c49 : ((rd_T38 ((rd_T53 l0_0 x3_2).f1) x5_4).f0).toList = ([95, 95, 116, 121, 112, 101, 110, 97, 109, 101] : List UInt8)
                 ·rw [if_pos c49] at H
                  have c49b0 : (((rd_T38 ((rd_T53 l0_0 x3_2).f1) x5_4).f0).toList == ([95, 95, 116, 121, 112, 101, 110, 97, 109, 101] : List UInt8)) = true := beq_iff_eq.mpr c49; have c49b1 : (((rd_T38 ((rd_T53 l0_0 x3_2).f1) x5_4).f0).toList != ([95, 95, 116, 121, 112, 101, 110, 97, 109, 101] : List UInt8)) = false := bne_eq_false_iff_eq.mpr c49; clear c49; (first | rw [c49b0] | (simp only [i64_w, i32_w]; rw [c49b0]) | skip); have H' := qO H; clear H; have hnb50 := NB110_101.out; have hnc50 := NB101_110.out; have hnb51 := NB110_105.out; have hnc51 := NB105_110.out; have hcz52_0 : w43.cell? ⟨gb110, 0, none⟩ = some (.string (⟨#[]⟩ : ByteArray)) := (blk_cell BK110.out 0).trans rfl; have hcz52_1 : w43.cell? ⟨gb110, 1, none⟩ = some (.slice none 0 0) := (blk_cell BK110.out 1).trans rfl; have hcz52_2 : w43.cell? ⟨gb110, 2, none⟩ = some (.string (⟨#[]⟩ : ByteArray)) := (blk_cell BK110.out 2).trans rfl; have hcz52_3 : w43.cell? ⟨gb110, 3, none⟩ = some (.bool false) := (blk_cell BK110.out 3).trans rfl; have hcz52_4 : w43.cell? ⟨gb110, 4, none⟩ = some (.bool false) := (blk_cell BK110.out 4).trans rfl; have hfz52_0 := blk_frozen BK110.out 0; have hfz52_1 := blk_frozen BK110.out 1; have hfz52_2 := blk_frozen BK110.out 2; have hfz52_3 := blk_frozen BK110.out 3; have hfz52_4 := blk_frozen BK110.out 4
                  go_wp2_with (first | ((with_reducible refine gate_callee (f := 29) rfl ?_); refine goesL_ (some 68) rfl rfl Try.func29 (by kernel_rfl) rfl #[.string ((rd_T38 ((rd_T53 l0_0 x3_2).f1) x5_4).f0)] rfl (by (try simp only [List.map_toArray, List.map_cons, List.map_nil]); first | done | rfl | (simp only [List.length_drop, List.length_take]; rfl)) ?_; (with_reducible refine (spec_NameOK.calls k4 ((rd_T38 ((rd_T53 l0_0 x3_2).f1) x5_4).f0) true _ A47.out).mono ?_); rintro e w' ⟨rfl, ⟨nd, rfl⟩⟩; refine ⟨_, rfl, ?_⟩))
                  go_meet
                  case rel => exact ⟨_, (true), (by first | rfl | (simp; done) | (simp [*]; done)), H', ⟨by have := HJ1.out; have := HK2.out; have := HJ12.out; have := HK4.out; first | omega | exact Nat.le_refl _⟩, ⟨by (with_reducible repeat (first | refine qkN ?_ _ | refine qkD ?_ | refine qkA ?_ _)); refine blk_far ?_ NB101_110.out _; (with_reducible repeat (first | refine qkN ?_ _ | refine qkD ?_ | refine qkA ?_ _)); refine blk_far ?_ NB101_110.out _; (with_reducible repeat (first | refine qkN ?_ _ | refine qkD ?_ | refine qkA ?_ _)); refine blk_far ?_ NB101_110.out _; (with_reducible repeat (first | refine qkN ?_ _ | refine qkD ?_ | refine qkA ?_ _)); refine blk_far ?_ NB101_110.out _; (with_reducible repeat (first | refine qkN ?_ _ | refine qkD ?_ | refine qkA ?_ _)); refine blk_far ?_ NB101_110.out _; (with_reducible repeat (first | refine qkN ?_ _ | refine qkD ?_ | refine qkA ?_ _)); exact BK101.out⟩, ⟨by (with_reducible repeat (first | refine qkN ?_ _ | refine qkD ?_ | refine qkA ?_ _)); refine blk_far ?_ NB105_110.out _; (with_reducible repeat (first | refine qkN ?_ _ | refine qkD ?_ | refine qkA ?_ _)); refine blk_far ?_ NB105_110.out _; (with_reducible repeat (first | refine qkN ?_ _ | refine qkD ?_ | refine qkA ?_ _)); refine blk_far ?_ NB105_110.out _; (with_reducible repeat (first | refine qkN ?_ _ | refine qkD ?_ | refine qkA ?_ _)); refine blk_far ?_ NB105_110.out _; (with_reducible repeat (first | refine qkN ?_ _ | refine qkD ?_ | refine qkA ?_ _)); refine blk_far ?_ NB105_110.out _; (with_reducible repeat (first | refine qkN ?_ _ | refine qkD ?_ | refine qkA ?_ _)); exact BK105.out⟩, ⟨by (with_reducible repeat (first | refine qkN ?_ _ | refine qkD ?_ | refine qkA ?_ _)); refine blk_put (cs := #[.string ((rd_T38 ((rd_T53 l0_0 x3_2).f1) x5_4).f0), .slice A109_1 ((rd_T38 ((rd_T53 l0_0 x3_2).f1) x5_4).f1).length c109_1, .string ((rd_T38 ((rd_T53 l0_0 x3_2).f1) x5_4).f2), .bool ((rd_T38 ((rd_T53 l0_0 x3_2).f1) x5_4).f3), .bool false]) ?_ 4 _ rfl; (with_reducible repeat (first | refine qkN ?_ _ | refine qkD ?_ | refine qkA ?_ _)); refine blk_put (cs := #[.string ((rd_T38 ((rd_T53 l0_0 x3_2).f1) x5_4).f0), .slice A109_1 ((rd_T38 ((rd_T53 l0_0 x3_2).f1) x5_4).f1).length c109_1, .string ((rd_T38 ((rd_T53 l0_0 x3_2).f1) x5_4).f2), .bool false, .bool false]) ?_ 3 _ rfl; (with_reducible repeat (first | refine qkN ?_ _ | refine qkD ?_ | refine qkA ?_ _)); refine blk_put (cs := #[.string ((rd_T38 ((rd_T53 l0_0 x3_2).f1) x5_4).f0), .slice A109_1 ((rd_T38 ((rd_T53 l0_0 x3_2).f1) x5_4).f1).length c109_1, .string (⟨#[]⟩ : ByteArray), .bool false, .bool false]) ?_ 2 _ rfl; (with_reducible repeat (first | refine qkN ?_ _ | refine qkD ?_ | refine qkA ?_ _)); refine blk_put (cs := #[.string ((rd_T38 ((rd_T53 l0_0 x3_2).f1) x5_4).f0), .slice none 0 0, .string (⟨#[]⟩ : ByteArray), .bool false, .bool false]) ?_ 1 _ rfl; (with_reducible repeat (first | refine qkN ?_ _ | refine qkD ?_ | refine qkA ?_ _)); refine blk_put (cs := #[.string (⟨#[]⟩ : ByteArray), .slice none 0 0, .string (⟨#[]⟩ : ByteArray), .bool false, .bool false]) ?_ 0 _ rfl; (with_reducible repeat (first | refine qkN ?_ _ | refine qkD ?_ | refine qkA ?_ _)); exact BK110.out⟩, ⟨by repeat (first | (with_reducible first | exact HB.out | apply qbA | apply qbN | apply qbD | refine qbS ?_ GE101.out | refine qbS ?_ GE105.out | refine qbS ?_ GE110.out) | exact HB.out)⟩⟩
                 ·rw [if_neg c49] at H
                  have c49b0 : (((rd_T38 ((rd_T53 l0_0 x3_2).f1) x5_4).f0).toList == ([95, 95, 116, 121, 112, 101, 110, 97, 109, 101] : List UInt8)) = false := beq_eq_false_iff_ne.mpr c49; have c49b1 : (((rd_T38 ((rd_T53 l0_0 x3_2).f1) x5_4).f0).toList != ([95, 95, 116, 121, 112, 101, 110, 97, 109, 101] : List UInt8)) = true := bne_iff_ne.mpr c49; (first | rw [c49b0] | (simp only [i64_w, i32_w]; rw [c49b0]) | skip); replace H := Option.bind_eq_some_iff.mp H; obtain ⟨t112, A530, H⟩ := H; replace H : (if t112 = x5_4 then (if ((rd_T38 ((rd_T53 l0_0 x3_2).f1) x5_4).f2).toList = ([73, 110, 116] : List UInt8) then (spec_SchemaOK.j4 k4 x3_2 x5_4 (decide ((((rd_T38 ((rd_T53 l0_0 x3_2).f1) x5_4).f1).length : Int) > 4)) l0_0 ((rd_T53 l0_0 x3_2).f0) ((rd_T53 l0_0 x3_2).f1) ((rd_T38 ((rd_T53 l0_0 x3_2).f1) x5_4).f0) ((rd_T38 ((rd_T53 l0_0 x3_2).f1) x5_4).f1) ((rd_T38 ((rd_T53 l0_0 x3_2).f1) x5_4).f2) ((rd_T38 ((rd_T53 l0_0 x3_2).f1) x5_4).f3) ((rd_T38 ((rd_T53 l0_0 x3_2).f1) x5_4).f4)) else ((spec_l03Find.f k4 l0_0 ((rd_T38 ((rd_T53 l0_0 x3_2).f1) x5_4).f2)).bind fun t113 => (if t113 < 0 then (spec_SchemaOK.j4 k4 x3_2 x5_4 true l0_0 ((rd_T53 l0_0 x3_2).f0) ((rd_T53 l0_0 x3_2).f1) ((rd_T38 ((rd_T53 l0_0 x3_2).f1) x5_4).f0) ((rd_T38 ((rd_T53 l0_0 x3_2).f1) x5_4).f1) ((rd_T38 ((rd_T53 l0_0 x3_2).f1) x5_4).f2) ((rd_T38 ((rd_T53 l0_0 x3_2).f1) x5_4).f3) ((rd_T38 ((rd_T53 l0_0 x3_2).f1) x5_4).f4)) else (spec_SchemaOK.j4 k4 x3_2 x5_4 (decide ((((rd_T38 ((rd_T53 l0_0 x3_2).f1) x5_4).f1).length : Int) > 4)) l0_0 ((rd_T53 l0_0 x3_2).f0) ((rd_T53 l0_0 x3_2).f1) ((rd_T38 ((rd_T53 l0_0 x3_2).f1) x5_4).f0) ((rd_T38 ((rd_T53 l0_0 x3_2).f1) x5_4).f1) ((rd_T38 ((rd_T53 l0_0 x3_2).f1) x5_4).f2) ((rd_T38 ((rd_T53 l0_0 x3_2).f1) x5_4).f3) ((rd_T38 ((rd_T53 l0_0 x3_2).f1) x5_4).f4))))) else (spec_SchemaOK.j4 k4 x3_2 x5_4 true l0_0 ((rd_T53 l0_0 x3_2).f0) ((rd_T53 l0_0 x3_2).f1) ((rd_T38 ((rd_T53 l0_0 x3_2).f1) x5_4).f0) ((rd_T38 ((rd_T53 l0_0 x3_2).f1) x5_4).f1) ((rd_T38 ((rd_T53 l0_0 x3_2).f1) x5_4).f2) ((rd_T38 ((rd_T53 l0_0 x3_2).f1) x5_4).f3) ((rd_T38 ((rd_T53 l0_0 x3_2).f1) x5_4).f4))) = some r := H; have A53 := qO A530; clear A530
                  by_cases c54 : t112 = x5_4
                  ·rw [if_pos c54] at H
                   have c54b0 : (t112 == x5_4) = true := beq_iff_eq.mpr c54; have c54b1 : (t112 != x5_4) = false := bne_eq_false_iff_eq.mpr c54; clear c54
                   by_cases c55 : ((rd_T38 ((rd_T53 l0_0 x3_2).f1) x5_4).f2).toList = ([73, 110, 116] : List UInt8)
                   ·rw [if_pos c55] at H
                    have c55b0 : (((rd_T38 ((rd_T53 l0_0 x3_2).f1) x5_4).f2).toList == ([73, 110, 116] : List UInt8)) = true := beq_iff_eq.mpr c55; have c55b1 : (((rd_T38 ((rd_T53 l0_0 x3_2).f1) x5_4).f2).toList != ([73, 110, 116] : List UInt8)) = false := bne_eq_false_iff_eq.mpr c55; clear c55; have H' := qO H; clear H; have hnb56 := NB110_101.out; have hnc56 := NB101_110.out; have hnb57 := NB110_105.out; have hnc57 := NB105_110.out; have hcz58_0 : w43.cell? ⟨gb110, 0, none⟩ = some (.string (⟨#[]⟩ : ByteArray)) := (blk_cell BK110.out 0).trans rfl; have hcz58_1 : w43.cell? ⟨gb110, 1, none⟩ = some (.slice none 0 0) := (blk_cell BK110.out 1).trans rfl; have hcz58_2 : w43.cell? ⟨gb110, 2, none⟩ = some (.string (⟨#[]⟩ : ByteArray)) := (blk_cell BK110.out 2).trans rfl; have hcz58_3 : w43.cell? ⟨gb110, 3, none⟩ = some (.bool false) := (blk_cell BK110.out 3).trans rfl; have hcz58_4 : w43.cell? ⟨gb110, 4, none⟩ = some (.bool false) := (blk_cell BK110.out 4).trans rfl; have hfz58_0 := blk_frozen BK110.out 0; have hfz58_1 := blk_frozen BK110.out 1; have hfz58_2 := blk_frozen BK110.out 2; have hfz58_3 := blk_frozen BK110.out 3; have hfz58_4 := blk_frozen BK110.out 4
                    go_wp2_with (first | ((with_reducible refine gate_callee (f := 29) rfl ?_); refine goesL_ (some 68) rfl rfl Try.func29 (by kernel_rfl) rfl #[.string ((rd_T38 ((rd_T53 l0_0 x3_2).f1) x5_4).f0)] rfl (by (try simp only [List.map_toArray, List.map_cons, List.map_nil]); first | done | rfl | (simp only [List.length_drop, List.length_take]; rfl)) ?_; (with_reducible refine (spec_NameOK.calls k4 ((rd_T38 ((rd_T53 l0_0 x3_2).f1) x5_4).f0) true _ A47.out).mono ?_); rintro e w' ⟨rfl, ⟨nd, rfl⟩⟩; refine ⟨_, rfl, ?_⟩; have hnb59 := NB105_101.out; have hnc59 := NB101_105.out; have hcz60_0 : w43.cell? ⟨gb105, 0, none⟩ = some (.string ((rd_T53 l0_0 x3_2).f0)) := (blk_cell BK105.out 0).trans rfl; have hcz60_1 : w43.cell? ⟨gb105, 1, none⟩ = some (.slice (some ad109) ((rd_T53 l0_0 x3_2).f1).length c104_1) := (blk_cell BK105.out 1).trans rfl; have hfz60_0 := blk_frozen BK105.out 0; have hfz60_1 := blk_frozen BK105.out 1) | (go_at_call 30; (with_reducible refine (spec_l03Field.calls k4 ((rd_T53 l0_0 x3_2).f0) _ _ ((rd_T53 l0_0 x3_2).f1) ((rd_T38 ((rd_T53 l0_0 x3_2).f1) x5_4).f0) t112 _ ?side1 ?side2 A53.out).mono ?_); (case side1 => exact Kd.C_below HR104_1.out (by repeat (first | (with_reducible first | exact HB.out | apply qbA | apply qbN | apply qbD | refine qbS ?_ GE101.out | refine qbS ?_ GE105.out | refine qbS ?_ GE110.out) | exact HB.out))); (case side2 => exact HC104_1.out); rintro e w61 ⟨rfl, hb⟩; have n0_ := qO (blk_below (g := gb101) (o := .cells #[.slice (some ad104) l0_0.length c0_0] 29 (0, 0)) (by (with_reducible repeat (first | refine qkN ?_ _ | refine qkD ?_ | refine qkA ?_ _)); refine blk_far ?_ NB101_110.out _; (with_reducible repeat (first | refine qkN ?_ _ | refine qkD ?_ | refine qkA ?_ _)); refine blk_far ?_ NB101_110.out _; (with_reducible repeat (first | refine qkN ?_ _ | refine qkD ?_ | refine qkA ?_ _)); refine blk_far ?_ NB101_110.out _; (with_reducible repeat (first | refine qkN ?_ _ | refine qkD ?_ | refine qkA ?_ _)); refine blk_far ?_ NB101_110.out _; (with_reducible repeat (first | refine qkN ?_ _ | refine qkD ?_ | refine qkA ?_ _)); refine blk_far ?_ NB101_110.out _; (with_reducible repeat (first | refine qkN ?_ _ | refine qkD ?_ | refine qkA ?_ _)); exact BK101.out) hb); have n1_ := qO (blk_below (g := gb105) (o := .cells #[.string ((rd_T53 l0_0 x3_2).f0), .slice (some ad109) ((rd_T53 l0_0 x3_2).f1).length c104_1] 53 (0, 0)) (by (with_reducible repeat (first | refine qkN ?_ _ | refine qkD ?_ | refine qkA ?_ _)); refine blk_far ?_ NB105_110.out _; (with_reducible repeat (first | refine qkN ?_ _ | refine qkD ?_ | refine qkA ?_ _)); refine blk_far ?_ NB105_110.out _; (with_reducible repeat (first | refine qkN ?_ _ | refine qkD ?_ | refine qkA ?_ _)); refine blk_far ?_ NB105_110.out _; (with_reducible repeat (first | refine qkN ?_ _ | refine qkD ?_ | refine qkA ?_ _)); refine blk_far ?_ NB105_110.out _; (with_reducible repeat (first | refine qkN ?_ _ | refine qkD ?_ | refine qkA ?_ _)); refine blk_far ?_ NB105_110.out _; (with_reducible repeat (first | refine qkN ?_ _ | refine qkD ?_ | refine qkA ?_ _)); exact BK105.out) hb); have n2_ := qO (blk_below (g := gb110) (o := .cells #[.string ((rd_T38 ((rd_T53 l0_0 x3_2).f1) x5_4).f0), .slice A109_1 ((rd_T38 ((rd_T53 l0_0 x3_2).f1) x5_4).f1).length c109_1, .string ((rd_T38 ((rd_T53 l0_0 x3_2).f1) x5_4).f2), .bool ((rd_T38 ((rd_T53 l0_0 x3_2).f1) x5_4).f3), .bool ((rd_T38 ((rd_T53 l0_0 x3_2).f1) x5_4).f4)] 38 (0, 0)) (by (with_reducible repeat (first | refine qkN ?_ _ | refine qkD ?_ | refine qkA ?_ _)); refine blk_put (cs := #[.string ((rd_T38 ((rd_T53 l0_0 x3_2).f1) x5_4).f0), .slice A109_1 ((rd_T38 ((rd_T53 l0_0 x3_2).f1) x5_4).f1).length c109_1, .string ((rd_T38 ((rd_T53 l0_0 x3_2).f1) x5_4).f2), .bool ((rd_T38 ((rd_T53 l0_0 x3_2).f1) x5_4).f3), .bool false]) ?_ 4 _ rfl; (with_reducible repeat (first | refine qkN ?_ _ | refine qkD ?_ | refine qkA ?_ _)); refine blk_put (cs := #[.string ((rd_T38 ((rd_T53 l0_0 x3_2).f1) x5_4).f0), .slice A109_1 ((rd_T38 ((rd_T53 l0_0 x3_2).f1) x5_4).f1).length c109_1, .string ((rd_T38 ((rd_T53 l0_0 x3_2).f1) x5_4).f2), .bool false, .bool false]) ?_ 3 _ rfl; (with_reducible repeat (first | refine qkN ?_ _ | refine qkD ?_ | refine qkA ?_ _)); refine blk_put (cs := #[.string ((rd_T38 ((rd_T53 l0_0 x3_2).f1) x5_4).f0), .slice A109_1 ((rd_T38 ((rd_T53 l0_0 x3_2).f1) x5_4).f1).length c109_1, .string (⟨#[]⟩ : ByteArray), .bool false, .bool false]) ?_ 2 _ rfl; (with_reducible repeat (first | refine qkN ?_ _ | refine qkD ?_ | refine qkA ?_ _)); refine blk_put (cs := #[.string ((rd_T38 ((rd_T53 l0_0 x3_2).f1) x5_4).f0), .slice none 0 0, .string (⟨#[]⟩ : ByteArray), .bool false, .bool false]) ?_ 1 _ rfl; (with_reducible repeat (first | refine qkN ?_ _ | refine qkD ?_ | refine qkA ?_ _)); refine blk_put (cs := #[.string (⟨#[]⟩ : ByteArray), .slice none 0 0, .string (⟨#[]⟩ : ByteArray), .bool false, .bool false]) ?_ 0 _ rfl; (with_reducible repeat (first | refine qkN ?_ _ | refine qkD ?_ | refine qkA ?_ _)); exact BK110.out) hb); have n3_ := qO (below_step (by repeat (first | (with_reducible first | exact HB.out | apply qbA | apply qbN | apply qbD | refine qbS ?_ GE101.out | refine qbS ?_ GE105.out | refine qbS ?_ GE110.out) | exact HB.out)) hb); clear BK101; clear BK105; clear BK110; clear HB; have BK101 := n0_; have BK105 := n1_; have BK110 := n2_; have HB := n3_; clear n0_ n1_ n2_ n3_; (try clear hb); (try clear hb2); (try clear hk); (try clear hi); have hcz62_0 : w61.cell? ⟨gb110, 0, none⟩ = some (.string ((rd_T38 ((rd_T53 l0_0 x3_2).f1) x5_4).f0)) := (blk_cell BK110.out 0).trans rfl; have hcz62_1 : w61.cell? ⟨gb110, 1, none⟩ = some (.slice A109_1 ((rd_T38 ((rd_T53 l0_0 x3_2).f1) x5_4).f1).length c109_1) := (blk_cell BK110.out 1).trans rfl; have hcz62_2 : w61.cell? ⟨gb110, 2, none⟩ = some (.string ((rd_T38 ((rd_T53 l0_0 x3_2).f1) x5_4).f2)) := (blk_cell BK110.out 2).trans rfl; have hcz62_3 : w61.cell? ⟨gb110, 3, none⟩ = some (.bool ((rd_T38 ((rd_T53 l0_0 x3_2).f1) x5_4).f3)) := (blk_cell BK110.out 3).trans rfl; have hcz62_4 : w61.cell? ⟨gb110, 4, none⟩ = some (.bool ((rd_T38 ((rd_T53 l0_0 x3_2).f1) x5_4).f4)) := (blk_cell BK110.out 4).trans rfl; have hfz62_0 := blk_frozen BK110.out 0; have hfz62_1 := blk_frozen BK110.out 1; have hfz62_2 := blk_frozen BK110.out 2; have hfz62_3 := blk_frozen BK110.out 3; have hfz62_4 := blk_frozen BK110.out 4))
                    go_meet
                    case rel => exact ⟨_, (decide ((((rd_T38 ((rd_T53 l0_0 x3_2).f1) x5_4).f1).length : Int) > 4)), (by first | rfl | (simp; done) | (simp [*]; done)), H', ⟨by have := HJ1.out; have := HK2.out; have := HJ12.out; have := HK4.out; first | omega | exact Nat.le_refl _⟩, ⟨by (with_reducible repeat (first | refine qkN ?_ _ | refine qkD ?_ | refine qkA ?_ _)); exact BK101.out⟩, ⟨by (with_reducible repeat (first | refine qkN ?_ _ | refine qkD ?_ | refine qkA ?_ _)); exact BK105.out⟩, ⟨by (with_reducible repeat (first | refine qkN ?_ _ | refine qkD ?_ | refine qkA ?_ _)); exact BK110.out⟩, ⟨by repeat (first | (with_reducible first | exact HB.out | apply qbA | apply qbN | apply qbD | refine qbS ?_ GE101.out | refine qbS ?_ GE105.out | refine qbS ?_ GE110.out) | exact HB.out)⟩⟩
                   ·rw [if_neg c55] at H
                    have c55b0 : (((rd_T38 ((rd_T53 l0_0 x3_2).f1) x5_4).f2).toList == ([73, 110, 116] : List UInt8)) = false := beq_eq_false_iff_ne.mpr c55; have c55b1 : (((rd_T38 ((rd_T53 l0_0 x3_2).f1) x5_4).f2).toList != ([73, 110, 116] : List UInt8)) = true := bne_iff_ne.mpr c55; replace H := Option.bind_eq_some_iff.mp H; obtain ⟨t113, A630, H⟩ := H; replace H : (if t113 < 0 then (spec_SchemaOK.j4 k4 x3_2 x5_4 true l0_0 ((rd_T53 l0_0 x3_2).f0) ((rd_T53 l0_0 x3_2).f1) ((rd_T38 ((rd_T53 l0_0 x3_2).f1) x5_4).f0) ((rd_T38 ((rd_T53 l0_0 x3_2).f1) x5_4).f1) ((rd_T38 ((rd_T53 l0_0 x3_2).f1) x5_4).f2) ((rd_T38 ((rd_T53 l0_0 x3_2).f1) x5_4).f3) ((rd_T38 ((rd_T53 l0_0 x3_2).f1) x5_4).f4)) else (spec_SchemaOK.j4 k4 x3_2 x5_4 (decide ((((rd_T38 ((rd_T53 l0_0 x3_2).f1) x5_4).f1).length : Int) > 4)) l0_0 ((rd_T53 l0_0 x3_2).f0) ((rd_T53 l0_0 x3_2).f1) ((rd_T38 ((rd_T53 l0_0 x3_2).f1) x5_4).f0) ((rd_T38 ((rd_T53 l0_0 x3_2).f1) x5_4).f1) ((rd_T38 ((rd_T53 l0_0 x3_2).f1) x5_4).f2) ((rd_T38 ((rd_T53 l0_0 x3_2).f1) x5_4).f3) ((rd_T38 ((rd_T53 l0_0 x3_2).f1) x5_4).f4))) = some r := H; have A63 := qO A630; clear A630
                    by_cases c64 : t113 < 0
                    ·rw [if_pos c64] at H
                     have c64b0 : decide (t113 < 0) = true := decide_eq_true c64; clear c64; have H' := qO H; clear H; have hnb65 := NB110_101.out; have hnc65 := NB101_110.out; have hnb66 := NB110_105.out; have hnc66 := NB105_110.out; have hcz67_0 : w43.cell? ⟨gb110, 0, none⟩ = some (.string (⟨#[]⟩ : ByteArray)) := (blk_cell BK110.out 0).trans rfl; have hcz67_1 : w43.cell? ⟨gb110, 1, none⟩ = some (.slice none 0 0) := (blk_cell BK110.out 1).trans rfl; have hcz67_2 : w43.cell? ⟨gb110, 2, none⟩ = some (.string (⟨#[]⟩ : ByteArray)) := (blk_cell BK110.out 2).trans rfl; have hcz67_3 : w43.cell? ⟨gb110, 3, none⟩ = some (.bool false) := (blk_cell BK110.out 3).trans rfl; have hcz67_4 : w43.cell? ⟨gb110, 4, none⟩ = some (.bool false) := (blk_cell BK110.out 4).trans rfl; have hfz67_0 := blk_frozen BK110.out 0; have hfz67_1 := blk_frozen BK110.out 1; have hfz67_2 := blk_frozen BK110.out 2; have hfz67_3 := blk_frozen BK110.out 3; have hfz67_4 := blk_frozen BK110.out 4
                     go_wp2_with (first | ((with_reducible refine gate_callee (f := 29) rfl ?_); refine goesL_ (some 68) rfl rfl Try.func29 (by kernel_rfl) rfl #[.string ((rd_T38 ((rd_T53 l0_0 x3_2).f1) x5_4).f0)] rfl (by (try simp only [List.map_toArray, List.map_cons, List.map_nil]); first | done | rfl | (simp only [List.length_drop, List.length_take]; rfl)) ?_; (with_reducible refine (spec_NameOK.calls k4 ((rd_T38 ((rd_T53 l0_0 x3_2).f1) x5_4).f0) true _ A47.out).mono ?_); rintro e w' ⟨rfl, ⟨nd, rfl⟩⟩; refine ⟨_, rfl, ?_⟩; have hnb68 := NB105_101.out; have hnc68 := NB101_105.out; have hcz69_0 : w43.cell? ⟨gb105, 0, none⟩ = some (.string ((rd_T53 l0_0 x3_2).f0)) := (blk_cell BK105.out 0).trans rfl; have hcz69_1 : w43.cell? ⟨gb105, 1, none⟩ = some (.slice (some ad109) ((rd_T53 l0_0 x3_2).f1).length c104_1) := (blk_cell BK105.out 1).trans rfl; have hfz69_0 := blk_frozen BK105.out 0; have hfz69_1 := blk_frozen BK105.out 1) | (go_at_call 30; (with_reducible refine (spec_l03Field.calls k4 ((rd_T53 l0_0 x3_2).f0) _ _ ((rd_T53 l0_0 x3_2).f1) ((rd_T38 ((rd_T53 l0_0 x3_2).f1) x5_4).f0) t112 _ ?side1 ?side2 A53.out).mono ?_); (case side1 => exact Kd.C_below HR104_1.out (by repeat (first | (with_reducible first | exact HB.out | apply qbA | apply qbN | apply qbD | refine qbS ?_ GE101.out | refine qbS ?_ GE105.out | refine qbS ?_ GE110.out) | exact HB.out))); (case side2 => exact HC104_1.out); rintro e w70 ⟨rfl, hb⟩; have n0_ := qO (blk_below (g := gb101) (o := .cells #[.slice (some ad104) l0_0.length c0_0] 29 (0, 0)) (by (with_reducible repeat (first | refine qkN ?_ _ | refine qkD ?_ | refine qkA ?_ _)); refine blk_far ?_ NB101_110.out _; (with_reducible repeat (first | refine qkN ?_ _ | refine qkD ?_ | refine qkA ?_ _)); refine blk_far ?_ NB101_110.out _; (with_reducible repeat (first | refine qkN ?_ _ | refine qkD ?_ | refine qkA ?_ _)); refine blk_far ?_ NB101_110.out _; (with_reducible repeat (first | refine qkN ?_ _ | refine qkD ?_ | refine qkA ?_ _)); refine blk_far ?_ NB101_110.out _; (with_reducible repeat (first | refine qkN ?_ _ | refine qkD ?_ | refine qkA ?_ _)); refine blk_far ?_ NB101_110.out _; (with_reducible repeat (first | refine qkN ?_ _ | refine qkD ?_ | refine qkA ?_ _)); exact BK101.out) hb); have n1_ := qO (blk_below (g := gb105) (o := .cells #[.string ((rd_T53 l0_0 x3_2).f0), .slice (some ad109) ((rd_T53 l0_0 x3_2).f1).length c104_1] 53 (0, 0)) (by (with_reducible repeat (first | refine qkN ?_ _ | refine qkD ?_ | refine qkA ?_ _)); refine blk_far ?_ NB105_110.out _; (with_reducible repeat (first | refine qkN ?_ _ | refine qkD ?_ | refine qkA ?_ _)); refine blk_far ?_ NB105_110.out _; (with_reducible repeat (first | refine qkN ?_ _ | refine qkD ?_ | refine qkA ?_ _)); refine blk_far ?_ NB105_110.out _; (with_reducible repeat (first | refine qkN ?_ _ | refine qkD ?_ | refine qkA ?_ _)); refine blk_far ?_ NB105_110.out _; (with_reducible repeat (first | refine qkN ?_ _ | refine qkD ?_ | refine qkA ?_ _)); refine blk_far ?_ NB105_110.out _; (with_reducible repeat (first | refine qkN ?_ _ | refine qkD ?_ | refine qkA ?_ _)); exact BK105.out) hb); have n2_ := qO (blk_below (g := gb110) (o := .cells #[.string ((rd_T38 ((rd_T53 l0_0 x3_2).f1) x5_4).f0), .slice A109_1 ((rd_T38 ((rd_T53 l0_0 x3_2).f1) x5_4).f1).length c109_1, .string ((rd_T38 ((rd_T53 l0_0 x3_2).f1) x5_4).f2), .bool ((rd_T38 ((rd_T53 l0_0 x3_2).f1) x5_4).f3), .bool ((rd_T38 ((rd_T53 l0_0 x3_2).f1) x5_4).f4)] 38 (0, 0)) (by (with_reducible repeat (first | refine qkN ?_ _ | refine qkD ?_ | refine qkA ?_ _)); refine blk_put (cs := #[.string ((rd_T38 ((rd_T53 l0_0 x3_2).f1) x5_4).f0), .slice A109_1 ((rd_T38 ((rd_T53 l0_0 x3_2).f1) x5_4).f1).length c109_1, .string ((rd_T38 ((rd_T53 l0_0 x3_2).f1) x5_4).f2), .bool ((rd_T38 ((rd_T53 l0_0 x3_2).f1) x5_4).f3), .bool false]) ?_ 4 _ rfl; (with_reducible repeat (first | refine qkN ?_ _ | refine qkD ?_ | refine qkA ?_ _)); refine blk_put (cs := #[.string ((rd_T38 ((rd_T53 l0_0 x3_2).f1) x5_4).f0), .slice A109_1 ((rd_T38 ((rd_T53 l0_0 x3_2).f1) x5_4).f1).length c109_1, .string ((rd_T38 ((rd_T53 l0_0 x3_2).f1) x5_4).f2), .bool false, .bool false]) ?_ 3 _ rfl; (with_reducible repeat (first | refine qkN ?_ _ | refine qkD ?_ | refine qkA ?_ _)); refine blk_put (cs := #[.string ((rd_T38 ((rd_T53 l0_0 x3_2).f1) x5_4).f0), .slice A109_1 ((rd_T38 ((rd_T53 l0_0 x3_2).f1) x5_4).f1).length c109_1, .string (⟨#[]⟩ : ByteArray), .bool false, .bool false]) ?_ 2 _ rfl; (with_reducible repeat (first | refine qkN ?_ _ | refine qkD ?_ | refine qkA ?_ _)); refine blk_put (cs := #[.string ((rd_T38 ((rd_T53 l0_0 x3_2).f1) x5_4).f0), .slice none 0 0, .string (⟨#[]⟩ : ByteArray), .bool false, .bool false]) ?_ 1 _ rfl; (with_reducible repeat (first | refine qkN ?_ _ | refine qkD ?_ | refine qkA ?_ _)); refine blk_put (cs := #[.string (⟨#[]⟩ : ByteArray), .slice none 0 0, .string (⟨#[]⟩ : ByteArray), .bool false, .bool false]) ?_ 0 _ rfl; (with_reducible repeat (first | refine qkN ?_ _ | refine qkD ?_ | refine qkA ?_ _)); exact BK110.out) hb); have n3_ := qO (below_step (by repeat (first | (with_reducible first | exact HB.out | apply qbA | apply qbN | apply qbD | refine qbS ?_ GE101.out | refine qbS ?_ GE105.out | refine qbS ?_ GE110.out) | exact HB.out)) hb); clear BK101; clear BK105; clear BK110; clear HB; have BK101 := n0_; have BK105 := n1_; have BK110 := n2_; have HB := n3_; clear n0_ n1_ n2_ n3_; (try clear hb); (try clear hb2); (try clear hk); (try clear hi); have hcz71_0 : w70.cell? ⟨gb110, 0, none⟩ = some (.string ((rd_T38 ((rd_T53 l0_0 x3_2).f1) x5_4).f0)) := (blk_cell BK110.out 0).trans rfl; have hcz71_1 : w70.cell? ⟨gb110, 1, none⟩ = some (.slice A109_1 ((rd_T38 ((rd_T53 l0_0 x3_2).f1) x5_4).f1).length c109_1) := (blk_cell BK110.out 1).trans rfl; have hcz71_2 : w70.cell? ⟨gb110, 2, none⟩ = some (.string ((rd_T38 ((rd_T53 l0_0 x3_2).f1) x5_4).f2)) := (blk_cell BK110.out 2).trans rfl; have hcz71_3 : w70.cell? ⟨gb110, 3, none⟩ = some (.bool ((rd_T38 ((rd_T53 l0_0 x3_2).f1) x5_4).f3)) := (blk_cell BK110.out 3).trans rfl; have hcz71_4 : w70.cell? ⟨gb110, 4, none⟩ = some (.bool ((rd_T38 ((rd_T53 l0_0 x3_2).f1) x5_4).f4)) := (blk_cell BK110.out 4).trans rfl; have hfz71_0 := blk_frozen BK110.out 0; have hfz71_1 := blk_frozen BK110.out 1; have hfz71_2 := blk_frozen BK110.out 2; have hfz71_3 := blk_frozen BK110.out 3; have hfz71_4 := blk_frozen BK110.out 4; have hcz72_0 : w70.cell? ⟨gb101, 0, none⟩ = some (.slice (some ad104) l0_0.length c0_0) := (blk_cell BK101.out 0).trans rfl; have hfz72_0 := blk_frozen BK101.out 0) | (go_at_call 28; (with_reducible refine (spec_l03Find.calls k4 _ _ l0_0 ((rd_T38 ((rd_T53 l0_0 x3_2).f1) x5_4).f2) t113 _ ?side1 ?side2 A63.out).mono ?_); (case side1 => repeat (first | exact (Kd.C_below HR0_0.out HB.out) | with_reducible first | refine Kd.C_alloc ?_ _ | refine Kd.C_drewN ?_ _ | refine Kd.C_drew ?_)); (case side2 => exact HC0_0.out); rintro e w73 ⟨rfl, hb⟩; have hx_ := qHX HB hb (by with_reducible repeat (first | refine qbN ?_ _ | refine qbD ?_ | refine qbA ?_ _ | exact Below.refl _ _)); have n0_ := qO (qB BK101.out hx_ hb); have n1_ := qO (qB BK105.out hx_ hb); have n2_ := qO (blk_below (g := gb110) (o := .cells #[.string ((rd_T38 ((rd_T53 l0_0 x3_2).f1) x5_4).f0), .slice A109_1 ((rd_T38 ((rd_T53 l0_0 x3_2).f1) x5_4).f1).length c109_1, .string ((rd_T38 ((rd_T53 l0_0 x3_2).f1) x5_4).f2), .bool ((rd_T38 ((rd_T53 l0_0 x3_2).f1) x5_4).f3), .bool ((rd_T38 ((rd_T53 l0_0 x3_2).f1) x5_4).f4)] 38 (0, 0)) (by (with_reducible repeat (first | refine qkN ?_ _ | refine qkD ?_ | refine qkA ?_ _)); exact BK110.out) hb); have n3_ := qO (below_step (below_step HB.out hx_) hb); clear BK101; clear BK105; clear BK110; clear HB; have BK101 := n0_; have BK105 := n1_; have BK110 := n2_; have HB := n3_; clear n0_ n1_ n2_ n3_; clear hx_; (try clear hb); (try clear hb2); (try clear hk); (try clear hi)))
                     go_meet
                     case rel => exact ⟨_, (true), (by first | rfl | (simp; done) | (simp [*]; done)), H', ⟨by have := HJ1.out; have := HK2.out; have := HJ12.out; have := HK4.out; first | omega | exact Nat.le_refl _⟩, ⟨by (with_reducible repeat (first | refine qkN ?_ _ | refine qkD ?_ | refine qkA ?_ _)); exact BK101.out⟩, ⟨by (with_reducible repeat (first | refine qkN ?_ _ | refine qkD ?_ | refine qkA ?_ _)); exact BK105.out⟩, ⟨by (with_reducible repeat (first | refine qkN ?_ _ | refine qkD ?_ | refine qkA ?_ _)); exact BK110.out⟩, ⟨by repeat (first | (with_reducible first | exact HB.out | apply qbA | apply qbN | apply qbD | refine qbS ?_ GE101.out | refine qbS ?_ GE105.out | refine qbS ?_ GE110.out) | exact HB.out)⟩⟩
                    ·rw [if_neg c64] at H
                     have c64b0 : decide (t113 < 0) = false := decide_eq_false c64; clear c64; have H' := qO H; clear H; have hnb74 := NB110_101.out; have hnc74 := NB101_110.out; have hnb75 := NB110_105.out; have hnc75 := NB105_110.out; have hcz76_0 : w43.cell? ⟨gb110, 0, none⟩ = some (.string (⟨#[]⟩ : ByteArray)) := (blk_cell BK110.out 0).trans rfl; have hcz76_1 : w43.cell? ⟨gb110, 1, none⟩ = some (.slice none 0 0) := (blk_cell BK110.out 1).trans rfl; have hcz76_2 : w43.cell? ⟨gb110, 2, none⟩ = some (.string (⟨#[]⟩ : ByteArray)) := (blk_cell BK110.out 2).trans rfl; have hcz76_3 : w43.cell? ⟨gb110, 3, none⟩ = some (.bool false) := (blk_cell BK110.out 3).trans rfl; have hcz76_4 : w43.cell? ⟨gb110, 4, none⟩ = some (.bool false) := (blk_cell BK110.out 4).trans rfl; have hfz76_0 := blk_frozen BK110.out 0; have hfz76_1 := blk_frozen BK110.out 1; have hfz76_2 := blk_frozen BK110.out 2; have hfz76_3 := blk_frozen BK110.out 3; have hfz76_4 := blk_frozen BK110.out 4
                     go_wp2_with (first | ((with_reducible refine gate_callee (f := 29) rfl ?_); refine goesL_ (some 68) rfl rfl Try.func29 (by kernel_rfl) rfl #[.string ((rd_T38 ((rd_T53 l0_0 x3_2).f1) x5_4).f0)] rfl (by (try simp only [List.map_toArray, List.map_cons, List.map_nil]); first | done | rfl | (simp only [List.length_drop, List.length_take]; rfl)) ?_; (with_reducible refine (spec_NameOK.calls k4 ((rd_T38 ((rd_T53 l0_0 x3_2).f1) x5_4).f0) true _ A47.out).mono ?_); rintro e w' ⟨rfl, ⟨nd, rfl⟩⟩; refine ⟨_, rfl, ?_⟩; have hnb77 := NB105_101.out; have hnc77 := NB101_105.out; have hcz78_0 : w43.cell? ⟨gb105, 0, none⟩ = some (.string ((rd_T53 l0_0 x3_2).f0)) := (blk_cell BK105.out 0).trans rfl; have hcz78_1 : w43.cell? ⟨gb105, 1, none⟩ = some (.slice (some ad109) ((rd_T53 l0_0 x3_2).f1).length c104_1) := (blk_cell BK105.out 1).trans rfl; have hfz78_0 := blk_frozen BK105.out 0; have hfz78_1 := blk_frozen BK105.out 1) | (go_at_call 30; (with_reducible refine (spec_l03Field.calls k4 ((rd_T53 l0_0 x3_2).f0) _ _ ((rd_T53 l0_0 x3_2).f1) ((rd_T38 ((rd_T53 l0_0 x3_2).f1) x5_4).f0) t112 _ ?side1 ?side2 A53.out).mono ?_); (case side1 => exact Kd.C_below HR104_1.out (by repeat (first | (with_reducible first | exact HB.out | apply qbA | apply qbN | apply qbD | refine qbS ?_ GE101.out | refine qbS ?_ GE105.out | refine qbS ?_ GE110.out) | exact HB.out))); (case side2 => exact HC104_1.out); rintro e w79 ⟨rfl, hb⟩; have n0_ := qO (blk_below (g := gb101) (o := .cells #[.slice (some ad104) l0_0.length c0_0] 29 (0, 0)) (by (with_reducible repeat (first | refine qkN ?_ _ | refine qkD ?_ | refine qkA ?_ _)); refine blk_far ?_ NB101_110.out _; (with_reducible repeat (first | refine qkN ?_ _ | refine qkD ?_ | refine qkA ?_ _)); refine blk_far ?_ NB101_110.out _; (with_reducible repeat (first | refine qkN ?_ _ | refine qkD ?_ | refine qkA ?_ _)); refine blk_far ?_ NB101_110.out _; (with_reducible repeat (first | refine qkN ?_ _ | refine qkD ?_ | refine qkA ?_ _)); refine blk_far ?_ NB101_110.out _; (with_reducible repeat (first | refine qkN ?_ _ | refine qkD ?_ | refine qkA ?_ _)); refine blk_far ?_ NB101_110.out _; (with_reducible repeat (first | refine qkN ?_ _ | refine qkD ?_ | refine qkA ?_ _)); exact BK101.out) hb); have n1_ := qO (blk_below (g := gb105) (o := .cells #[.string ((rd_T53 l0_0 x3_2).f0), .slice (some ad109) ((rd_T53 l0_0 x3_2).f1).length c104_1] 53 (0, 0)) (by (with_reducible repeat (first | refine qkN ?_ _ | refine qkD ?_ | refine qkA ?_ _)); refine blk_far ?_ NB105_110.out _; (with_reducible repeat (first | refine qkN ?_ _ | refine qkD ?_ | refine qkA ?_ _)); refine blk_far ?_ NB105_110.out _; (with_reducible repeat (first | refine qkN ?_ _ | refine qkD ?_ | refine qkA ?_ _)); refine blk_far ?_ NB105_110.out _; (with_reducible repeat (first | refine qkN ?_ _ | refine qkD ?_ | refine qkA ?_ _)); refine blk_far ?_ NB105_110.out _; (with_reducible repeat (first | refine qkN ?_ _ | refine qkD ?_ | refine qkA ?_ _)); refine blk_far ?_ NB105_110.out _; (with_reducible repeat (first | refine qkN ?_ _ | refine qkD ?_ | refine qkA ?_ _)); exact BK105.out) hb); have n2_ := qO (blk_below (g := gb110) (o := .cells #[.string ((rd_T38 ((rd_T53 l0_0 x3_2).f1) x5_4).f0), .slice A109_1 ((rd_T38 ((rd_T53 l0_0 x3_2).f1) x5_4).f1).length c109_1, .string ((rd_T38 ((rd_T53 l0_0 x3_2).f1) x5_4).f2), .bool ((rd_T38 ((rd_T53 l0_0 x3_2).f1) x5_4).f3), .bool ((rd_T38 ((rd_T53 l0_0 x3_2).f1) x5_4).f4)] 38 (0, 0)) (by (with_reducible repeat (first | refine qkN ?_ _ | refine qkD ?_ | refine qkA ?_ _)); refine blk_put (cs := #[.string ((rd_T38 ((rd_T53 l0_0 x3_2).f1) x5_4).f0), .slice A109_1 ((rd_T38 ((rd_T53 l0_0 x3_2).f1) x5_4).f1).length c109_1, .string ((rd_T38 ((rd_T53 l0_0 x3_2).f1) x5_4).f2), .bool ((rd_T38 ((rd_T53 l0_0 x3_2).f1) x5_4).f3), .bool false]) ?_ 4 _ rfl; (with_reducible repeat (first | refine qkN ?_ _ | refine qkD ?_ | refine qkA ?_ _)); refine blk_put (cs := #[.string ((rd_T38 ((rd_T53 l0_0 x3_2).f1) x5_4).f0), .slice A109_1 ((rd_T38 ((rd_T53 l0_0 x3_2).f1) x5_4).f1).length c109_1, .string ((rd_T38 ((rd_T53 l0_0 x3_2).f1) x5_4).f2), .bool false, .bool false]) ?_ 3 _ rfl; (with_reducible repeat (first | refine qkN ?_ _ | refine qkD ?_ | refine qkA ?_ _)); refine blk_put (cs := #[.string ((rd_T38 ((rd_T53 l0_0 x3_2).f1) x5_4).f0), .slice A109_1 ((rd_T38 ((rd_T53 l0_0 x3_2).f1) x5_4).f1).length c109_1, .string (⟨#[]⟩ : ByteArray), .bool false, .bool false]) ?_ 2 _ rfl; (with_reducible repeat (first | refine qkN ?_ _ | refine qkD ?_ | refine qkA ?_ _)); refine blk_put (cs := #[.string ((rd_T38 ((rd_T53 l0_0 x3_2).f1) x5_4).f0), .slice none 0 0, .string (⟨#[]⟩ : ByteArray), .bool false, .bool false]) ?_ 1 _ rfl; (with_reducible repeat (first | refine qkN ?_ _ | refine qkD ?_ | refine qkA ?_ _)); refine blk_put (cs := #[.string (⟨#[]⟩ : ByteArray), .slice none 0 0, .string (⟨#[]⟩ : ByteArray), .bool false, .bool false]) ?_ 0 _ rfl; (with_reducible repeat (first | refine qkN ?_ _ | refine qkD ?_ | refine qkA ?_ _)); exact BK110.out) hb); have n3_ := qO (below_step (by repeat (first | (with_reducible first | exact HB.out | apply qbA | apply qbN | apply qbD | refine qbS ?_ GE101.out | refine qbS ?_ GE105.out | refine qbS ?_ GE110.out) | exact HB.out)) hb); clear BK101; clear BK105; clear BK110; clear HB; have BK101 := n0_; have BK105 := n1_; have BK110 := n2_; have HB := n3_; clear n0_ n1_ n2_ n3_; (try clear hb); (try clear hb2); (try clear hk); (try clear hi); have hcz80_0 : w79.cell? ⟨gb110, 0, none⟩ = some (.string ((rd_T38 ((rd_T53 l0_0 x3_2).f1) x5_4).f0)) := (blk_cell BK110.out 0).trans rfl; have hcz80_1 : w79.cell? ⟨gb110, 1, none⟩ = some (.slice A109_1 ((rd_T38 ((rd_T53 l0_0 x3_2).f1) x5_4).f1).length c109_1) := (blk_cell BK110.out 1).trans rfl; have hcz80_2 : w79.cell? ⟨gb110, 2, none⟩ = some (.string ((rd_T38 ((rd_T53 l0_0 x3_2).f1) x5_4).f2)) := (blk_cell BK110.out 2).trans rfl; have hcz80_3 : w79.cell? ⟨gb110, 3, none⟩ = some (.bool ((rd_T38 ((rd_T53 l0_0 x3_2).f1) x5_4).f3)) := (blk_cell BK110.out 3).trans rfl; have hcz80_4 : w79.cell? ⟨gb110, 4, none⟩ = some (.bool ((rd_T38 ((rd_T53 l0_0 x3_2).f1) x5_4).f4)) := (blk_cell BK110.out 4).trans rfl; have hfz80_0 := blk_frozen BK110.out 0; have hfz80_1 := blk_frozen BK110.out 1; have hfz80_2 := blk_frozen BK110.out 2; have hfz80_3 := blk_frozen BK110.out 3; have hfz80_4 := blk_frozen BK110.out 4; have hcz81_0 : w79.cell? ⟨gb101, 0, none⟩ = some (.slice (some ad104) l0_0.length c0_0) := (blk_cell BK101.out 0).trans rfl; have hfz81_0 := blk_frozen BK101.out 0) | (go_at_call 28; (with_reducible refine (spec_l03Find.calls k4 _ _ l0_0 ((rd_T38 ((rd_T53 l0_0 x3_2).f1) x5_4).f2) t113 _ ?side1 ?side2 A63.out).mono ?_); (case side1 => repeat (first | exact (Kd.C_below HR0_0.out HB.out) | with_reducible first | refine Kd.C_alloc ?_ _ | refine Kd.C_drewN ?_ _ | refine Kd.C_drew ?_)); (case side2 => exact HC0_0.out); rintro e w82 ⟨rfl, hb⟩; have hx_ := qHX HB hb (by with_reducible repeat (first | refine qbN ?_ _ | refine qbD ?_ | refine qbA ?_ _ | exact Below.refl _ _)); have n0_ := qO (qB BK101.out hx_ hb); have n1_ := qO (qB BK105.out hx_ hb); have n2_ := qO (blk_below (g := gb110) (o := .cells #[.string ((rd_T38 ((rd_T53 l0_0 x3_2).f1) x5_4).f0), .slice A109_1 ((rd_T38 ((rd_T53 l0_0 x3_2).f1) x5_4).f1).length c109_1, .string ((rd_T38 ((rd_T53 l0_0 x3_2).f1) x5_4).f2), .bool ((rd_T38 ((rd_T53 l0_0 x3_2).f1) x5_4).f3), .bool ((rd_T38 ((rd_T53 l0_0 x3_2).f1) x5_4).f4)] 38 (0, 0)) (by (with_reducible repeat (first | refine qkN ?_ _ | refine qkD ?_ | refine qkA ?_ _)); exact BK110.out) hb); have n3_ := qO (below_step (below_step HB.out hx_) hb); clear BK101; clear BK105; clear BK110; clear HB; have BK101 := n0_; have BK105 := n1_; have BK110 := n2_; have HB := n3_; clear n0_ n1_ n2_ n3_; clear hx_; (try clear hb); (try clear hb2); (try clear hk); (try clear hi); have hcz83_0 : w82.cell? ⟨gb110, 0, none⟩ = some (.string ((rd_T38 ((rd_T53 l0_0 x3_2).f1) x5_4).f0)) := (blk_cell BK110.out 0).trans rfl; have hcz83_1 : w82.cell? ⟨gb110, 1, none⟩ = some (.slice A109_1 ((rd_T38 ((rd_T53 l0_0 x3_2).f1) x5_4).f1).length c109_1) := (blk_cell BK110.out 1).trans rfl; have hcz83_2 : w82.cell? ⟨gb110, 2, none⟩ = some (.string ((rd_T38 ((rd_T53 l0_0 x3_2).f1) x5_4).f2)) := (blk_cell BK110.out 2).trans rfl; have hcz83_3 : w82.cell? ⟨gb110, 3, none⟩ = some (.bool ((rd_T38 ((rd_T53 l0_0 x3_2).f1) x5_4).f3)) := (blk_cell BK110.out 3).trans rfl; have hcz83_4 : w82.cell? ⟨gb110, 4, none⟩ = some (.bool ((rd_T38 ((rd_T53 l0_0 x3_2).f1) x5_4).f4)) := (blk_cell BK110.out 4).trans rfl; have hfz83_0 := blk_frozen BK110.out 0; have hfz83_1 := blk_frozen BK110.out 1; have hfz83_2 := blk_frozen BK110.out 2; have hfz83_3 := blk_frozen BK110.out 3; have hfz83_4 := blk_frozen BK110.out 4))
                     go_meet
                     case rel => exact ⟨_, (decide ((((rd_T38 ((rd_T53 l0_0 x3_2).f1) x5_4).f1).length : Int) > 4)), (by first | rfl | (simp; done) | (simp [*]; done)), H', ⟨by have := HJ1.out; have := HK2.out; have := HJ12.out; have := HK4.out; first | omega | exact Nat.le_refl _⟩, ⟨by (with_reducible repeat (first | refine qkN ?_ _ | refine qkD ?_ | refine qkA ?_ _)); exact BK101.out⟩, ⟨by (with_reducible repeat (first | refine qkN ?_ _ | refine qkD ?_ | refine qkA ?_ _)); exact BK105.out⟩, ⟨by (with_reducible repeat (first | refine qkN ?_ _ | refine qkD ?_ | refine qkA ?_ _)); exact BK110.out⟩, ⟨by repeat (first | (with_reducible first | exact HB.out | apply qbA | apply qbN | apply qbD | refine qbS ?_ GE101.out | refine qbS ?_ GE105.out | refine qbS ?_ GE110.out) | exact HB.out)⟩⟩
                  ·rw [if_neg c54] at H
                   have c54b0 : (t112 == x5_4) = false := beq_eq_false_iff_ne.mpr c54; have c54b1 : (t112 != x5_4) = true := bne_iff_ne.mpr c54; have H' := qO H; clear H; have hnb84 := NB110_101.out; have hnc84 := NB101_110.out; have hnb85 := NB110_105.out; have hnc85 := NB105_110.out; have hcz86_0 : w43.cell? ⟨gb110, 0, none⟩ = some (.string (⟨#[]⟩ : ByteArray)) := (blk_cell BK110.out 0).trans rfl; have hcz86_1 : w43.cell? ⟨gb110, 1, none⟩ = some (.slice none 0 0) := (blk_cell BK110.out 1).trans rfl; have hcz86_2 : w43.cell? ⟨gb110, 2, none⟩ = some (.string (⟨#[]⟩ : ByteArray)) := (blk_cell BK110.out 2).trans rfl; have hcz86_3 : w43.cell? ⟨gb110, 3, none⟩ = some (.bool false) := (blk_cell BK110.out 3).trans rfl; have hcz86_4 : w43.cell? ⟨gb110, 4, none⟩ = some (.bool false) := (blk_cell BK110.out 4).trans rfl; have hfz86_0 := blk_frozen BK110.out 0; have hfz86_1 := blk_frozen BK110.out 1; have hfz86_2 := blk_frozen BK110.out 2; have hfz86_3 := blk_frozen BK110.out 3; have hfz86_4 := blk_frozen BK110.out 4
                   go_wp2_with (first | ((with_reducible refine gate_callee (f := 29) rfl ?_); refine goesL_ (some 68) rfl rfl Try.func29 (by kernel_rfl) rfl #[.string ((rd_T38 ((rd_T53 l0_0 x3_2).f1) x5_4).f0)] rfl (by (try simp only [List.map_toArray, List.map_cons, List.map_nil]); first | done | rfl | (simp only [List.length_drop, List.length_take]; rfl)) ?_; (with_reducible refine (spec_NameOK.calls k4 ((rd_T38 ((rd_T53 l0_0 x3_2).f1) x5_4).f0) true _ A47.out).mono ?_); rintro e w' ⟨rfl, ⟨nd, rfl⟩⟩; refine ⟨_, rfl, ?_⟩; have hnb87 := NB105_101.out; have hnc87 := NB101_105.out; have hcz88_0 : w43.cell? ⟨gb105, 0, none⟩ = some (.string ((rd_T53 l0_0 x3_2).f0)) := (blk_cell BK105.out 0).trans rfl; have hcz88_1 : w43.cell? ⟨gb105, 1, none⟩ = some (.slice (some ad109) ((rd_T53 l0_0 x3_2).f1).length c104_1) := (blk_cell BK105.out 1).trans rfl; have hfz88_0 := blk_frozen BK105.out 0; have hfz88_1 := blk_frozen BK105.out 1) | (go_at_call 30; (with_reducible refine (spec_l03Field.calls k4 ((rd_T53 l0_0 x3_2).f0) _ _ ((rd_T53 l0_0 x3_2).f1) ((rd_T38 ((rd_T53 l0_0 x3_2).f1) x5_4).f0) t112 _ ?side1 ?side2 A53.out).mono ?_); (case side1 => exact Kd.C_below HR104_1.out (by repeat (first | (with_reducible first | exact HB.out | apply qbA | apply qbN | apply qbD | refine qbS ?_ GE101.out | refine qbS ?_ GE105.out | refine qbS ?_ GE110.out) | exact HB.out))); (case side2 => exact HC104_1.out); rintro e w89 ⟨rfl, hb⟩; have n0_ := qO (blk_below (g := gb101) (o := .cells #[.slice (some ad104) l0_0.length c0_0] 29 (0, 0)) (by (with_reducible repeat (first | refine qkN ?_ _ | refine qkD ?_ | refine qkA ?_ _)); refine blk_far ?_ NB101_110.out _; (with_reducible repeat (first | refine qkN ?_ _ | refine qkD ?_ | refine qkA ?_ _)); refine blk_far ?_ NB101_110.out _; (with_reducible repeat (first | refine qkN ?_ _ | refine qkD ?_ | refine qkA ?_ _)); refine blk_far ?_ NB101_110.out _; (with_reducible repeat (first | refine qkN ?_ _ | refine qkD ?_ | refine qkA ?_ _)); refine blk_far ?_ NB101_110.out _; (with_reducible repeat (first | refine qkN ?_ _ | refine qkD ?_ | refine qkA ?_ _)); refine blk_far ?_ NB101_110.out _; (with_reducible repeat (first | refine qkN ?_ _ | refine qkD ?_ | refine qkA ?_ _)); exact BK101.out) hb); have n1_ := qO (blk_below (g := gb105) (o := .cells #[.string ((rd_T53 l0_0 x3_2).f0), .slice (some ad109) ((rd_T53 l0_0 x3_2).f1).length c104_1] 53 (0, 0)) (by (with_reducible repeat (first | refine qkN ?_ _ | refine qkD ?_ | refine qkA ?_ _)); refine blk_far ?_ NB105_110.out _; (with_reducible repeat (first | refine qkN ?_ _ | refine qkD ?_ | refine qkA ?_ _)); refine blk_far ?_ NB105_110.out _; (with_reducible repeat (first | refine qkN ?_ _ | refine qkD ?_ | refine qkA ?_ _)); refine blk_far ?_ NB105_110.out _; (with_reducible repeat (first | refine qkN ?_ _ | refine qkD ?_ | refine qkA ?_ _)); refine blk_far ?_ NB105_110.out _; (with_reducible repeat (first | refine qkN ?_ _ | refine qkD ?_ | refine qkA ?_ _)); refine blk_far ?_ NB105_110.out _; (with_reducible repeat (first | refine qkN ?_ _ | refine qkD ?_ | refine qkA ?_ _)); exact BK105.out) hb); have n2_ := qO (blk_below (g := gb110) (o := .cells #[.string ((rd_T38 ((rd_T53 l0_0 x3_2).f1) x5_4).f0), .slice A109_1 ((rd_T38 ((rd_T53 l0_0 x3_2).f1) x5_4).f1).length c109_1, .string ((rd_T38 ((rd_T53 l0_0 x3_2).f1) x5_4).f2), .bool ((rd_T38 ((rd_T53 l0_0 x3_2).f1) x5_4).f3), .bool ((rd_T38 ((rd_T53 l0_0 x3_2).f1) x5_4).f4)] 38 (0, 0)) (by (with_reducible repeat (first | refine qkN ?_ _ | refine qkD ?_ | refine qkA ?_ _)); refine blk_put (cs := #[.string ((rd_T38 ((rd_T53 l0_0 x3_2).f1) x5_4).f0), .slice A109_1 ((rd_T38 ((rd_T53 l0_0 x3_2).f1) x5_4).f1).length c109_1, .string ((rd_T38 ((rd_T53 l0_0 x3_2).f1) x5_4).f2), .bool ((rd_T38 ((rd_T53 l0_0 x3_2).f1) x5_4).f3), .bool false]) ?_ 4 _ rfl; (with_reducible repeat (first | refine qkN ?_ _ | refine qkD ?_ | refine qkA ?_ _)); refine blk_put (cs := #[.string ((rd_T38 ((rd_T53 l0_0 x3_2).f1) x5_4).f0), .slice A109_1 ((rd_T38 ((rd_T53 l0_0 x3_2).f1) x5_4).f1).length c109_1, .string ((rd_T38 ((rd_T53 l0_0 x3_2).f1) x5_4).f2), .bool false, .bool false]) ?_ 3 _ rfl; (with_reducible repeat (first | refine qkN ?_ _ | refine qkD ?_ | refine qkA ?_ _)); refine blk_put (cs := #[.string ((rd_T38 ((rd_T53 l0_0 x3_2).f1) x5_4).f0), .slice A109_1 ((rd_T38 ((rd_T53 l0_0 x3_2).f1) x5_4).f1).length c109_1, .string (⟨#[]⟩ : ByteArray), .bool false, .bool false]) ?_ 2 _ rfl; (with_reducible repeat (first | refine qkN ?_ _ | refine qkD ?_ | refine qkA ?_ _)); refine blk_put (cs := #[.string ((rd_T38 ((rd_T53 l0_0 x3_2).f1) x5_4).f0), .slice none 0 0, .string (⟨#[]⟩ : ByteArray), .bool false, .bool false]) ?_ 1 _ rfl; (with_reducible repeat (first | refine qkN ?_ _ | refine qkD ?_ | refine qkA ?_ _)); refine blk_put (cs := #[.string (⟨#[]⟩ : ByteArray), .slice none 0 0, .string (⟨#[]⟩ : ByteArray), .bool false, .bool false]) ?_ 0 _ rfl; (with_reducible repeat (first | refine qkN ?_ _ | refine qkD ?_ | refine qkA ?_ _)); exact BK110.out) hb); have n3_ := qO (below_step (by repeat (first | (with_reducible first | exact HB.out | apply qbA | apply qbN | apply qbD | refine qbS ?_ GE101.out | refine qbS ?_ GE105.out | refine qbS ?_ GE110.out) | exact HB.out)) hb); clear BK101; clear BK105; clear BK110; clear HB; have BK101 := n0_; have BK105 := n1_; have BK110 := n2_; have HB := n3_; clear n0_ n1_ n2_ n3_; (try clear hb); (try clear hb2); (try clear hk); (try clear hi)))
                   go_meet
                   case rel => exact ⟨_, (true), (by first | rfl | (simp; done) | (simp [*]; done)), H', ⟨by have := HJ1.out; have := HK2.out; have := HJ12.out; have := HK4.out; first | omega | exact Nat.le_refl _⟩, ⟨by (with_reducible repeat (first | refine qkN ?_ _ | refine qkD ?_ | refine qkA ?_ _)); exact BK101.out⟩, ⟨by (with_reducible repeat (first | refine qkN ?_ _ | refine qkD ?_ | refine qkA ?_ _)); exact BK105.out⟩, ⟨by (with_reducible repeat (first | refine qkN ?_ _ | refine qkD ?_ | refine qkA ?_ _)); exact BK110.out⟩, ⟨by repeat (first | (with_reducible first | exact HB.out | apply qbA | apply qbN | apply qbD | refine qbS ?_ GE101.out | refine qbS ?_ GE105.out | refine qbS ?_ GE110.out) | exact HB.out)⟩⟩
                ·replace c48 := Bool.eq_false_iff.mpr c48
                 subst c48; have H1 : (spec_SchemaOK.j4 k4 x3_2 x5_4 true l0_0 ((rd_T53 l0_0 x3_2).f0) ((rd_T53 l0_0 x3_2).f1) ((rd_T38 ((rd_T53 l0_0 x3_2).f1) x5_4).f0) ((rd_T38 ((rd_T53 l0_0 x3_2).f1) x5_4).f1) ((rd_T38 ((rd_T53 l0_0 x3_2).f1) x5_4).f2) ((rd_T38 ((rd_T53 l0_0 x3_2).f1) x5_4).f3) ((rd_T38 ((rd_T53 l0_0 x3_2).f1) x5_4).f4)) = some r := by rw [if_neg (show ¬ (false = true) by decide)] at H; exact H
                 clear H; have H := H1; clear H1; have H' := qO H; clear H; have hnb90 := NB110_101.out; have hnc90 := NB101_110.out; have hnb91 := NB110_105.out; have hnc91 := NB105_110.out; have hcz92_0 : w43.cell? ⟨gb110, 0, none⟩ = some (.string (⟨#[]⟩ : ByteArray)) := (blk_cell BK110.out 0).trans rfl; have hcz92_1 : w43.cell? ⟨gb110, 1, none⟩ = some (.slice none 0 0) := (blk_cell BK110.out 1).trans rfl; have hcz92_2 : w43.cell? ⟨gb110, 2, none⟩ = some (.string (⟨#[]⟩ : ByteArray)) := (blk_cell BK110.out 2).trans rfl; have hcz92_3 : w43.cell? ⟨gb110, 3, none⟩ = some (.bool false) := (blk_cell BK110.out 3).trans rfl; have hcz92_4 : w43.cell? ⟨gb110, 4, none⟩ = some (.bool false) := (blk_cell BK110.out 4).trans rfl; have hfz92_0 := blk_frozen BK110.out 0; have hfz92_1 := blk_frozen BK110.out 1; have hfz92_2 := blk_frozen BK110.out 2; have hfz92_3 := blk_frozen BK110.out 3; have hfz92_4 := blk_frozen BK110.out 4
                 go_wp2_with (first | ((with_reducible refine gate_callee (f := 29) rfl ?_); refine goesL_ (some 68) rfl rfl Try.func29 (by kernel_rfl) rfl #[.string ((rd_T38 ((rd_T53 l0_0 x3_2).f1) x5_4).f0)] rfl (by (try simp only [List.map_toArray, List.map_cons, List.map_nil]); first | done | rfl | (simp only [List.length_drop, List.length_take]; rfl)) ?_; (with_reducible refine (spec_NameOK.calls k4 ((rd_T38 ((rd_T53 l0_0 x3_2).f1) x5_4).f0) false _ A47.out).mono ?_); rintro e w' ⟨rfl, ⟨nd, rfl⟩⟩; refine ⟨_, rfl, ?_⟩))
                 go_meet
                 case rel => exact ⟨_, (true), (by first | rfl | (simp; done) | (simp [*]; done)), H', ⟨by have := HJ1.out; have := HK2.out; have := HJ12.out; have := HK4.out; first | omega | exact Nat.le_refl _⟩, ⟨by (with_reducible repeat (first | refine qkN ?_ _ | refine qkD ?_ | refine qkA ?_ _)); refine blk_far ?_ NB101_110.out _; (with_reducible repeat (first | refine qkN ?_ _ | refine qkD ?_ | refine qkA ?_ _)); refine blk_far ?_ NB101_110.out _; (with_reducible repeat (first | refine qkN ?_ _ | refine qkD ?_ | refine qkA ?_ _)); refine blk_far ?_ NB101_110.out _; (with_reducible repeat (first | refine qkN ?_ _ | refine qkD ?_ | refine qkA ?_ _)); refine blk_far ?_ NB101_110.out _; (with_reducible repeat (first | refine qkN ?_ _ | refine qkD ?_ | refine qkA ?_ _)); refine blk_far ?_ NB101_110.out _; (with_reducible repeat (first | refine qkN ?_ _ | refine qkD ?_ | refine qkA ?_ _)); exact BK101.out⟩, ⟨by (with_reducible repeat (first | refine qkN ?_ _ | refine qkD ?_ | refine qkA ?_ _)); refine blk_far ?_ NB105_110.out _; (with_reducible repeat (first | refine qkN ?_ _ | refine qkD ?_ | refine qkA ?_ _)); refine blk_far ?_ NB105_110.out _; (with_reducible repeat (first | refine qkN ?_ _ | refine qkD ?_ | refine qkA ?_ _)); refine blk_far ?_ NB105_110.out _; (with_reducible repeat (first | refine qkN ?_ _ | refine qkD ?_ | refine qkA ?_ _)); refine blk_far ?_ NB105_110.out _; (with_reducible repeat (first | refine qkN ?_ _ | refine qkD ?_ | refine qkA ?_ _)); refine blk_far ?_ NB105_110.out _; (with_reducible repeat (first | refine qkN ?_ _ | refine qkD ?_ | refine qkA ?_ _)); exact BK105.out⟩, ⟨by (with_reducible repeat (first | refine qkN ?_ _ | refine qkD ?_ | refine qkA ?_ _)); refine blk_put (cs := #[.string ((rd_T38 ((rd_T53 l0_0 x3_2).f1) x5_4).f0), .slice A109_1 ((rd_T38 ((rd_T53 l0_0 x3_2).f1) x5_4).f1).length c109_1, .string ((rd_T38 ((rd_T53 l0_0 x3_2).f1) x5_4).f2), .bool ((rd_T38 ((rd_T53 l0_0 x3_2).f1) x5_4).f3), .bool false]) ?_ 4 _ rfl; (with_reducible repeat (first | refine qkN ?_ _ | refine qkD ?_ | refine qkA ?_ _)); refine blk_put (cs := #[.string ((rd_T38 ((rd_T53 l0_0 x3_2).f1) x5_4).f0), .slice A109_1 ((rd_T38 ((rd_T53 l0_0 x3_2).f1) x5_4).f1).length c109_1, .string ((rd_T38 ((rd_T53 l0_0 x3_2).f1) x5_4).f2), .bool false, .bool false]) ?_ 3 _ rfl; (with_reducible repeat (first | refine qkN ?_ _ | refine qkD ?_ | refine qkA ?_ _)); refine blk_put (cs := #[.string ((rd_T38 ((rd_T53 l0_0 x3_2).f1) x5_4).f0), .slice A109_1 ((rd_T38 ((rd_T53 l0_0 x3_2).f1) x5_4).f1).length c109_1, .string (⟨#[]⟩ : ByteArray), .bool false, .bool false]) ?_ 2 _ rfl; (with_reducible repeat (first | refine qkN ?_ _ | refine qkD ?_ | refine qkA ?_ _)); refine blk_put (cs := #[.string ((rd_T38 ((rd_T53 l0_0 x3_2).f1) x5_4).f0), .slice none 0 0, .string (⟨#[]⟩ : ByteArray), .bool false, .bool false]) ?_ 1 _ rfl; (with_reducible repeat (first | refine qkN ?_ _ | refine qkD ?_ | refine qkA ?_ _)); refine blk_put (cs := #[.string (⟨#[]⟩ : ByteArray), .slice none 0 0, .string (⟨#[]⟩ : ByteArray), .bool false, .bool false]) ?_ 0 _ rfl; (with_reducible repeat (first | refine qkN ?_ _ | refine qkD ?_ | refine qkA ?_ _)); exact BK110.out⟩, ⟨by repeat (first | (with_reducible first | exact HB.out | apply qbA | apply qbN | apply qbD | refine qbS ?_ GE101.out | refine qbS ?_ GE105.out | refine qbS ?_ GE110.out) | exact HB.out)⟩⟩
               case rest =>
                clear HC40
                try clear c1
                try clear p1
                try clear q1
                try clear hx1
                try clear c2
                try clear p2
                try clear c3
                try clear c4
                try clear c5
                try clear c6
                try clear c7
                try clear c8
                try clear c9
                try clear c10
                try clear p10
                try clear q10
                try clear hx10
                try clear c11
                try clear c11b0
                try clear c12
                try clear c12b0
                try clear c16
                try clear c19
                try clear c20
                try clear c20b0
                try clear c20b1
                try clear c21
                try clear c24
                try clear c24b0
                try clear c24b1
                try clear c26
                try clear c27
                try clear c29
                try clear c31
                try clear c35
                try clear c37
                try clear c38
                try clear c38b0
                try clear c39
                try clear c39b0
                try clear c41
                try clear c44
                try clear c45
                try clear c48
                try clear c49
                try clear c49b0
                try clear c49b1
                try clear c50
                try clear c51
                try clear c54
                try clear c54b0
                try clear c54b1
                try clear c55
                try clear c55b0
                try clear c55b1
                try clear c56
                try clear c57
                try clear c59
                try clear c64
                try clear c64b0
                try clear c65
                try clear c66
                try clear c68
                try clear c74
                try clear c75
                try clear c77
                try clear c84
                try clear c85
                try clear c87
                try clear c90
                try clear c91
                try clear hcz14_0
                try clear hcz17_0
                try clear hcz17_1
                try clear hcz22_0
                try clear hcz22_1
                try clear hcz27_0
                try clear hcz27_1
                try clear hcz28_0
                try clear hcz30_0
                try clear hcz30_1
                try clear hcz32_0
                try clear hcz32_1
                try clear hcz33_0
                try clear hcz36_0
                try clear hcz36_1
                try clear hcz42_0
                try clear hcz42_1
                try clear hcz46_0
                try clear hcz46_1
                try clear hcz46_2
                try clear hcz46_3
                try clear hcz46_4
                try clear hcz52_0
                try clear hcz52_1
                try clear hcz52_2
                try clear hcz52_3
                try clear hcz52_4
                try clear hcz58_0
                try clear hcz58_1
                try clear hcz58_2
                try clear hcz58_3
                try clear hcz58_4
                try clear hcz60_0
                try clear hcz60_1
                try clear hcz62_0
                try clear hcz62_1
                try clear hcz62_2
                try clear hcz62_3
                try clear hcz62_4
                try clear hcz67_0
                try clear hcz67_1
                try clear hcz67_2
                try clear hcz67_3
                try clear hcz67_4
                try clear hcz69_0
                try clear hcz69_1
                try clear hcz71_0
                try clear hcz71_1
                try clear hcz71_2
                try clear hcz71_3
                try clear hcz71_4
                try clear hcz72_0
                try clear hcz76_0
                try clear hcz76_1
                try clear hcz76_2
                try clear hcz76_3
                try clear hcz76_4
                try clear hcz78_0
                try clear hcz78_1
                try clear hcz7_0
                try clear hcz80_0
                try clear hcz80_1
                try clear hcz80_2
                try clear hcz80_3
                try clear hcz80_4
                try clear hcz81_0
                try clear hcz83_0
                try clear hcz83_1
                try clear hcz83_2
                try clear hcz83_3
                try clear hcz83_4
                try clear hcz86_0
                try clear hcz86_1
                try clear hcz86_2
                try clear hcz86_3
                try clear hcz86_4
                try clear hcz88_0
                try clear hcz88_1
                try clear hcz92_0
                try clear hcz92_1
                try clear hcz92_2
                try clear hcz92_3
                try clear hcz92_4
                try clear hcz9_0
                try clear hfz14_0
                try clear hfz17_0
                try clear hfz17_1
                try clear hfz22_0
                try clear hfz22_1
                try clear hfz27_0
                try clear hfz27_1
                try clear hfz28_0
                try clear hfz30_0
                try clear hfz30_1
                try clear hfz32_0
                try clear hfz32_1
                try clear hfz33_0
                try clear hfz36_0
                try clear hfz36_1
                try clear hfz42_0
                try clear hfz42_1
                try clear hfz46_0
                try clear hfz46_1
                try clear hfz46_2
                try clear hfz46_3
                try clear hfz46_4
                try clear hfz52_0
                try clear hfz52_1
                try clear hfz52_2
                try clear hfz52_3
                try clear hfz52_4
                try clear hfz58_0
                try clear hfz58_1
                try clear hfz58_2
                try clear hfz58_3
                try clear hfz58_4
                try clear hfz60_0
                try clear hfz60_1
                try clear hfz62_0
                try clear hfz62_1
                try clear hfz62_2
                try clear hfz62_3
                try clear hfz62_4
                try clear hfz67_0
                try clear hfz67_1
                try clear hfz67_2
                try clear hfz67_3
                try clear hfz67_4
                try clear hfz69_0
                try clear hfz69_1
                try clear hfz71_0
                try clear hfz71_1
                try clear hfz71_2
                try clear hfz71_3
                try clear hfz71_4
                try clear hfz72_0
                try clear hfz76_0
                try clear hfz76_1
                try clear hfz76_2
                try clear hfz76_3
                try clear hfz76_4
                try clear hfz78_0
                try clear hfz78_1
                try clear hfz7_0
                try clear hfz80_0
                try clear hfz80_1
                try clear hfz80_2
                try clear hfz80_3
                try clear hfz80_4
                try clear hfz81_0
                try clear hfz83_0
                try clear hfz83_1
                try clear hfz83_2
                try clear hfz83_3
                try clear hfz83_4
                try clear hfz86_0
                try clear hfz86_1
                try clear hfz86_2
                try clear hfz86_3
                try clear hfz86_4
                try clear hfz88_0
                try clear hfz88_1
                try clear hfz92_0
                try clear hfz92_1
                try clear hfz92_2
                try clear hfz92_3
                try clear hfz92_4
                try clear hfz9_0
                try clear hx104_0
                try clear hx104_1
                try clear hx109_0
                try clear hx109_1
                try clear hx109_2
                try clear hx109_3
                try clear hx109_4
                try clear p1
                try clear p10
                try clear p104
                try clear p109
                try clear p2
                try clear q1
                try clear q10
                try clear q104
                try clear q109
                obtain ⟨kq, x100_39, rfl, HA, HJ39, BK101, BK105, BK110, HB⟩ := hcut
                cases kq with
                | zero => exact absurd HA.out (by simp [spec_SchemaOK.j4])
                | succ kj39 =>
                 have H := HA.out; clear HA; simp only [spec_SchemaOK.j4] at H
                 by_cases c93 : x100_39 = true
                 ·subst c93
                  have H1 : (some false) = some r := by rw [if_pos rfl] at H; exact H
                  clear H; have H := H1; clear H1; obtain rfl := Option.some.inj H; go_wp2
                  go_ret
                  exact ⟨by first | rfl | (simp [errW_none, errW_some] <;> rfl) | (simp [*, errW_none, errW_some] <;> rfl), by repeat (first | (with_reducible first | exact HB.out | apply qbA | apply qbN | apply qbD | refine qbS ?_ GE101.out | refine qbS ?_ GE105.out | refine qbS ?_ GE110.out) | exact HB.out)⟩
                 ·replace c93 := Bool.eq_false_iff.mpr c93
                  subst c93; have H1 : (spec_SchemaOK.l2 kj39 x3_2 x5_4 0 l0_0 ((rd_T53 l0_0 x3_2).f0) ((rd_T53 l0_0 x3_2).f1) ((rd_T38 ((rd_T53 l0_0 x3_2).f1) x5_4).f0) ((rd_T38 ((rd_T53 l0_0 x3_2).f1) x5_4).f1) ((rd_T38 ((rd_T53 l0_0 x3_2).f1) x5_4).f2) ((rd_T38 ((rd_T53 l0_0 x3_2).f1) x5_4).f3) ((rd_T38 ((rd_T53 l0_0 x3_2).f1) x5_4).f4)) = some r := by rw [if_neg (show ¬ (false = true) by decide)] at H; exact H
                  clear H; have H := H1; clear H1; have H' := qO H; clear H; go_wp2
                  go_loopg [7] kj39 (fun kq v7 w' => ∃ (x7_6 : Int), v7 = .int .i64 x7_6 ∧ Aside0 (spec_SchemaOK.l2 kq x3_2 x5_4 x7_6 l0_0 ((rd_T53 l0_0 x3_2).f0) ((rd_T53 l0_0 x3_2).f1) ((rd_T38 ((rd_T53 l0_0 x3_2).f1) x5_4).f0) ((rd_T38 ((rd_T53 l0_0 x3_2).f1) x5_4).f1) ((rd_T38 ((rd_T53 l0_0 x3_2).f1) x5_4).f2) ((rd_T38 ((rd_T53 l0_0 x3_2).f1) x5_4).f3) ((rd_T38 ((rd_T53 l0_0 x3_2).f1) x5_4).f4) = some r) ∧ Aside0 (kq ≤ kj39) ∧ Aside0 (w'.heap[gb101]? = some (.cells #[(.slice (some ad104) l0_0.length c0_0)] 29 (0, 0))) ∧ Aside0 (w'.heap[gb105]? = some (.cells #[.string ((rd_T53 l0_0 x3_2).f0), (.slice (some ad109) ((rd_T53 l0_0 x3_2).f1).length c104_1)] 53 (0, 0))) ∧ Aside0 (w'.heap[gb110]? = some (.cells #[.string ((rd_T38 ((rd_T53 l0_0 x3_2).f1) x5_4).f0), (.slice A109_1 ((rd_T38 ((rd_T53 l0_0 x3_2).f1) x5_4).f1).length c109_1), .string ((rd_T38 ((rd_T53 l0_0 x3_2).f1) x5_4).f2), .bool ((rd_T38 ((rd_T53 l0_0 x3_2).f1) x5_4).f3), .bool ((rd_T38 ((rd_T53 l0_0 x3_2).f1) x5_4).f4)] 38 (0, 0))) ∧ Aside0 (Below w.heap.size w w'))
                  case atStart => exact ⟨(0), (by first | rfl | (simp; done) | (simp [*]; done)), H', ⟨Nat.le_refl _⟩, ⟨by (with_reducible repeat (first | refine qkN ?_ _ | refine qkD ?_ | refine qkA ?_ _)); exact BK101.out⟩, ⟨by (with_reducible repeat (first | refine qkN ?_ _ | refine qkD ?_ | refine qkA ?_ _)); exact BK105.out⟩, ⟨by (with_reducible repeat (first | refine qkN ?_ _ | refine qkD ?_ | refine qkA ?_ _)); exact BK110.out⟩, ⟨by repeat (first | (with_reducible first | exact HB.out | apply qbA | apply qbN | apply qbD | refine qbS ?_ GE101.out | refine qbS ?_ GE105.out | refine qbS ?_ GE110.out) | exact HB.out)⟩⟩
                  case round =>
                   clear H'
                   try clear c1
                   try clear p1
                   try clear q1
                   try clear hx1
                   try clear c2
                   try clear p2
                   try clear c3
                   try clear c4
                   try clear c5
                   try clear c6
                   try clear c7
                   try clear c8
                   try clear c9
                   try clear c10
                   try clear p10
                   try clear q10
                   try clear hx10
                   try clear c11
                   try clear c11b0
                   try clear c12
                   try clear c12b0
                   try clear c16
                   try clear c19
                   try clear c20
                   try clear c20b0
                   try clear c20b1
                   try clear c21
                   try clear c24
                   try clear c24b0
                   try clear c24b1
                   try clear c26
                   try clear c27
                   try clear c29
                   try clear c31
                   try clear c35
                   try clear c37
                   try clear c38
                   try clear c38b0
                   try clear c39
                   try clear c39b0
                   try clear c41
                   try clear c44
                   try clear c45
                   try clear c48
                   try clear c49
                   try clear c49b0
                   try clear c49b1
                   try clear c50
                   try clear c51
                   try clear c54
                   try clear c54b0
                   try clear c54b1
                   try clear c55
                   try clear c55b0
                   try clear c55b1
                   try clear c56
                   try clear c57
                   try clear c59
                   try clear c64
                   try clear c64b0
                   try clear c65
                   try clear c66
                   try clear c68
                   try clear c74
                   try clear c75
                   try clear c77
                   try clear c84
                   try clear c85
                   try clear c87
                   try clear c90
                   try clear c91
                   try clear c93
                   try clear hcz14_0
                   try clear hcz17_0
                   try clear hcz17_1
                   try clear hcz22_0
                   try clear hcz22_1
                   try clear hcz27_0
                   try clear hcz27_1
                   try clear hcz28_0
                   try clear hcz30_0
                   try clear hcz30_1
                   try clear hcz32_0
                   try clear hcz32_1
                   try clear hcz33_0
                   try clear hcz36_0
                   try clear hcz36_1
                   try clear hcz42_0
                   try clear hcz42_1
                   try clear hcz46_0
                   try clear hcz46_1
                   try clear hcz46_2
                   try clear hcz46_3
                   try clear hcz46_4
                   try clear hcz52_0
                   try clear hcz52_1
                   try clear hcz52_2
                   try clear hcz52_3
                   try clear hcz52_4
                   try clear hcz58_0
                   try clear hcz58_1
                   try clear hcz58_2
                   try clear hcz58_3
                   try clear hcz58_4
                   try clear hcz60_0
                   try clear hcz60_1
                   try clear hcz62_0
                   try clear hcz62_1
                   try clear hcz62_2
                   try clear hcz62_3
                   try clear hcz62_4
                   try clear hcz67_0
                   try clear hcz67_1
                   try clear hcz67_2
                   try clear hcz67_3
                   try clear hcz67_4
                   try clear hcz69_0
                   try clear hcz69_1
                   try clear hcz71_0
                   try clear hcz71_1
                   try clear hcz71_2
                   try clear hcz71_3
                   try clear hcz71_4
                   try clear hcz72_0
                   try clear hcz76_0
                   try clear hcz76_1
                   try clear hcz76_2
                   try clear hcz76_3
                   try clear hcz76_4
                   try clear hcz78_0
                   try clear hcz78_1
                   try clear hcz7_0
                   try clear hcz80_0
                   try clear hcz80_1
                   try clear hcz80_2
                   try clear hcz80_3
                   try clear hcz80_4
                   try clear hcz81_0
                   try clear hcz83_0
                   try clear hcz83_1
                   try clear hcz83_2
                   try clear hcz83_3
                   try clear hcz83_4
                   try clear hcz86_0
                   try clear hcz86_1
                   try clear hcz86_2
                   try clear hcz86_3
                   try clear hcz86_4
                   try clear hcz88_0
                   try clear hcz88_1
                   try clear hcz92_0
                   try clear hcz92_1
                   try clear hcz92_2
                   try clear hcz92_3
                   try clear hcz92_4
                   try clear hcz9_0
                   try clear hfz14_0
                   try clear hfz17_0
                   try clear hfz17_1
                   try clear hfz22_0
                   try clear hfz22_1
                   try clear hfz27_0
                   try clear hfz27_1
                   try clear hfz28_0
                   try clear hfz30_0
                   try clear hfz30_1
                   try clear hfz32_0
                   try clear hfz32_1
                   try clear hfz33_0
                   try clear hfz36_0
                   try clear hfz36_1
                   try clear hfz42_0
                   try clear hfz42_1
                   try clear hfz46_0
                   try clear hfz46_1
                   try clear hfz46_2
                   try clear hfz46_3
                   try clear hfz46_4
                   try clear hfz52_0
                   try clear hfz52_1
                   try clear hfz52_2
                   try clear hfz52_3
                   try clear hfz52_4
                   try clear hfz58_0
                   try clear hfz58_1
                   try clear hfz58_2
                   try clear hfz58_3
                   try clear hfz58_4
                   try clear hfz60_0
                   try clear hfz60_1
                   try clear hfz62_0
                   try clear hfz62_1
                   try clear hfz62_2
                   try clear hfz62_3
                   try clear hfz62_4
                   try clear hfz67_0
                   try clear hfz67_1
                   try clear hfz67_2
                   try clear hfz67_3
                   try clear hfz67_4
                   try clear hfz69_0
                   try clear hfz69_1
                   try clear hfz71_0
                   try clear hfz71_1
                   try clear hfz71_2
                   try clear hfz71_3
                   try clear hfz71_4
                   try clear hfz72_0
                   try clear hfz76_0
                   try clear hfz76_1
                   try clear hfz76_2
                   try clear hfz76_3
                   try clear hfz76_4
                   try clear hfz78_0
                   try clear hfz78_1
                   try clear hfz7_0
                   try clear hfz80_0
                   try clear hfz80_1
                   try clear hfz80_2
                   try clear hfz80_3
                   try clear hfz80_4
                   try clear hfz81_0
                   try clear hfz83_0
                   try clear hfz83_1
                   try clear hfz83_2
                   try clear hfz83_3
                   try clear hfz83_4
                   try clear hfz86_0
                   try clear hfz86_1
                   try clear hfz86_2
                   try clear hfz86_3
                   try clear hfz86_4
                   try clear hfz88_0
                   try clear hfz88_1
                   try clear hfz92_0
                   try clear hfz92_1
                   try clear hfz92_2
                   try clear hfz92_3
                   try clear hfz92_4
                   try clear hfz9_0
                   try clear hx104_0
                   try clear hx104_1
                   try clear hx109_0
                   try clear hx109_1
                   try clear hx109_2
                   try clear hx109_3
                   try clear hx109_4
                   try clear p1
                   try clear p10
                   try clear p104
                   try clear p109
                   try clear p2
                   try clear q1
                   try clear q10
                   try clear q104
                   try clear q109
                   obtain ⟨x7_6, rfl, HA, HK6, BK101, BK105, BK110, HB⟩ := hrel
                   cases gk with
                   | zero => exact absurd HA.out (by simp [spec_SchemaOK.l2])
                   | succ k6 =>
                    have H := HA.out; clear HA; simp only [spec_SchemaOK.l2] at H
                    by_cases c94 : x7_6 < (((rd_T38 ((rd_T53 l0_0 x3_2).f1) x5_4).f1).length : Int)
                    ·rw [if_pos c94] at H
                     have c94b0 : decide (x7_6 < (((rd_T38 ((rd_T53 l0_0 x3_2).f1) x5_4).f1).length : Int)) = true := decide_eq_true c94; clear c94
                     by_cases c95 : 0 ≤ x7_6
                     ·rw [if_pos c95] at H
                      have c95b0 : decide (0 ≤ x7_6) = true := decide_eq_true c95; clear c95; replace H := Option.bind_eq_some_iff.mp H; obtain ⟨t115, A960, H⟩ := H; replace H : (if t115 = true then ((spec_l03Arg.f k6 ((rd_T38 ((rd_T53 l0_0 x3_2).f1) x5_4).f0) ((rd_T38 ((rd_T53 l0_0 x3_2).f1) x5_4).f1) ((rd_T38 ((rd_T53 l0_0 x3_2).f1) x5_4).f2) ((rd_T38 ((rd_T53 l0_0 x3_2).f1) x5_4).f3) ((rd_T38 ((rd_T53 l0_0 x3_2).f1) x5_4).f4) ((rd_T57 ((rd_T38 ((rd_T53 l0_0 x3_2).f1) x5_4).f1) x7_6).f0)).bind fun t117 => (if t117 = x7_6 then (spec_SchemaOK.l2 k6 x3_2 x5_4 (wrap64 (x7_6 + 1)) l0_0 ((rd_T53 l0_0 x3_2).f0) ((rd_T53 l0_0 x3_2).f1) ((rd_T38 ((rd_T53 l0_0 x3_2).f1) x5_4).f0) ((rd_T38 ((rd_T53 l0_0 x3_2).f1) x5_4).f1) ((rd_T38 ((rd_T53 l0_0 x3_2).f1) x5_4).f2) ((rd_T38 ((rd_T53 l0_0 x3_2).f1) x5_4).f3) ((rd_T38 ((rd_T53 l0_0 x3_2).f1) x5_4).f4)) else (some false))) else (some false)) = some r := H; have A96 := qO A960; clear A960
                      by_cases c97 : t115 = true
                      ·subst c97
                       have H1 : ((spec_l03Arg.f k6 ((rd_T38 ((rd_T53 l0_0 x3_2).f1) x5_4).f0) ((rd_T38 ((rd_T53 l0_0 x3_2).f1) x5_4).f1) ((rd_T38 ((rd_T53 l0_0 x3_2).f1) x5_4).f2) ((rd_T38 ((rd_T53 l0_0 x3_2).f1) x5_4).f3) ((rd_T38 ((rd_T53 l0_0 x3_2).f1) x5_4).f4) ((rd_T57 ((rd_T38 ((rd_T53 l0_0 x3_2).f1) x5_4).f1) x7_6).f0)).bind fun t117 => (if t117 = x7_6 then (spec_SchemaOK.l2 k6 x3_2 x5_4 (wrap64 (x7_6 + 1)) l0_0 ((rd_T53 l0_0 x3_2).f0) ((rd_T53 l0_0 x3_2).f1) ((rd_T38 ((rd_T53 l0_0 x3_2).f1) x5_4).f0) ((rd_T38 ((rd_T53 l0_0 x3_2).f1) x5_4).f1) ((rd_T38 ((rd_T53 l0_0 x3_2).f1) x5_4).f2) ((rd_T38 ((rd_T53 l0_0 x3_2).f1) x5_4).f3) ((rd_T38 ((rd_T53 l0_0 x3_2).f1) x5_4).f4)) else (some false))) = some r := by rw [if_pos rfl] at H; exact H
                       clear H; have H := H1; clear H1; replace H := Option.bind_eq_some_iff.mp H; obtain ⟨t117, A980, H⟩ := H; replace H : (if t117 = x7_6 then (spec_SchemaOK.l2 k6 x3_2 x5_4 (wrap64 (x7_6 + 1)) l0_0 ((rd_T53 l0_0 x3_2).f0) ((rd_T53 l0_0 x3_2).f1) ((rd_T38 ((rd_T53 l0_0 x3_2).f1) x5_4).f0) ((rd_T38 ((rd_T53 l0_0 x3_2).f1) x5_4).f1) ((rd_T38 ((rd_T53 l0_0 x3_2).f1) x5_4).f2) ((rd_T38 ((rd_T53 l0_0 x3_2).f1) x5_4).f3) ((rd_T38 ((rd_T53 l0_0 x3_2).f1) x5_4).f4)) else (some false)) = some r := H; have A98 := qO A980; clear A980
                       by_cases c99 : t117 = x7_6
                       ·rw [if_pos c99] at H
                        have c99b0 : (t117 == x7_6) = true := beq_iff_eq.mpr c99; have c99b1 : (t117 != x7_6) = false := bne_eq_false_iff_eq.mpr c99; clear c99; have H' := qO H; clear H; have hnb100 := NB110_101.out; have hnc100 := NB101_110.out; have hnb101 := NB110_105.out; have hnc101 := NB105_110.out; have hcz102_0 : wr.cell? ⟨gb110, 0, none⟩ = some (.string ((rd_T38 ((rd_T53 l0_0 x3_2).f1) x5_4).f0)) := (blk_cell BK110.out 0).trans rfl; have hcz102_1 : wr.cell? ⟨gb110, 1, none⟩ = some (.slice A109_1 ((rd_T38 ((rd_T53 l0_0 x3_2).f1) x5_4).f1).length c109_1) := (blk_cell BK110.out 1).trans rfl; have hcz102_2 : wr.cell? ⟨gb110, 2, none⟩ = some (.string ((rd_T38 ((rd_T53 l0_0 x3_2).f1) x5_4).f2)) := (blk_cell BK110.out 2).trans rfl; have hcz102_3 : wr.cell? ⟨gb110, 3, none⟩ = some (.bool ((rd_T38 ((rd_T53 l0_0 x3_2).f1) x5_4).f3)) := (blk_cell BK110.out 3).trans rfl; have hcz102_4 : wr.cell? ⟨gb110, 4, none⟩ = some (.bool ((rd_T38 ((rd_T53 l0_0 x3_2).f1) x5_4).f4)) := (blk_cell BK110.out 4).trans rfl; have hfz102_0 := blk_frozen BK110.out 0; have hfz102_1 := blk_frozen BK110.out 1; have hfz102_2 := blk_frozen BK110.out 2; have hfz102_3 := blk_frozen BK110.out 3; have hfz102_4 := blk_frozen BK110.out 4
                        try go_wp2
                        have n0_ := qO (qkD BK101.out); have n1_ := qO (qkD BK105.out); have n2_ := qO (qkD BK110.out); have n3_ := qO (qbD HB.out); clear BK101; clear BK105; clear BK110; clear HB; have BK101 := n0_; have BK105 := n1_; have BK110 := n2_; have HB := n3_; clear n0_ n1_ n2_ n3_; have p114 : 0 ≤ (x7_6 : Int) := qT (by first | (with_reducible assumption) | assumption); have q114 : x7_6 < (((rd_T38 ((rd_T53 l0_0 x3_2).f1) x5_4).f1).length : Int) := qT (by first | (with_reducible assumption) | assumption); obtain ⟨ad114, e114, hx114_0, hx114_1⟩ := at_T57 HR109_1.out x7_6 p114 q114; have hw114_1 := hx114_1; have hw114_0 := hx114_0
                        cases e114
                        replace hx114_0 := (HB.out.cell (qL w _ hx114_0)).trans hx114_0; replace hx114_1 := (HB.out.cell (qL w _ hx114_1)).trans hx114_1; replace p114 := eq_true p114; replace q114 := eq_true q114; have p116 : 0 ≤ (x7_6 : Int) := qT (by first | (with_reducible assumption) | assumption); have q116 : x7_6 < (((rd_T38 ((rd_T53 l0_0 x3_2).f1) x5_4).f1).length : Int) := qT (by first | (with_reducible assumption) | assumption); obtain ⟨ad116, e116, hx116_0, hx116_1⟩ := at_T57 HR109_1.out x7_6 p116 q116; have hw116_1 := hx116_1; have hw116_0 := hx116_0; obtain rfl : ad114 = ad116 := (by injection e116); replace hx116_0 := (HB.out.cell (qL w _ hx116_0)).trans hx116_0; replace hx116_1 := (HB.out.cell (qL w _ hx116_1)).trans hx116_1; replace p116 := eq_true p116; replace q116 := eq_true q116; refine start_ (n := 20) (S := fun w' => w'.cell? ⟨gb110, 0, none⟩ = some (.string ((rd_T38 ((rd_T53 l0_0 x3_2).f1) x5_4).f0)) ∧ w'.cell? ⟨gb110, 1, none⟩ = some (.slice (some ad114) ((rd_T38 ((rd_T53 l0_0 x3_2).f1) x5_4).f1).length c109_1) ∧ w'.cell? ⟨gb110, 2, none⟩ = some (.string ((rd_T38 ((rd_T53 l0_0 x3_2).f1) x5_4).f2)) ∧ w'.cell? ⟨gb110, 3, none⟩ = some (.bool ((rd_T38 ((rd_T53 l0_0 x3_2).f1) x5_4).f3)) ∧ w'.cell? ⟨gb110, 4, none⟩ = some (.bool ((rd_T38 ((rd_T53 l0_0 x3_2).f1) x5_4).f4)) ∧ w'.cell? (ad114.add ((x7_6).toNat * 2)) = some (.string ((rd_T57 ((rd_T38 ((rd_T53 l0_0 x3_2).f1) x5_4).f1) x7_6).f0)) ∧ w'.cell? ⟨(ad114.add ((x7_6).toNat * 2)).block, (ad114.add ((x7_6).toNat * 2)).off + 1, none⟩ = some (.bool ((rd_T57 ((rd_T38 ((rd_T53 l0_0 x3_2).f1) x5_4).f1) x7_6).f1)) ∧ w'.cell? (ad114.add ((x7_6).toNat * 2)) = some (.string ((rd_T57 ((rd_T38 ((rd_T53 l0_0 x3_2).f1) x5_4).f1) x7_6).f0)) ∧ w'.cell? ⟨(ad114.add ((x7_6).toNat * 2)).block, (ad114.add ((x7_6).toNat * 2)).off + 1, none⟩ = some (.bool ((rd_T57 ((rd_T38 ((rd_T53 l0_0 x3_2).f1) x5_4).f1) x7_6).f1))) (ds := []) spec_SchemaOK.y0 (by kernel_rfl) rfl rfl ⟨(blk_cell BK110.out 0).trans rfl, (blk_cell BK110.out 1).trans rfl, (blk_cell BK110.out 2).trans rfl, (blk_cell BK110.out 3).trans rfl, (blk_cell BK110.out 4).trans rfl, ((HB.out.cell (qL w _ hw114_0)).trans hw114_0), ((HB.out.cell (qL w _ hw114_1)).trans hw114_1), ((HB.out.cell (qL w _ hw116_0)).trans hw116_0), ((HB.out.cell (qL w _ hw116_1)).trans hw116_1)⟩ (fun hHeld => ?_); refine with_tabW spec_SchemaOK.tab18 spec_SchemaOK.bits18 (fun HT_ HW_ => ?_); generalize wr.drew = w103 at BK101 BK105 BK110 HB hx114_0 hx114_1 hx116_0 hx116_1 hHeld ⊢; refine pure_ (i := 0) (N := some 108) (v := ?_) (a' := ?_) spec_SchemaOK.y1 rfl rfl (any_of HT_.out (by kernel_rfl)) (fun _ _ _ h => h) (Or.inl ⟨by rfl, ?_⟩) ?_ ?_; rotate_left; (intro w'; go_simp; with_reducible rfl); rotate_left; (simp only [Act.put, qzA, qzB, qzC, i64_w, i32_w]; rfl); refine pure_ (i := 2) (N := some 110) (v := ?_) (a' := ?_) spec_SchemaOK.y2 rfl rfl (any_of HT_.out (by kernel_rfl)) (fun _ _ _ h => h) (Or.inl ⟨by rfl, ?_⟩) ?_ ?_; rotate_left; (intro w'; go_simp; with_reducible rfl); rotate_left; (simp only [Act.put, qzA, qzB, qzC, i64_w, i32_w]; rfl); refine take_ (i := 1) (N := some 109) (v := ?_) (a' := ?_) spec_SchemaOK.y3 rfl rfl (take_ofW HT_.out HW_.out (by kernel_rfl)) (fun _ _ _ h => h) (Or.inl ⟨by rfl, ?_⟩) hHeld ?_ ?_; rotate_left; (rintro w' ⟨s0, s1, s2, s3, s4, s5, s6, s7, s8⟩; go_simp; with_reducible rfl); rotate_left; (simp only [Act.put, qzA, qzB, qzC, i64_w, i32_w]; rfl); refine pure_ (i := 3) (N := some 111) (v := ?_) (a' := ?_) spec_SchemaOK.y4 rfl rfl (any_of HT_.out (by kernel_rfl)) (fun _ _ _ h => h) (Or.inl ⟨by rfl, ?_⟩) ?_ ?_; rotate_left; (intro w'; go_simp; with_reducible rfl); rotate_left; (simp only [Act.put, qzA, qzB, qzC, i64_w, i32_w]; rfl); refine pure_ (i := 4) (N := some 112) (v := ?_) (a' := ?_) spec_SchemaOK.y5 rfl rfl (any_of HT_.out (by kernel_rfl)) (fun _ _ _ h => h) (Or.inl ⟨by rfl, ?_⟩) ?_ ?_; rotate_left; (intro w'; go_simp; with_reducible rfl); rotate_left; (simp only [Act.put, qzA, qzB, qzC, i64_w, i32_w]; rfl); refine take_ (i := 5) (N := some 113) (v := ?_) (a' := ?_) spec_SchemaOK.y6 rfl rfl (take_ofW HT_.out HW_.out (by kernel_rfl)) (fun _ _ _ h => h) (Or.inl ⟨by rfl, ?_⟩) hHeld ?_ ?_; rotate_left; (rintro w' ⟨s0, s1, s2, s3, s4, s5, s6, s7, s8⟩; go_simp; with_reducible rfl); rotate_left; (simp only [Act.put, qzA, qzB, qzC, i64_w, i32_w]; rfl); refine one_ (i := 6) (N := some 114) spec_SchemaOK.y7 rfl rfl (one_of HT_.out (by kernel_rfl)) (by decide) (fun K hK => ?_); refine goes_ Try.func29 (by kernel_rfl) rfl #[.string ((rd_T57 ((rd_T38 ((rd_T53 l0_0 x3_2).f1) x5_4).f1) x7_6).f0)] (by rfl) rfl rfl (by (try simp only [List.map_toArray, List.map_cons, List.map_nil]); first | done | rfl | (simp only [List.length_drop, List.length_take]; rfl)) ?_; (with_reducible refine (spec_NameOK.calls k6 ((rd_T57 ((rd_T38 ((rd_T53 l0_0 x3_2).f1) x5_4).f1) x7_6).f0) true _ A96.out).mono ?_); rintro e w' ⟨rfl, ⟨nd, rfl⟩⟩; refine ⟨_, rfl, ?_⟩; refine hK.out _ _ ⟨(blk_cell BK110.out 0).trans rfl, (blk_cell BK110.out 1).trans rfl, (blk_cell BK110.out 2).trans rfl, (blk_cell BK110.out 3).trans rfl, (blk_cell BK110.out 4).trans rfl, ((HB.out.cell (qL w _ hw114_0)).trans hw114_0), ((HB.out.cell (qL w _ hw114_1)).trans hw114_1), ((HB.out.cell (qL w _ hw116_0)).trans hw116_0), ((HB.out.cell (qL w _ hw116_1)).trans hw116_1)⟩ (fun hHeld => ?_); clear hK K; refine norm_ (a' := ?_) ?_ ?_; rotate_left
                        ·show Act.put _ (some 114) _ = _
                         simp only [Act.put, qzA, qzB, qzC, i64_w, i32_w]
                         rfl
                        refine pure_ (i := 7) (N := some 115) (v := ?_) (a' := ?_) spec_SchemaOK.y8 rfl rfl (any_of HT_.out (by kernel_rfl)) (fun _ _ _ h => h) (Or.inl ⟨by rfl, ?_⟩) ?_ ?_; rotate_left; (intro w'; go_simp; with_reducible rfl); rotate_left; (simp only [Act.put, qzA, qzB, qzC, i64_w, i32_w]; rfl); refine pure_ (i := 8) (N := some 116) (v := ?_) (a' := ?_) spec_SchemaOK.y9 rfl rfl (any_of HT_.out (by kernel_rfl)) (fun _ _ _ h => h) (Or.inl ⟨by rfl, ?_⟩) ?_ ?_; rotate_left; (intro w'; go_simp; with_reducible rfl); rotate_left; (simp only [Act.put, qzA, qzB, qzC, i64_w, i32_w]; rfl); refine pure_ (i := 10) (N := some 118) (v := ?_) (a' := ?_) spec_SchemaOK.y10 rfl rfl (any_of HT_.out (by kernel_rfl)) (fun _ _ _ h => h) (Or.inl ⟨by rfl, ?_⟩) ?_ ?_; rotate_left; (intro w'; go_simp; with_reducible rfl); rotate_left; (simp only [Act.put, qzA, qzB, qzC, i64_w, i32_w]; rfl); refine pure_ (i := 12) (N := some 120) (v := ?_) (a' := ?_) spec_SchemaOK.y11 rfl rfl (any_of HT_.out (by kernel_rfl)) (fun _ _ _ h => h) (Or.inl ⟨by rfl, ?_⟩) ?_ ?_; rotate_left; (intro w'; go_simp; with_reducible rfl); rotate_left; (simp only [Act.put, qzA, qzB, qzC, i64_w, i32_w]; rfl); refine pure_ (i := 17) (N := some 125) (v := ?_) (a' := ?_) spec_SchemaOK.y12 rfl rfl (any_of HT_.out (by kernel_rfl)) (fun _ _ _ h => h) (Or.inl ⟨by rfl, ?_⟩) ?_ ?_; rotate_left; (intro w'; go_simp; with_reducible rfl); rotate_left; (simp only [Act.put, qzA, qzB, qzC, i64_w, i32_w]; rfl); refine take_ (i := 9) (N := some 117) (v := ?_) (a' := ?_) spec_SchemaOK.y13 rfl rfl (take_ofW HT_.out HW_.out (by kernel_rfl)) (fun _ _ _ h => h) (Or.inl ⟨by rfl, ?_⟩) hHeld ?_ ?_; rotate_left; (rintro w' ⟨s0, s1, s2, s3, s4, s5, s6, s7, s8⟩; go_simp; with_reducible rfl); rotate_left; (simp only [Act.put, qzA, qzB, qzC, i64_w, i32_w]; rfl); refine take_ (i := 11) (N := some 119) (v := ?_) (a' := ?_) spec_SchemaOK.y14 rfl rfl (take_ofW HT_.out HW_.out (by kernel_rfl)) (fun _ _ _ h => h) (Or.inl ⟨by rfl, ?_⟩) hHeld ?_ ?_; rotate_left; (rintro w' ⟨s0, s1, s2, s3, s4, s5, s6, s7, s8⟩; go_simp; with_reducible rfl); rotate_left; (simp only [Act.put, qzA, qzB, qzC, i64_w, i32_w]; rfl); refine pure_ (i := 13) (N := some 121) (v := ?_) (a' := ?_) spec_SchemaOK.y15 rfl rfl (any_of HT_.out (by kernel_rfl)) (fun _ _ _ h => h) (Or.inl ⟨by rfl, ?_⟩) ?_ ?_; rotate_left; (intro w'; go_simp; with_reducible rfl); rotate_left; (simp only [Act.put, qzA, qzB, qzC, i64_w, i32_w]; rfl); refine pure_ (i := 14) (N := some 122) (v := ?_) (a' := ?_) spec_SchemaOK.y16 rfl rfl (any_of HT_.out (by kernel_rfl)) (fun _ _ _ h => h) (Or.inl ⟨by rfl, ?_⟩) ?_ ?_; rotate_left; (intro w'; go_simp; with_reducible rfl); rotate_left; (simp only [Act.put, qzA, qzB, qzC, i64_w, i32_w]; rfl); refine take_ (i := 15) (N := some 123) (v := ?_) (a' := ?_) spec_SchemaOK.y17 rfl rfl (take_ofW HT_.out HW_.out (by kernel_rfl)) (fun _ _ _ h => h) (Or.inl ⟨by rfl, ?_⟩) hHeld ?_ ?_; rotate_left; (rintro w' ⟨s0, s1, s2, s3, s4, s5, s6, s7, s8⟩; go_simp; with_reducible rfl); rotate_left; (simp only [Act.put, qzA, qzB, qzC, i64_w, i32_w]; rfl); refine one_ (i := 16) (N := some 124) spec_SchemaOK.y18 rfl rfl (one_of HT_.out (by kernel_rfl)) (by decide) (fun K hK => ?_); refine goes_ Try.func31 (by kernel_rfl) rfl #[.agg #[.string ((rd_T38 ((rd_T53 l0_0 x3_2).f1) x5_4).f0), .slice (some ad114) ((rd_T38 ((rd_T53 l0_0 x3_2).f1) x5_4).f1).length c109_1, .string ((rd_T38 ((rd_T53 l0_0 x3_2).f1) x5_4).f2), .bool ((rd_T38 ((rd_T53 l0_0 x3_2).f1) x5_4).f3), .bool ((rd_T38 ((rd_T53 l0_0 x3_2).f1) x5_4).f4)], .string ((rd_T57 ((rd_T38 ((rd_T53 l0_0 x3_2).f1) x5_4).f1) x7_6).f0)] (by rfl) rfl rfl (by (try simp only [List.map_toArray, List.map_cons, List.map_nil]); first | done | rfl | (simp only [List.length_drop, List.length_take]; rfl)) ?_; (with_reducible refine (spec_l03Arg.calls k6 ((rd_T38 ((rd_T53 l0_0 x3_2).f1) x5_4).f0) _ _ ((rd_T38 ((rd_T53 l0_0 x3_2).f1) x5_4).f1) ((rd_T38 ((rd_T53 l0_0 x3_2).f1) x5_4).f2) ((rd_T38 ((rd_T53 l0_0 x3_2).f1) x5_4).f3) ((rd_T38 ((rd_T53 l0_0 x3_2).f1) x5_4).f4) ((rd_T57 ((rd_T38 ((rd_T53 l0_0 x3_2).f1) x5_4).f1) x7_6).f0) t117 _ ?side1 ?side2 A98.out).mono ?_); (case side1 => repeat (first | exact (Kd.C_below HR109_1.out (by repeat (first | (with_reducible first | exact HB.out | apply qbA | apply qbN | apply qbD | refine qbS ?_ GE101.out | refine qbS ?_ GE105.out | refine qbS ?_ GE110.out) | exact HB.out))) | with_reducible first | refine Kd.C_alloc ?_ _ | refine Kd.C_drewN ?_ _ | refine Kd.C_drew ?_)); (case side2 => exact HC109_1.out); rintro e w104 ⟨rfl, hb⟩; have hx_ := qHX HB hb (by with_reducible repeat (first | refine qbN ?_ _ | refine qbD ?_ | refine qbA ?_ _ | exact Below.refl _ _)); refine ⟨_, rfl, ?_⟩; have n0_ := qO (qB BK101.out hx_ hb); have n1_ := qO (qB BK105.out hx_ hb); have n2_ := qO (blk_below (g := gb110) (o := .cells #[.string ((rd_T38 ((rd_T53 l0_0 x3_2).f1) x5_4).f0), .slice (some ad114) ((rd_T38 ((rd_T53 l0_0 x3_2).f1) x5_4).f1).length c109_1, .string ((rd_T38 ((rd_T53 l0_0 x3_2).f1) x5_4).f2), .bool ((rd_T38 ((rd_T53 l0_0 x3_2).f1) x5_4).f3), .bool ((rd_T38 ((rd_T53 l0_0 x3_2).f1) x5_4).f4)] 38 (0, 0)) (by (with_reducible repeat (first | refine qkN ?_ _ | refine qkD ?_ | refine qkA ?_ _)); exact BK110.out) hb); have n3_ := qO (below_step (below_step HB.out hx_) hb); clear BK101; clear BK105; clear BK110; clear HB; have BK101 := n0_; have BK105 := n1_; have BK110 := n2_; have HB := n3_; clear n0_ n1_ n2_ n3_; clear hx_; (try clear hb); (try clear hb2); (try clear hk); (try clear hi); refine hK.out _ _ ⟨(blk_cell BK110.out 0).trans rfl, (blk_cell BK110.out 1).trans rfl, (blk_cell BK110.out 2).trans rfl, (blk_cell BK110.out 3).trans rfl, (blk_cell BK110.out 4).trans rfl, ((HB.out.cell (qL w _ hw114_0)).trans hw114_0), ((HB.out.cell (qL w _ hw114_1)).trans hw114_1), ((HB.out.cell (qL w _ hw116_0)).trans hw116_0), ((HB.out.cell (qL w _ hw116_1)).trans hw116_1)⟩ (fun hHeld => ?_); clear hK K; refine norm_ (a' := ?_) ?_ ?_; rotate_left
                        ·show Act.put _ (some 124) _ = _
                         simp only [Act.put, qzA, qzB, qzC, i64_w, i32_w]
                         rfl
                        refine pure_ (i := 18) (N := some 126) (v := ?_) (a' := ?_) spec_SchemaOK.y19 rfl rfl (any_of HT_.out (by kernel_rfl)) (fun _ _ _ h => h) (Or.inl ⟨by rfl, ?_⟩) ?_ ?_; rotate_left; (intro w'; go_simp; with_reducible rfl); rotate_left; (simp only [Act.put, qzA, qzB, qzC, i64_w, i32_w]; rfl); refine pure_ (i := 19) (N := some 127) (v := ?_) (a' := ?_) spec_SchemaOK.y20 rfl rfl (any_of HT_.out (by kernel_rfl)) (fun _ _ _ h => h) (Or.inl ⟨by rfl, ?_⟩) ?_ ?_; rotate_left; (intro w'; go_simp; with_reducible rfl); rotate_left; (simp only [Act.put, qzA, qzB, qzC, i64_w, i32_w]; rfl); refine done_ (done_of HT_.out (by kernel_rfl)) ?_
                        try go_wp2
                        go_roundg k6
                        case measure => have := HJ1.out; have := HK2.out; have := HJ12.out; have := HK4.out; have := HJ39.out; have := HK6.out; omega
                        case rel => exact ⟨(wrap64 (x7_6 + 1)), (by first | rfl | (simp; done) | (simp [*]; done)), H', ⟨by have := HJ1.out; have := HK2.out; have := HJ12.out; have := HK4.out; have := HJ39.out; have := HK6.out; omega⟩, ⟨by (with_reducible repeat (first | refine qkN ?_ _ | refine qkD ?_ | refine qkA ?_ _)); exact BK101.out⟩, ⟨by (with_reducible repeat (first | refine qkN ?_ _ | refine qkD ?_ | refine qkA ?_ _)); exact BK105.out⟩, ⟨by (with_reducible repeat (first | refine qkN ?_ _ | refine qkD ?_ | refine qkA ?_ _)); exact BK110.out⟩, ⟨by repeat (first | (with_reducible first | exact HB.out | apply qbA | apply qbN | apply qbD | refine qbS ?_ GE101.out | refine qbS ?_ GE105.out | refine qbS ?_ GE110.out) | exact HB.out)⟩⟩
                       ·rw [if_neg c99] at H
                        have c99b0 : (t117 == x7_6) = false := beq_eq_false_iff_ne.mpr c99; have c99b1 : (t117 != x7_6) = true := bne_iff_ne.mpr c99; obtain rfl := Option.some.inj H; have hnb105 := NB110_101.out; have hnc105 := NB101_110.out; have hnb106 := NB110_105.out; have hnc106 := NB105_110.out; have hcz107_0 : wr.cell? ⟨gb110, 0, none⟩ = some (.string ((rd_T38 ((rd_T53 l0_0 x3_2).f1) x5_4).f0)) := (blk_cell BK110.out 0).trans rfl; have hcz107_1 : wr.cell? ⟨gb110, 1, none⟩ = some (.slice A109_1 ((rd_T38 ((rd_T53 l0_0 x3_2).f1) x5_4).f1).length c109_1) := (blk_cell BK110.out 1).trans rfl; have hcz107_2 : wr.cell? ⟨gb110, 2, none⟩ = some (.string ((rd_T38 ((rd_T53 l0_0 x3_2).f1) x5_4).f2)) := (blk_cell BK110.out 2).trans rfl; have hcz107_3 : wr.cell? ⟨gb110, 3, none⟩ = some (.bool ((rd_T38 ((rd_T53 l0_0 x3_2).f1) x5_4).f3)) := (blk_cell BK110.out 3).trans rfl; have hcz107_4 : wr.cell? ⟨gb110, 4, none⟩ = some (.bool ((rd_T38 ((rd_T53 l0_0 x3_2).f1) x5_4).f4)) := (blk_cell BK110.out 4).trans rfl; have hfz107_0 := blk_frozen BK110.out 0; have hfz107_1 := blk_frozen BK110.out 1; have hfz107_2 := blk_frozen BK110.out 2; have hfz107_3 := blk_frozen BK110.out 3; have hfz107_4 := blk_frozen BK110.out 4
                        try go_wp2
                        have n0_ := qO (qkD BK101.out); have n1_ := qO (qkD BK105.out); have n2_ := qO (qkD BK110.out); have n3_ := qO (qbD HB.out); clear BK101; clear BK105; clear BK110; clear HB; have BK101 := n0_; have BK105 := n1_; have BK110 := n2_; have HB := n3_; clear n0_ n1_ n2_ n3_; have p114 : 0 ≤ (x7_6 : Int) := qT (by first | (with_reducible assumption) | assumption); have q114 : x7_6 < (((rd_T38 ((rd_T53 l0_0 x3_2).f1) x5_4).f1).length : Int) := qT (by first | (with_reducible assumption) | assumption); obtain ⟨ad114, e114, hx114_0, hx114_1⟩ := at_T57 HR109_1.out x7_6 p114 q114; have hw114_1 := hx114_1; have hw114_0 := hx114_0
                        cases e114
                        replace hx114_0 := (HB.out.cell (qL w _ hx114_0)).trans hx114_0; replace hx114_1 := (HB.out.cell (qL w _ hx114_1)).trans hx114_1; replace p114 := eq_true p114; replace q114 := eq_true q114; have p116 : 0 ≤ (x7_6 : Int) := qT (by first | (with_reducible assumption) | assumption); have q116 : x7_6 < (((rd_T38 ((rd_T53 l0_0 x3_2).f1) x5_4).f1).length : Int) := qT (by first | (with_reducible assumption) | assumption); obtain ⟨ad116, e116, hx116_0, hx116_1⟩ := at_T57 HR109_1.out x7_6 p116 q116; have hw116_1 := hx116_1; have hw116_0 := hx116_0; obtain rfl : ad114 = ad116 := (by injection e116); replace hx116_0 := (HB.out.cell (qL w _ hx116_0)).trans hx116_0; replace hx116_1 := (HB.out.cell (qL w _ hx116_1)).trans hx116_1; replace p116 := eq_true p116; replace q116 := eq_true q116; refine start_ (n := 20) (S := fun w' => w'.cell? ⟨gb110, 0, none⟩ = some (.string ((rd_T38 ((rd_T53 l0_0 x3_2).f1) x5_4).f0)) ∧ w'.cell? ⟨gb110, 1, none⟩ = some (.slice (some ad114) ((rd_T38 ((rd_T53 l0_0 x3_2).f1) x5_4).f1).length c109_1) ∧ w'.cell? ⟨gb110, 2, none⟩ = some (.string ((rd_T38 ((rd_T53 l0_0 x3_2).f1) x5_4).f2)) ∧ w'.cell? ⟨gb110, 3, none⟩ = some (.bool ((rd_T38 ((rd_T53 l0_0 x3_2).f1) x5_4).f3)) ∧ w'.cell? ⟨gb110, 4, none⟩ = some (.bool ((rd_T38 ((rd_T53 l0_0 x3_2).f1) x5_4).f4)) ∧ w'.cell? (ad114.add ((x7_6).toNat * 2)) = some (.string ((rd_T57 ((rd_T38 ((rd_T53 l0_0 x3_2).f1) x5_4).f1) x7_6).f0)) ∧ w'.cell? ⟨(ad114.add ((x7_6).toNat * 2)).block, (ad114.add ((x7_6).toNat * 2)).off + 1, none⟩ = some (.bool ((rd_T57 ((rd_T38 ((rd_T53 l0_0 x3_2).f1) x5_4).f1) x7_6).f1)) ∧ w'.cell? (ad114.add ((x7_6).toNat * 2)) = some (.string ((rd_T57 ((rd_T38 ((rd_T53 l0_0 x3_2).f1) x5_4).f1) x7_6).f0)) ∧ w'.cell? ⟨(ad114.add ((x7_6).toNat * 2)).block, (ad114.add ((x7_6).toNat * 2)).off + 1, none⟩ = some (.bool ((rd_T57 ((rd_T38 ((rd_T53 l0_0 x3_2).f1) x5_4).f1) x7_6).f1))) (ds := []) spec_SchemaOK.y0 (by kernel_rfl) rfl rfl ⟨(blk_cell BK110.out 0).trans rfl, (blk_cell BK110.out 1).trans rfl, (blk_cell BK110.out 2).trans rfl, (blk_cell BK110.out 3).trans rfl, (blk_cell BK110.out 4).trans rfl, ((HB.out.cell (qL w _ hw114_0)).trans hw114_0), ((HB.out.cell (qL w _ hw114_1)).trans hw114_1), ((HB.out.cell (qL w _ hw116_0)).trans hw116_0), ((HB.out.cell (qL w _ hw116_1)).trans hw116_1)⟩ (fun hHeld => ?_); refine with_tabW spec_SchemaOK.tab18 spec_SchemaOK.bits18 (fun HT_ HW_ => ?_); generalize wr.drew = w108 at BK101 BK105 BK110 HB hx114_0 hx114_1 hx116_0 hx116_1 hHeld ⊢; refine pure_ (i := 0) (N := some 108) (v := ?_) (a' := ?_) spec_SchemaOK.y1 rfl rfl (any_of HT_.out (by kernel_rfl)) (fun _ _ _ h => h) (Or.inl ⟨by rfl, ?_⟩) ?_ ?_; rotate_left; (intro w'; go_simp; with_reducible rfl); rotate_left; (simp only [Act.put, qzA, qzB, qzC, i64_w, i32_w]; rfl); refine pure_ (i := 2) (N := some 110) (v := ?_) (a' := ?_) spec_SchemaOK.y2 rfl rfl (any_of HT_.out (by kernel_rfl)) (fun _ _ _ h => h) (Or.inl ⟨by rfl, ?_⟩) ?_ ?_; rotate_left; (intro w'; go_simp; with_reducible rfl); rotate_left; (simp only [Act.put, qzA, qzB, qzC, i64_w, i32_w]; rfl); refine take_ (i := 1) (N := some 109) (v := ?_) (a' := ?_) spec_SchemaOK.y3 rfl rfl (take_ofW HT_.out HW_.out (by kernel_rfl)) (fun _ _ _ h => h) (Or.inl ⟨by rfl, ?_⟩) hHeld ?_ ?_; rotate_left; (rintro w' ⟨s0, s1, s2, s3, s4, s5, s6, s7, s8⟩; go_simp; with_reducible rfl); rotate_left; (simp only [Act.put, qzA, qzB, qzC, i64_w, i32_w]; rfl); refine pure_ (i := 3) (N := some 111) (v := ?_) (a' := ?_) spec_SchemaOK.y4 rfl rfl (any_of HT_.out (by kernel_rfl)) (fun _ _ _ h => h) (Or.inl ⟨by rfl, ?_⟩) ?_ ?_; rotate_left; (intro w'; go_simp; with_reducible rfl); rotate_left; (simp only [Act.put, qzA, qzB, qzC, i64_w, i32_w]; rfl); refine pure_ (i := 4) (N := some 112) (v := ?_) (a' := ?_) spec_SchemaOK.y5 rfl rfl (any_of HT_.out (by kernel_rfl)) (fun _ _ _ h => h) (Or.inl ⟨by rfl, ?_⟩) ?_ ?_; rotate_left; (intro w'; go_simp; with_reducible rfl); rotate_left; (simp only [Act.put, qzA, qzB, qzC, i64_w, i32_w]; rfl); refine take_ (i := 5) (N := some 113) (v := ?_) (a' := ?_) spec_SchemaOK.y6 rfl rfl (take_ofW HT_.out HW_.out (by kernel_rfl)) (fun _ _ _ h => h) (Or.inl ⟨by rfl, ?_⟩) hHeld ?_ ?_; rotate_left; (rintro w' ⟨s0, s1, s2, s3, s4, s5, s6, s7, s8⟩; go_simp; with_reducible rfl); rotate_left; (simp only [Act.put, qzA, qzB, qzC, i64_w, i32_w]; rfl); refine one_ (i := 6) (N := some 114) spec_SchemaOK.y7 rfl rfl (one_of HT_.out (by kernel_rfl)) (by decide) (fun K hK => ?_); refine goes_ Try.func29 (by kernel_rfl) rfl #[.string ((rd_T57 ((rd_T38 ((rd_T53 l0_0 x3_2).f1) x5_4).f1) x7_6).f0)] (by rfl) rfl rfl (by (try simp only [List.map_toArray, List.map_cons, List.map_nil]); first | done | rfl | (simp only [List.length_drop, List.length_take]; rfl)) ?_; (with_reducible refine (spec_NameOK.calls k6 ((rd_T57 ((rd_T38 ((rd_T53 l0_0 x3_2).f1) x5_4).f1) x7_6).f0) true _ A96.out).mono ?_); rintro e w' ⟨rfl, ⟨nd, rfl⟩⟩; refine ⟨_, rfl, ?_⟩; refine hK.out _ _ ⟨(blk_cell BK110.out 0).trans rfl, (blk_cell BK110.out 1).trans rfl, (blk_cell BK110.out 2).trans rfl, (blk_cell BK110.out 3).trans rfl, (blk_cell BK110.out 4).trans rfl, ((HB.out.cell (qL w _ hw114_0)).trans hw114_0), ((HB.out.cell (qL w _ hw114_1)).trans hw114_1), ((HB.out.cell (qL w _ hw116_0)).trans hw116_0), ((HB.out.cell (qL w _ hw116_1)).trans hw116_1)⟩ (fun hHeld => ?_); clear hK K; refine norm_ (a' := ?_) ?_ ?_; rotate_left
                        ·show Act.put _ (some 114) _ = _
                         simp only [Act.put, qzA, qzB, qzC, i64_w, i32_w]
                         rfl
                        refine pure_ (i := 7) (N := some 115) (v := ?_) (a' := ?_) spec_SchemaOK.y8 rfl rfl (any_of HT_.out (by kernel_rfl)) (fun _ _ _ h => h) (Or.inl ⟨by rfl, ?_⟩) ?_ ?_; rotate_left; (intro w'; go_simp; with_reducible rfl); rotate_left; (simp only [Act.put, qzA, qzB, qzC, i64_w, i32_w]; rfl); refine pure_ (i := 8) (N := some 116) (v := ?_) (a' := ?_) spec_SchemaOK.y9 rfl rfl (any_of HT_.out (by kernel_rfl)) (fun _ _ _ h => h) (Or.inl ⟨by rfl, ?_⟩) ?_ ?_; rotate_left; (intro w'; go_simp; with_reducible rfl); rotate_left; (simp only [Act.put, qzA, qzB, qzC, i64_w, i32_w]; rfl); refine pure_ (i := 10) (N := some 118) (v := ?_) (a' := ?_) spec_SchemaOK.y10 rfl rfl (any_of HT_.out (by kernel_rfl)) (fun _ _ _ h => h) (Or.inl ⟨by rfl, ?_⟩) ?_ ?_; rotate_left; (intro w'; go_simp; with_reducible rfl); rotate_left; (simp only [Act.put, qzA, qzB, qzC, i64_w, i32_w]; rfl); refine pure_ (i := 12) (N := some 120) (v := ?_) (a' := ?_) spec_SchemaOK.y11 rfl rfl (any_of HT_.out (by kernel_rfl)) (fun _ _ _ h => h) (Or.inl ⟨by rfl, ?_⟩) ?_ ?_; rotate_left; (intro w'; go_simp; with_reducible rfl); rotate_left; (simp only [Act.put, qzA, qzB, qzC, i64_w, i32_w]; rfl); refine pure_ (i := 17) (N := some 125) (v := ?_) (a' := ?_) spec_SchemaOK.y12 rfl rfl (any_of HT_.out (by kernel_rfl)) (fun _ _ _ h => h) (Or.inl ⟨by rfl, ?_⟩) ?_ ?_; rotate_left; (intro w'; go_simp; with_reducible rfl); rotate_left; (simp only [Act.put, qzA, qzB, qzC, i64_w, i32_w]; rfl); refine take_ (i := 9) (N := some 117) (v := ?_) (a' := ?_) spec_SchemaOK.y13 rfl rfl (take_ofW HT_.out HW_.out (by kernel_rfl)) (fun _ _ _ h => h) (Or.inl ⟨by rfl, ?_⟩) hHeld ?_ ?_; rotate_left; (rintro w' ⟨s0, s1, s2, s3, s4, s5, s6, s7, s8⟩; go_simp; with_reducible rfl); rotate_left; (simp only [Act.put, qzA, qzB, qzC, i64_w, i32_w]; rfl); refine take_ (i := 11) (N := some 119) (v := ?_) (a' := ?_) spec_SchemaOK.y14 rfl rfl (take_ofW HT_.out HW_.out (by kernel_rfl)) (fun _ _ _ h => h) (Or.inl ⟨by rfl, ?_⟩) hHeld ?_ ?_; rotate_left; (rintro w' ⟨s0, s1, s2, s3, s4, s5, s6, s7, s8⟩; go_simp; with_reducible rfl); rotate_left; (simp only [Act.put, qzA, qzB, qzC, i64_w, i32_w]; rfl); refine pure_ (i := 13) (N := some 121) (v := ?_) (a' := ?_) spec_SchemaOK.y15 rfl rfl (any_of HT_.out (by kernel_rfl)) (fun _ _ _ h => h) (Or.inl ⟨by rfl, ?_⟩) ?_ ?_; rotate_left; (intro w'; go_simp; with_reducible rfl); rotate_left; (simp only [Act.put, qzA, qzB, qzC, i64_w, i32_w]; rfl); refine pure_ (i := 14) (N := some 122) (v := ?_) (a' := ?_) spec_SchemaOK.y16 rfl rfl (any_of HT_.out (by kernel_rfl)) (fun _ _ _ h => h) (Or.inl ⟨by rfl, ?_⟩) ?_ ?_; rotate_left; (intro w'; go_simp; with_reducible rfl); rotate_left; (simp only [Act.put, qzA, qzB, qzC, i64_w, i32_w]; rfl); refine take_ (i := 15) (N := some 123) (v := ?_) (a' := ?_) spec_SchemaOK.y17 rfl rfl (take_ofW HT_.out HW_.out (by kernel_rfl)) (fun _ _ _ h => h) (Or.inl ⟨by rfl, ?_⟩) hHeld ?_ ?_; rotate_left; (rintro w' ⟨s0, s1, s2, s3, s4, s5, s6, s7, s8⟩; go_simp; with_reducible rfl); rotate_left; (simp only [Act.put, qzA, qzB, qzC, i64_w, i32_w]; rfl); refine one_ (i := 16) (N := some 124) spec_SchemaOK.y18 rfl rfl (one_of HT_.out (by kernel_rfl)) (by decide) (fun K hK => ?_); refine goes_ Try.func31 (by kernel_rfl) rfl #[.agg #[.string ((rd_T38 ((rd_T53 l0_0 x3_2).f1) x5_4).f0), .slice (some ad114) ((rd_T38 ((rd_T53 l0_0 x3_2).f1) x5_4).f1).length c109_1, .string ((rd_T38 ((rd_T53 l0_0 x3_2).f1) x5_4).f2), .bool ((rd_T38 ((rd_T53 l0_0 x3_2).f1) x5_4).f3), .bool ((rd_T38 ((rd_T53 l0_0 x3_2).f1) x5_4).f4)], .string ((rd_T57 ((rd_T38 ((rd_T53 l0_0 x3_2).f1) x5_4).f1) x7_6).f0)] (by rfl) rfl rfl (by (try simp only [List.map_toArray, List.map_cons, List.map_nil]); first | done | rfl | (simp only [List.length_drop, List.length_take]; rfl)) ?_; (with_reducible refine (spec_l03Arg.calls k6 ((rd_T38 ((rd_T53 l0_0 x3_2).f1) x5_4).f0) _ _ ((rd_T38 ((rd_T53 l0_0 x3_2).f1) x5_4).f1) ((rd_T38 ((rd_T53 l0_0 x3_2).f1) x5_4).f2) ((rd_T38 ((rd_T53 l0_0 x3_2).f1) x5_4).f3) ((rd_T38 ((rd_T53 l0_0 x3_2).f1) x5_4).f4) ((rd_T57 ((rd_T38 ((rd_T53 l0_0 x3_2).f1) x5_4).f1) x7_6).f0) t117 _ ?side1 ?side2 A98.out).mono ?_); (case side1 => repeat (first | exact (Kd.C_below HR109_1.out (by repeat (first | (with_reducible first | exact HB.out | apply qbA | apply qbN | apply qbD | refine qbS ?_ GE101.out | refine qbS ?_ GE105.out | refine qbS ?_ GE110.out) | exact HB.out))) | with_reducible first | refine Kd.C_alloc ?_ _ | refine Kd.C_drewN ?_ _ | refine Kd.C_drew ?_)); (case side2 => exact HC109_1.out); rintro e w109 ⟨rfl, hb⟩; have hx_ := qHX HB hb (by with_reducible repeat (first | refine qbN ?_ _ | refine qbD ?_ | refine qbA ?_ _ | exact Below.refl _ _)); refine ⟨_, rfl, ?_⟩; have n0_ := qO (qB BK101.out hx_ hb); have n1_ := qO (qB BK105.out hx_ hb); have n2_ := qO (blk_below (g := gb110) (o := .cells #[.string ((rd_T38 ((rd_T53 l0_0 x3_2).f1) x5_4).f0), .slice (some ad114) ((rd_T38 ((rd_T53 l0_0 x3_2).f1) x5_4).f1).length c109_1, .string ((rd_T38 ((rd_T53 l0_0 x3_2).f1) x5_4).f2), .bool ((rd_T38 ((rd_T53 l0_0 x3_2).f1) x5_4).f3), .bool ((rd_T38 ((rd_T53 l0_0 x3_2).f1) x5_4).f4)] 38 (0, 0)) (by (with_reducible repeat (first | refine qkN ?_ _ | refine qkD ?_ | refine qkA ?_ _)); exact BK110.out) hb); have n3_ := qO (below_step (below_step HB.out hx_) hb); clear BK101; clear BK105; clear BK110; clear HB; have BK101 := n0_; have BK105 := n1_; have BK110 := n2_; have HB := n3_; clear n0_ n1_ n2_ n3_; clear hx_; (try clear hb); (try clear hb2); (try clear hk); (try clear hi); refine hK.out _ _ ⟨(blk_cell BK110.out 0).trans rfl, (blk_cell BK110.out 1).trans rfl, (blk_cell BK110.out 2).trans rfl, (blk_cell BK110.out 3).trans rfl, (blk_cell BK110.out 4).trans rfl, ((HB.out.cell (qL w _ hw114_0)).trans hw114_0), ((HB.out.cell (qL w _ hw114_1)).trans hw114_1), ((HB.out.cell (qL w _ hw116_0)).trans hw116_0), ((HB.out.cell (qL w _ hw116_1)).trans hw116_1)⟩ (fun hHeld => ?_); clear hK K; refine norm_ (a' := ?_) ?_ ?_; rotate_left
                        ·show Act.put _ (some 124) _ = _
                         simp only [Act.put, qzA, qzB, qzC, i64_w, i32_w]
                         rfl
                        refine pure_ (i := 18) (N := some 126) (v := ?_) (a' := ?_) spec_SchemaOK.y19 rfl rfl (any_of HT_.out (by kernel_rfl)) (fun _ _ _ h => h) (Or.inl ⟨by rfl, ?_⟩) ?_ ?_; rotate_left; (intro w'; go_simp; with_reducible rfl); rotate_left; (simp only [Act.put, qzA, qzB, qzC, i64_w, i32_w]; rfl); refine pure_ (i := 19) (N := some 127) (v := ?_) (a' := ?_) spec_SchemaOK.y20 rfl rfl (any_of HT_.out (by kernel_rfl)) (fun _ _ _ h => h) (Or.inl ⟨by rfl, ?_⟩) ?_ ?_; rotate_left; (intro w'; go_simp; with_reducible rfl); rotate_left; (simp only [Act.put, qzA, qzB, qzC, i64_w, i32_w]; rfl); refine done_ (done_of HT_.out (by kernel_rfl)) ?_
                        try go_wp2
                        go_ret
                        exact ⟨by first | rfl | (simp [errW_none, errW_some] <;> rfl) | (simp [*, errW_none, errW_some] <;> rfl), by repeat (first | (with_reducible first | exact HB.out | apply qbA | apply qbN | apply qbD | refine qbS ?_ GE101.out | refine qbS ?_ GE105.out | refine qbS ?_ GE110.out) | exact HB.out)⟩
                      ·replace c97 := Bool.eq_false_iff.mpr c97
                       subst c97; have H1 : (some false) = some r := by rw [if_neg (show ¬ (false = true) by decide)] at H; exact H
                       clear H; have H := H1; clear H1; obtain rfl := Option.some.inj H; have hnb110 := NB110_101.out; have hnc110 := NB101_110.out; have hnb111 := NB110_105.out; have hnc111 := NB105_110.out; have hcz112_0 : wr.cell? ⟨gb110, 0, none⟩ = some (.string ((rd_T38 ((rd_T53 l0_0 x3_2).f1) x5_4).f0)) := (blk_cell BK110.out 0).trans rfl; have hcz112_1 : wr.cell? ⟨gb110, 1, none⟩ = some (.slice A109_1 ((rd_T38 ((rd_T53 l0_0 x3_2).f1) x5_4).f1).length c109_1) := (blk_cell BK110.out 1).trans rfl; have hcz112_2 : wr.cell? ⟨gb110, 2, none⟩ = some (.string ((rd_T38 ((rd_T53 l0_0 x3_2).f1) x5_4).f2)) := (blk_cell BK110.out 2).trans rfl; have hcz112_3 : wr.cell? ⟨gb110, 3, none⟩ = some (.bool ((rd_T38 ((rd_T53 l0_0 x3_2).f1) x5_4).f3)) := (blk_cell BK110.out 3).trans rfl; have hcz112_4 : wr.cell? ⟨gb110, 4, none⟩ = some (.bool ((rd_T38 ((rd_T53 l0_0 x3_2).f1) x5_4).f4)) := (blk_cell BK110.out 4).trans rfl; have hfz112_0 := blk_frozen BK110.out 0; have hfz112_1 := blk_frozen BK110.out 1; have hfz112_2 := blk_frozen BK110.out 2; have hfz112_3 := blk_frozen BK110.out 3; have hfz112_4 := blk_frozen BK110.out 4
                       try go_wp2
                       have n0_ := qO (qkD BK101.out); have n1_ := qO (qkD BK105.out); have n2_ := qO (qkD BK110.out); have n3_ := qO (qbD HB.out); clear BK101; clear BK105; clear BK110; clear HB; have BK101 := n0_; have BK105 := n1_; have BK110 := n2_; have HB := n3_; clear n0_ n1_ n2_ n3_; have p114 : 0 ≤ (x7_6 : Int) := qT (by first | (with_reducible assumption) | assumption); have q114 : x7_6 < (((rd_T38 ((rd_T53 l0_0 x3_2).f1) x5_4).f1).length : Int) := qT (by first | (with_reducible assumption) | assumption); obtain ⟨ad114, e114, hx114_0, hx114_1⟩ := at_T57 HR109_1.out x7_6 p114 q114; have hw114_1 := hx114_1; have hw114_0 := hx114_0
                       cases e114
                       replace hx114_0 := (HB.out.cell (qL w _ hx114_0)).trans hx114_0; replace hx114_1 := (HB.out.cell (qL w _ hx114_1)).trans hx114_1; replace p114 := eq_true p114; replace q114 := eq_true q114; refine start_ (n := 20) (S := fun w' => w'.cell? ⟨gb110, 0, none⟩ = some (.string ((rd_T38 ((rd_T53 l0_0 x3_2).f1) x5_4).f0)) ∧ w'.cell? ⟨gb110, 1, none⟩ = some (.slice (some ad114) ((rd_T38 ((rd_T53 l0_0 x3_2).f1) x5_4).f1).length c109_1) ∧ w'.cell? ⟨gb110, 2, none⟩ = some (.string ((rd_T38 ((rd_T53 l0_0 x3_2).f1) x5_4).f2)) ∧ w'.cell? ⟨gb110, 3, none⟩ = some (.bool ((rd_T38 ((rd_T53 l0_0 x3_2).f1) x5_4).f3)) ∧ w'.cell? ⟨gb110, 4, none⟩ = some (.bool ((rd_T38 ((rd_T53 l0_0 x3_2).f1) x5_4).f4)) ∧ w'.cell? (ad114.add ((x7_6).toNat * 2)) = some (.string ((rd_T57 ((rd_T38 ((rd_T53 l0_0 x3_2).f1) x5_4).f1) x7_6).f0)) ∧ w'.cell? ⟨(ad114.add ((x7_6).toNat * 2)).block, (ad114.add ((x7_6).toNat * 2)).off + 1, none⟩ = some (.bool ((rd_T57 ((rd_T38 ((rd_T53 l0_0 x3_2).f1) x5_4).f1) x7_6).f1))) (ds := []) spec_SchemaOK.y0 (by kernel_rfl) rfl rfl ⟨(blk_cell BK110.out 0).trans rfl, (blk_cell BK110.out 1).trans rfl, (blk_cell BK110.out 2).trans rfl, (blk_cell BK110.out 3).trans rfl, (blk_cell BK110.out 4).trans rfl, ((HB.out.cell (qL w _ hw114_0)).trans hw114_0), ((HB.out.cell (qL w _ hw114_1)).trans hw114_1)⟩ (fun hHeld => ?_); refine with_tabW spec_SchemaOK.tab18 spec_SchemaOK.bits18 (fun HT_ HW_ => ?_); generalize wr.drew = w113 at BK101 BK105 BK110 HB hx114_0 hx114_1 hHeld ⊢; refine pure_ (i := 0) (N := some 108) (v := ?_) (a' := ?_) spec_SchemaOK.y1 rfl rfl (any_of HT_.out (by kernel_rfl)) (fun _ _ _ h => h) (Or.inl ⟨by rfl, ?_⟩) ?_ ?_; rotate_left; (intro w'; go_simp; with_reducible rfl); rotate_left; (simp only [Act.put, qzA, qzB, qzC, i64_w, i32_w]; rfl); refine pure_ (i := 2) (N := some 110) (v := ?_) (a' := ?_) spec_SchemaOK.y2 rfl rfl (any_of HT_.out (by kernel_rfl)) (fun _ _ _ h => h) (Or.inl ⟨by rfl, ?_⟩) ?_ ?_; rotate_left; (intro w'; go_simp; with_reducible rfl); rotate_left; (simp only [Act.put, qzA, qzB, qzC, i64_w, i32_w]; rfl); refine take_ (i := 1) (N := some 109) (v := ?_) (a' := ?_) spec_SchemaOK.y3 rfl rfl (take_ofW HT_.out HW_.out (by kernel_rfl)) (fun _ _ _ h => h) (Or.inl ⟨by rfl, ?_⟩) hHeld ?_ ?_; rotate_left; (rintro w' ⟨s0, s1, s2, s3, s4, s5, s6⟩; go_simp; with_reducible rfl); rotate_left; (simp only [Act.put, qzA, qzB, qzC, i64_w, i32_w]; rfl); refine pure_ (i := 3) (N := some 111) (v := ?_) (a' := ?_) spec_SchemaOK.y4 rfl rfl (any_of HT_.out (by kernel_rfl)) (fun _ _ _ h => h) (Or.inl ⟨by rfl, ?_⟩) ?_ ?_; rotate_left; (intro w'; go_simp; with_reducible rfl); rotate_left; (simp only [Act.put, qzA, qzB, qzC, i64_w, i32_w]; rfl); refine pure_ (i := 4) (N := some 112) (v := ?_) (a' := ?_) spec_SchemaOK.y5 rfl rfl (any_of HT_.out (by kernel_rfl)) (fun _ _ _ h => h) (Or.inl ⟨by rfl, ?_⟩) ?_ ?_; rotate_left; (intro w'; go_simp; with_reducible rfl); rotate_left; (simp only [Act.put, qzA, qzB, qzC, i64_w, i32_w]; rfl); refine take_ (i := 5) (N := some 113) (v := ?_) (a' := ?_) spec_SchemaOK.y6 rfl rfl (take_ofW HT_.out HW_.out (by kernel_rfl)) (fun _ _ _ h => h) (Or.inl ⟨by rfl, ?_⟩) hHeld ?_ ?_; rotate_left; (rintro w' ⟨s0, s1, s2, s3, s4, s5, s6⟩; go_simp; with_reducible rfl); rotate_left; (simp only [Act.put, qzA, qzB, qzC, i64_w, i32_w]; rfl); refine one_ (i := 6) (N := some 114) spec_SchemaOK.y7 rfl rfl (one_of HT_.out (by kernel_rfl)) (by decide) (fun K hK => ?_); refine goes_ Try.func29 (by kernel_rfl) rfl #[.string ((rd_T57 ((rd_T38 ((rd_T53 l0_0 x3_2).f1) x5_4).f1) x7_6).f0)] (by rfl) rfl rfl (by (try simp only [List.map_toArray, List.map_cons, List.map_nil]); first | done | rfl | (simp only [List.length_drop, List.length_take]; rfl)) ?_; (with_reducible refine (spec_NameOK.calls k6 ((rd_T57 ((rd_T38 ((rd_T53 l0_0 x3_2).f1) x5_4).f1) x7_6).f0) false _ A96.out).mono ?_); rintro e w' ⟨rfl, ⟨nd, rfl⟩⟩; refine ⟨_, rfl, ?_⟩; refine hK.out _ _ ⟨(blk_cell BK110.out 0).trans rfl, (blk_cell BK110.out 1).trans rfl, (blk_cell BK110.out 2).trans rfl, (blk_cell BK110.out 3).trans rfl, (blk_cell BK110.out 4).trans rfl, ((HB.out.cell (qL w _ hw114_0)).trans hw114_0), ((HB.out.cell (qL w _ hw114_1)).trans hw114_1)⟩ (fun hHeld => ?_); clear hK K; refine norm_ (a' := ?_) ?_ ?_; rotate_left
                       ·show Act.put _ (some 114) _ = _
                        simp only [Act.put, qzA, qzB, qzC, i64_w, i32_w]
                        rfl
                       refine pure_ (i := 7) (N := some 115) (v := ?_) (a' := ?_) spec_SchemaOK.y8 rfl rfl (any_of HT_.out (by kernel_rfl)) (fun _ _ _ h => h) (Or.inl ⟨by rfl, ?_⟩) ?_ ?_; rotate_left; (intro w'; go_simp; with_reducible rfl); rotate_left; (simp only [Act.put, qzA, qzB, qzC, i64_w, i32_w]; rfl); refine pure_ (i := 8) (N := some 116) (v := ?_) (a' := ?_) spec_SchemaOK.y9 rfl rfl (any_of HT_.out (by kernel_rfl)) (fun _ _ _ h => h) (Or.inl ⟨by rfl, ?_⟩) ?_ ?_; rotate_left; (intro w'; go_simp; with_reducible rfl); rotate_left; (simp only [Act.put, qzA, qzB, qzC, i64_w, i32_w]; rfl); refine pure_ (i := 9) (N := some 117) (v := undef) (a' := ?_) spec_SchemaOK.y21 rfl rfl (any_of HT_.out (by kernel_rfl)) (fun _ _ _ h => h) (Or.inr ⟨by rfl, rfl⟩) ?_ ?_; rotate_left
                       ·simp only [Act.put, qzA, qzB, qzC, i64_w, i32_w]
                        rfl
                       refine pure_ (i := 10) (N := some 118) (v := undef) (a' := ?_) spec_SchemaOK.y22 rfl rfl (any_of HT_.out (by kernel_rfl)) (fun _ _ _ h => h) (Or.inr ⟨by rfl, rfl⟩) ?_ ?_; rotate_left
                       ·simp only [Act.put, qzA, qzB, qzC, i64_w, i32_w]
                        rfl
                       refine pure_ (i := 11) (N := some 119) (v := undef) (a' := ?_) spec_SchemaOK.y23 rfl rfl (any_of HT_.out (by kernel_rfl)) (fun _ _ _ h => h) (Or.inr ⟨by rfl, rfl⟩) ?_ ?_; rotate_left
                       ·simp only [Act.put, qzA, qzB, qzC, i64_w, i32_w]
                        rfl
                       refine pure_ (i := 12) (N := some 120) (v := undef) (a' := ?_) spec_SchemaOK.y24 rfl rfl (any_of HT_.out (by kernel_rfl)) (fun _ _ _ h => h) (Or.inr ⟨by rfl, rfl⟩) ?_ ?_; rotate_left
                       ·simp only [Act.put, qzA, qzB, qzC, i64_w, i32_w]
                        rfl
                       refine pure_ (i := 13) (N := some 121) (v := undef) (a' := ?_) spec_SchemaOK.y25 rfl rfl (any_of HT_.out (by kernel_rfl)) (fun _ _ _ h => h) (Or.inr ⟨by rfl, rfl⟩) ?_ ?_; rotate_left
                       ·simp only [Act.put, qzA, qzB, qzC, i64_w, i32_w]
                        rfl
                       refine pure_ (i := 14) (N := some 122) (v := undef) (a' := ?_) spec_SchemaOK.y26 rfl rfl (any_of HT_.out (by kernel_rfl)) (fun _ _ _ h => h) (Or.inr ⟨by rfl, rfl⟩) ?_ ?_; rotate_left
                       ·simp only [Act.put, qzA, qzB, qzC, i64_w, i32_w]
                        rfl
                       refine pure_ (i := 15) (N := some 123) (v := undef) (a' := ?_) spec_SchemaOK.y27 rfl rfl (any_of HT_.out (by kernel_rfl)) (fun _ _ _ h => h) (Or.inr ⟨by rfl, rfl⟩) ?_ ?_; rotate_left
                       ·simp only [Act.put, qzA, qzB, qzC, i64_w, i32_w]
                        rfl
                       refine pure_ (i := 16) (N := some 124) (v := undef) (a' := ?_) spec_SchemaOK.y28 rfl rfl (any_of HT_.out (by kernel_rfl)) (fun _ _ _ h => h) (Or.inr ⟨by rfl, rfl⟩) ?_ ?_; rotate_left
                       ·simp only [Act.put, qzA, qzB, qzC, i64_w, i32_w]
                        rfl
                       refine pure_ (i := 17) (N := some 125) (v := undef) (a' := ?_) spec_SchemaOK.y18 rfl rfl (any_of HT_.out (by kernel_rfl)) (fun _ _ _ h => h) (Or.inr ⟨by rfl, rfl⟩) ?_ ?_; rotate_left
                       ·simp only [Act.put, qzA, qzB, qzC, i64_w, i32_w]
                        rfl
                       refine pure_ (i := 18) (N := some 126) (v := undef) (a' := ?_) spec_SchemaOK.y19 rfl rfl (any_of HT_.out (by kernel_rfl)) (fun _ _ _ h => h) (Or.inr ⟨by rfl, rfl⟩) ?_ ?_; rotate_left
                       ·simp only [Act.put, qzA, qzB, qzC, i64_w, i32_w]
                        rfl
                       refine pure_ (i := 19) (N := some 127) (v := ?_) (a' := ?_) spec_SchemaOK.y20 rfl rfl (any_of HT_.out (by kernel_rfl)) (fun _ _ _ h => h) (Or.inl ⟨by rfl, ?_⟩) ?_ ?_; rotate_left; (intro w'; go_simp; with_reducible rfl); rotate_left; (simp only [Act.put, qzA, qzB, qzC, i64_w, i32_w]; rfl); refine done_ (done_of HT_.out (by kernel_rfl)) ?_
                       try go_wp2
                       go_ret
                       exact ⟨by first | rfl | (simp [errW_none, errW_some] <;> rfl) | (simp [*, errW_none, errW_some] <;> rfl), by repeat (first | (with_reducible first | exact HB.out | apply qbA | apply qbN | apply qbD | refine qbS ?_ GE101.out | refine qbS ?_ GE105.out | refine qbS ?_ GE110.out) | exact HB.out)⟩
                     ·rw [if_neg c95] at H
                      exact absurd H (by simp)
                    ·rw [if_neg c94] at H
                     have c94b0 : decide (x7_6 < (((rd_T38 ((rd_T53 l0_0 x3_2).f1) x5_4).f1).length : Int)) = false := decide_eq_false c94; clear c94; have H' := qO H; clear H; have hnb114 := NB110_101.out; have hnc114 := NB101_110.out; have hnb115 := NB110_105.out; have hnc115 := NB105_110.out; have hcz116_0 : wr.cell? ⟨gb110, 0, none⟩ = some (.string ((rd_T38 ((rd_T53 l0_0 x3_2).f1) x5_4).f0)) := (blk_cell BK110.out 0).trans rfl; have hcz116_1 : wr.cell? ⟨gb110, 1, none⟩ = some (.slice A109_1 ((rd_T38 ((rd_T53 l0_0 x3_2).f1) x5_4).f1).length c109_1) := (blk_cell BK110.out 1).trans rfl; have hcz116_2 : wr.cell? ⟨gb110, 2, none⟩ = some (.string ((rd_T38 ((rd_T53 l0_0 x3_2).f1) x5_4).f2)) := (blk_cell BK110.out 2).trans rfl; have hcz116_3 : wr.cell? ⟨gb110, 3, none⟩ = some (.bool ((rd_T38 ((rd_T53 l0_0 x3_2).f1) x5_4).f3)) := (blk_cell BK110.out 3).trans rfl; have hcz116_4 : wr.cell? ⟨gb110, 4, none⟩ = some (.bool ((rd_T38 ((rd_T53 l0_0 x3_2).f1) x5_4).f4)) := (blk_cell BK110.out 4).trans rfl; have hfz116_0 := blk_frozen BK110.out 0; have hfz116_1 := blk_frozen BK110.out 1; have hfz116_2 := blk_frozen BK110.out 2; have hfz116_3 := blk_frozen BK110.out 3; have hfz116_4 := blk_frozen BK110.out 4; go_wp2
                     go_roundg k6
                     case measure => have := HJ1.out; have := HK2.out; have := HJ12.out; have := HK4.out; have := HJ39.out; have := HK6.out; omega
                     case rel => exact ⟨(wrap64 (x5_4 + 1)), (by first | rfl | (simp; done) | (simp [*]; done)), H', ⟨by have := HJ1.out; have := HK2.out; have := HJ12.out; have := HK4.out; have := HJ39.out; have := HK6.out; omega⟩, ⟨by (with_reducible repeat (first | refine qkN ?_ _ | refine qkD ?_ | refine qkA ?_ _)); exact BK101.out⟩, ⟨by (with_reducible repeat (first | refine qkN ?_ _ | refine qkD ?_ | refine qkA ?_ _)); exact BK105.out⟩, ⟨by repeat (first | (with_reducible first | exact HB.out | apply qbA | apply qbN | apply qbD | refine qbS ?_ GE101.out | refine qbS ?_ GE105.out | refine qbS ?_ GE110.out) | exact HB.out)⟩⟩
              ·rw [if_neg c39] at H
               exact absurd H (by simp)
             ·rw [if_neg c38] at H
              have c38b0 : decide (x5_4 < (((rd_T53 l0_0 x3_2).f1).length : Int)) = false := decide_eq_false c38; clear c38; have H' := qO H; clear H; have hnb117 := NB105_101.out; have hnc117 := NB101_105.out; have hcz118_0 : wr.cell? ⟨gb105, 0, none⟩ = some (.string ((rd_T53 l0_0 x3_2).f0)) := (blk_cell BK105.out 0).trans rfl; have hcz118_1 : wr.cell? ⟨gb105, 1, none⟩ = some (.slice A104_1 ((rd_T53 l0_0 x3_2).f1).length c104_1) := (blk_cell BK105.out 1).trans rfl; have hfz118_0 := blk_frozen BK105.out 0; have hfz118_1 := blk_frozen BK105.out 1; go_wp2
              go_roundg k4
              case measure => have := HJ1.out; have := HK2.out; have := HJ12.out; have := HK4.out; omega
              case rel => exact ⟨(wrap64 (x3_2 + 1)), (by first | rfl | (simp; done) | (simp [*]; done)), H', ⟨by have := HJ1.out; have := HK2.out; have := HJ12.out; have := HK4.out; omega⟩, ⟨by (with_reducible repeat (first | refine qkN ?_ _ | refine qkD ?_ | refine qkA ?_ _)); exact BK101.out⟩, ⟨by repeat (first | (with_reducible first | exact HB.out | apply qbA | apply qbN | apply qbD | refine qbS ?_ GE101.out | refine qbS ?_ GE105.out) | exact HB.out)⟩⟩
       ·rw [if_neg c12] at H
        exact absurd H (by simp)
      ·rw [if_neg c11] at H
       have c11b0 : decide (x3_2 < (l0_0.length : Int)) = false := decide_eq_false c11; clear c11; obtain rfl := Option.some.inj H; have hcz119_0 : wr.cell? ⟨gb101, 0, none⟩ = some (.slice A0_0 l0_0.length c0_0) := (blk_cell BK101.out 0).trans rfl; have hfz119_0 := blk_frozen BK101.out 0; go_wp2
       go_ret
       exact ⟨by first | rfl | (simp [errW_none, errW_some] <;> rfl) | (simp [*, errW_none, errW_some] <;> rfl), by repeat (first | (with_reducible first | exact HB.out | apply qbA | apply qbN | apply qbD | refine qbS ?_ GE101.out) | exact HB.out)⟩

end Go.Proofs.Ytoogmlghfljeiaa.Q
namespace Go.Proofs.Ytoogmlghfljeiaa.Q
open Go.RowKit Go.Proofs.YtoogmlghfljeiaaW.PrintWords Go.Proofs.YtoogmlghfljeiaaW.PrintLast Go.Proofs.YtoogmlghfljeiaaW.PrintMore
attribute [local go_sem] max2_int min2_int max_two min_two max_three min_three max_four min_four
set_option linter.unusedVariables false
set_option linter.unusedSimpArgs false

def laws_toArgDef.f (a0_0 : ByteArray) (a0_1 : Bool) : Option (ByteArray × Bool) := some (a0_0, a0_1)
set_option maxHeartbeats 8000000 in
set_option maxRecDepth 100000 in
theorem laws_toArgDef.calls (a0_0 : ByteArray) (a0_1 : Bool) (r1 : ByteArray) (r2 : Bool) (w : World) (h : laws_toArgDef.f a0_0 a0_1 = some (r1, r2)) :
  Calls Try.prog 87 #[.agg #[.string a0_0, .bool a0_1]] w fun e w' => e = .returned (.agg #[.string r1, .bool r2]) ∧ Below w.heap.size w w' := by
 have hu106 := Try.underlying106; have hu57 := Try.underlying57; have HB := qO (Below.refl w.heap.size w); have H : (some (a0_0, a0_1)) = some (r1, r2) := h; clear h; simp only [Option.some.injEq, Prod.mk.injEq] at H; obtain ⟨rfl, rfl⟩ := H
 go_enter Try.func87, Try.ntmps87
 go_wp2_with (first | ((with_reducible refine gate_dst (N := 1) rfl ?_); refine box_event ?hg (N := 1) ?hd (cs := #[.string a0_0, .bool a0_1]) (t := 106) ?hr ?_; (case hd => rfl); (case hg => rfl); (case hr => first | (go_simp; done) | (go_simp; rfl)); intro gb101 hg w2 hbox hb; have hx_ := qHX HB hb (by with_reducible repeat (first | refine qbN ?_ _ | refine qbD ?_ | refine qbA ?_ _ | exact Below.refl _ _)); have n0_ := qO (below_step (below_step HB.out hx_) hb); have n1_ := qO (hbox); have n2_ := qO ((by rw [hg]; exact (below_size (below_step HB.out hx_)) : w.heap.size ≤ gb101)); have n3_ := n2_; clear HB; have HB := n0_; have BK101 := n1_; have GW101 := n2_; have GE101 := n3_; clear n0_ n1_ n2_ n3_; clear hx_; clear hb hbox hg) | ((with_reducible refine gate_dst (N := 2) rfl ?_); refine box_event ?hg (N := 2) ?hd (cs := #[.string (⟨#[]⟩ : ByteArray), .bool false]) (t := 57) ?hr ?_; (case hd => rfl); (case hg => rfl); (case hr => first | (go_simp; done) | (go_simp; rfl)); intro gb102 hg w3 hbox hb; have hx_ := qHX HB hb (by with_reducible repeat (first | refine qbN ?_ _ | refine qbD ?_ | refine qbA ?_ _ | exact Below.refl _ _)); have n0_ := qO (qB BK101.out hx_ hb); have n1_ := qO (below_step (below_step HB.out hx_) hb); have n2_ := qO (hbox); have n3_ := qO ((by rw [hg]; exact (below_size (below_step HB.out hx_)) : w.heap.size ≤ gb102)); have n4_ := n3_; have n5_ := qO ((by rw [hg]; exact Nat.ne_of_lt (blk_lt (g := gb101) (o := .cells #[.string a0_0, .bool a0_1] 106 (0, 0)) (by (with_reducible repeat (first | refine qkN ?_ _ | refine qkD ?_ | refine qkA ?_ _)); exact BK101.out)) : gb101 ≠ gb102)); have n6_ := qO (Ne.symm n5_.out); clear BK101; clear HB; have BK101 := n0_; have HB := n1_; have BK102 := n2_; have GW102 := n3_; have GE102 := n4_; have NB101_102 := n5_; have NB102_101 := n6_; clear n0_ n1_ n2_ n3_ n4_ n5_ n6_; clear hx_; clear hb hbox hg) | ((with_reducible refine gate_dst (N := 3) rfl ?_); refine box_event ?hg (N := 3) ?hd (cs := #[.string (⟨#[]⟩ : ByteArray), .bool false]) (t := 57) ?hr ?_; (case hd => rfl); (case hg => rfl); (case hr => first | (go_simp; done) | (go_simp; rfl)); intro gb103 hg w4 hbox hb; have hx_ := qHX HB hb (by with_reducible repeat (first | refine qbN ?_ _ | refine qbD ?_ | refine qbA ?_ _ | exact Below.refl _ _)); have n0_ := qO (qB BK101.out hx_ hb); have n1_ := qO (qB BK102.out hx_ hb); have n2_ := qO (below_step (below_step HB.out hx_) hb); have n3_ := qO (hbox); have n4_ := qO ((by rw [hg]; exact (below_size (below_step HB.out hx_)) : w.heap.size ≤ gb103)); have n5_ := n4_; have n6_ := qO ((by rw [hg]; exact Nat.ne_of_lt (blk_lt (g := gb101) (o := .cells #[.string a0_0, .bool a0_1] 106 (0, 0)) (by (with_reducible repeat (first | refine qkN ?_ _ | refine qkD ?_ | refine qkA ?_ _)); exact BK101.out)) : gb101 ≠ gb103)); have n7_ := qO (Ne.symm n6_.out); have n8_ := qO ((by rw [hg]; exact Nat.ne_of_lt (blk_lt (g := gb102) (o := .cells #[.string (⟨#[]⟩ : ByteArray), .bool false] 57 (0, 0)) (by (with_reducible repeat (first | refine qkN ?_ _ | refine qkD ?_ | refine qkA ?_ _)); exact BK102.out)) : gb102 ≠ gb103)); have n9_ := qO (Ne.symm n8_.out); clear BK101; clear BK102; clear HB; have BK101 := n0_; have BK102 := n1_; have HB := n2_; have BK103 := n3_; have GW103 := n4_; have GE103 := n5_; have NB101_103 := n6_; have NB103_101 := n7_; have NB102_103 := n8_; have NB103_102 := n9_; clear n0_ n1_ n2_ n3_ n4_ n5_ n6_ n7_ n8_ n9_; clear hx_; clear hb hbox hg; have hnb5 := NB101_102.out; have hnc5 := NB102_101.out; have hnb6 := NB101_103.out; have hnc6 := NB103_101.out; have hcz7_0 : w4.cell? ⟨gb101, 0, none⟩ = some (.string a0_0) := (blk_cell BK101.out 0).trans rfl; have hcz7_1 : w4.cell? ⟨gb101, 1, none⟩ = some (.bool a0_1) := (blk_cell BK101.out 1).trans rfl; have hfz7_0 := blk_frozen BK101.out 0; have hfz7_1 := blk_frozen BK101.out 1; have hnb8 := NB103_102.out; have hnc8 := NB102_103.out; have hcz9_0 : w4.cell? ⟨gb103, 0, none⟩ = some (.string (⟨#[]⟩ : ByteArray)) := (blk_cell BK103.out 0).trans rfl; have hcz9_1 : w4.cell? ⟨gb103, 1, none⟩ = some (.bool false) := (blk_cell BK103.out 1).trans rfl; have hfz9_0 := blk_frozen BK103.out 0; have hfz9_1 := blk_frozen BK103.out 1; have hcz10_0 : w4.cell? ⟨gb102, 0, none⟩ = some (.string (⟨#[]⟩ : ByteArray)) := (blk_cell BK102.out 0).trans rfl; have hcz10_1 : w4.cell? ⟨gb102, 1, none⟩ = some (.bool false) := (blk_cell BK102.out 1).trans rfl; have hfz10_0 := blk_frozen BK102.out 0; have hfz10_1 := blk_frozen BK102.out 1))
 refine bodyPost_ret (results_cell_row rfl _ _ gb102 57 #[.string a0_0, .bool a0_1] (0, 0) _ rfl (by (with_reducible repeat (first | refine qkN ?_ _ | refine qkD ?_ | refine qkA ?_ _)); refine blk_put (cs := #[.string a0_0, .bool false]) ?_ 1 _ rfl; (with_reducible repeat (first | refine qkN ?_ _ | refine qkD ?_ | refine qkA ?_ _)); refine blk_put (cs := #[.string (⟨#[]⟩ : ByteArray), .bool false]) ?_ 0 _ rfl; (with_reducible repeat (first | refine qkN ?_ _ | refine qkD ?_ | refine qkA ?_ _)); refine blk_far ?_ NB102_103.out _; (with_reducible repeat (first | refine qkN ?_ _ | refine qkD ?_ | refine qkA ?_ _)); refine blk_far ?_ NB102_103.out _; (with_reducible repeat (first | refine qkN ?_ _ | refine qkD ?_ | refine qkA ?_ _)); exact BK102.out) Try.underlying57 rfl (by kernel_rfl)) rfl ?_
 exact ⟨by first | rfl | (simp [errW_none, errW_some] <;> rfl) | (simp [*, errW_none, errW_some] <;> rfl), by repeat (first | (with_reducible first | exact HB.out | apply qbA | apply qbN | apply qbD | refine qbS ?_ GE101.out | refine qbS ?_ GE102.out | refine qbS ?_ GE103.out) | exact HB.out)⟩

end Go.Proofs.Ytoogmlghfljeiaa.Q
namespace Go.Proofs.Ytoogmlghfljeiaa.Q
open Go.RowKit Go.Proofs.YtoogmlghfljeiaaW.PrintWords Go.Proofs.YtoogmlghfljeiaaW.PrintLast Go.Proofs.YtoogmlghfljeiaaW.PrintMore
attribute [local go_sem] max2_int min2_int max_two min_two max_three min_three max_four min_four
set_option linter.unusedVariables false
set_option linter.unusedSimpArgs false

def laws_toArgDefS.l0 : Nat → List (S106) → List (S57) → Int → Option ((List (S57)))
 | 0, _, _, _ => none
 | k + 1, x0, x3, x4 => if x4 < (x0.length : Int) then (if 0 ≤ x4 then ((laws_toArgDef.f ((rd_T106 x0 x4).f0) ((rd_T106 x0 x4).f1)).bind fun bt105 => (if x4 < (x3.length : Int) then (laws_toArgDefS.l0 k x0 (x3.set (x4 : Int).toNat (⟨bt105.1, bt105.2⟩ : S57)) (wrap64 (x4 + 1))) else (none))) else (none)) else (some x3)
def laws_toArgDefS.f (k : Nat) (l0 : List (S106)) : Option ((List (S57))) := if 0 ≤ (l0.length : Int) then (if ((l0.length : Int) : Int).toNat ≤ 11728124029610 then (laws_toArgDefS.l0 k l0 (List.replicate ((l0.length : Int) : Int).toNat z57) 0) else (none)) else (none)
set_option maxHeartbeats 8000000 in
set_option maxRecDepth 100000 in
theorem laws_toArgDefS.calls (k : Nat) (A0 : Option Addr) (c0 : Nat) (l0 : List (S106)) (r : List (S57)) (w : World) (hr0 : Kd.C k106 w A0 l0.length l0) (hc0 : l0.length ≤ c0) (h : laws_toArgDefS.f k l0 = some r) :
  Calls Try.prog 85 #[.slice A0 l0.length c0] w fun e w' => ∃ v0_ : Value, e = .returned (v0_) ∧ Kd.R k57 57 w' w.heap.size (fun _ => True) v0_ r ∧ Below w.heap.size w w' := by
 have hu106 := Try.underlying106; have hu57 := Try.underlying57; have HR0 := qO hr0; have HC0 := qO hc0; clear hr0 hc0; have HB := qO (Below.refl w.heap.size w); have H : (if 0 ≤ (l0.length : Int) then (if ((l0.length : Int) : Int).toNat ≤ 11728124029610 then (laws_toArgDefS.l0 k l0 (List.replicate ((l0.length : Int) : Int).toNat z57) 0) else (none)) else (none)) = some r := h; clear h
 by_cases c2 : 0 ≤ (l0.length : Int)
 ·rw [if_pos c2] at H
  have c2b0 := eq_true c2; have c2b1 : decide (0 ≤ (l0.length : Int)) = true := decide_eq_true c2; clear c2
  by_cases c3 : ((l0.length : Int) : Int).toNat ≤ 11728124029610
  ·rw [if_pos c3] at H
   have c3b0 := eq_true c3; have c3b1 : decide (((l0.length : Int) : Int).toNat ≤ 11728124029610) = true := decide_eq_true c3; clear c3; obtain ⟨y101, hy101⟩ : ∃ y_ : List (S57), y_ = (List.replicate ((l0.length : Int) : Int).toNat z57) := ⟨_, rfl⟩; replace H : (laws_toArgDefS.l0 k l0 y101 0) = some r := by first | (rw [hy101]; with_reducible exact H) | (have H2_ := (Option.bind_some _ _).symm.trans H; rw [hy101]; with_reducible exact H2_) | (have H2_ := (Option.bind_some _ _).symm.trans H; with_reducible exact H2_) | with_reducible exact H | (rw [hy101]; exact H) | exact H
   have Ny101 := qO hy101; clear hy101; have H' := qO H; clear H
   go_enter Try.func85, Try.ntmps85
   go_wp2_with (first | ((with_reducible refine gate_dst (N := 7) rfl ?_); refine Kd.R_make k57 _ 57 rfl (N := 7) rfl 36 _ _ rfl (l0.length : Int) rfl rfl Try.underlying36 (.agg #[(.string ⟨#[]⟩), (.bool false)]) 24 info57 rfl (by decide) (by omega) z57 (ok := fun _ => True) (okp := fun _ => True) (k57_mkM _ _ _ z57 ) (fun _ hk => hk) trivial (qT (by first | (with_reducible assumption) | assumption)) (Nat.le_trans (Nat.mul_le_mul_right _ (qT (by first | (with_reducible assumption) | assumption) : (l0.length : Int).toNat ≤ 11728124029610)) (by omega)) (Below.refl _ _) (Nat.le_refl _) ?_; intro v102 w4 ho5 hb hg_ hnew_; clear hg_ hnew_; (first | rw [← Ny101.out] at ho5 | (simp only [Int.reduceToNat] at ho5; rw [← Ny101.out] at ho5)); have n0_ := qO (Kd.R_lower ho5 (below_size (by repeat (first | (with_reducible first | exact HB.out | apply qbA | apply qbN | apply qbD) | exact HB.out)))); have n1_ := qO (below_step (by repeat (first | (with_reducible first | exact HB.out | apply qbA | apply qbN | apply qbD) | exact HB.out)) hb); clear HB; have HO103 := n0_; have HB := n1_; clear n0_ n1_; clear hb ho5))
   go_loopg [4] k (fun kq v4 w' => ∃ (x3_1 : List (S57)) (x4_1 : Int), v4 = .int .i64 x4_1 ∧ Aside0 (laws_toArgDefS.l0 kq l0 x3_1 x4_1 = some r) ∧ Aside0 (kq ≤ k) ∧ Aside0 (Kd.R k57 57 w' w.heap.size (fun _ => True) v102 x3_1) ∧ Aside0 (Below w.heap.size w w'))
   case atStart => exact ⟨(y101), (0), (by first | rfl | (simp; done) | (simp [*]; done)), H', ⟨Nat.le_refl _⟩, ⟨by (with_reducible repeat (first | apply Kd.R_alloc | apply Kd.R_drewN | apply Kd.R_drew)); exact HO103.out⟩, ⟨by repeat (first | (with_reducible first | exact HB.out | apply qbA | apply qbN | apply qbD) | exact HB.out)⟩⟩
   case round =>
    clear H'
    try clear c2
    try clear c2b0
    try clear c2b1
    try clear p2
    try clear c3
    try clear c3b0
    try clear c3b1
    obtain ⟨x3_1, x4_1, rfl, HA, HK1, HO_3, HB⟩ := hrel
    cases gk with
    | zero => exact absurd HA.out (by simp [laws_toArgDefS.l0])
    | succ k1 =>
     have H := HA.out; clear HA; simp only [laws_toArgDefS.l0] at H
     by_cases c6 : x4_1 < (l0.length : Int)
     ·rw [if_pos c6] at H
      have c6b0 : decide (x4_1 < (l0.length : Int)) = true := decide_eq_true c6; clear c6
      by_cases c7 : 0 ≤ x4_1
      ·rw [if_pos c7] at H
       have c7b0 : decide (0 ≤ x4_1) = true := decide_eq_true c7; clear c7; replace H := Option.bind_eq_some_iff.mp H; obtain ⟨⟨t105, t106⟩, A80, H⟩ := H; replace H : (if x4_1 < (x3_1.length : Int) then (laws_toArgDefS.l0 k1 l0 (x3_1.set (x4_1 : Int).toNat (⟨t105, t106⟩ : S57)) (wrap64 (x4_1 + 1))) else (none)) = some r := H; have A8 := qO A80; clear A80
       by_cases c9 : x4_1 < (x3_1.length : Int)
       ·rw [if_pos c9] at H
        have c9b0 : decide (x4_1 < (x3_1.length : Int)) = true := decide_eq_true c9; clear c9; obtain ⟨y107, hy107⟩ : ∃ y_ : List (S57), y_ = (x3_1.set (x4_1 : Int).toNat (⟨t105, t106⟩ : S57)) := ⟨_, rfl⟩; replace H : (laws_toArgDefS.l0 k1 l0 y107 (wrap64 (x4_1 + 1))) = some r := by first | (rw [hy107]; with_reducible exact H) | (have H2_ := (Option.bind_some _ _).symm.trans H; rw [hy107]; with_reducible exact H2_) | (have H2_ := (Option.bind_some _ _).symm.trans H; with_reducible exact H2_) | with_reducible exact H | (rw [hy107]; exact H) | exact H
        have Ny107 := qO hy107; clear hy107; have H' := qO H; clear H; have p104 : 0 ≤ (x4_1 : Int) := qT (by first | (with_reducible assumption) | assumption); have q104 : x4_1 < (l0.length : Int) := qT (by first | (with_reducible assumption) | assumption); obtain ⟨ad104, e104, hx104_0, hx104_1⟩ := at_T106 HR0.out x4_1 p104 q104
        cases e104
        replace hx104_0 := (HB.out.cell (qL w _ hx104_0)).trans hx104_0; replace hx104_1 := (HB.out.cell (qL w _ hx104_1)).trans hx104_1; replace p104 := eq_true p104; replace q104 := eq_true q104
        go_wp2_with (first | ((with_reducible refine gate_callee (f := 87) rfl ?_); refine goesL_ (some 20) rfl rfl Try.func87 (by kernel_rfl) rfl #[.agg #[.string ((rd_T106 l0 x4_1).f0), .bool ((rd_T106 l0 x4_1).f1)]] rfl (by (try simp only [List.map_toArray, List.map_cons, List.map_nil]); first | done | rfl | (simp only [List.length_drop, List.length_take]; rfl)) ?_; (with_reducible refine (laws_toArgDef.calls ((rd_T106 l0 x4_1).f0) ((rd_T106 l0 x4_1).f1) t105 t106 _ A8.out).mono ?_); rintro e w11 ⟨rfl, hb⟩; have hx_ := qHX HB hb (by with_reducible repeat (first | refine qbN ?_ _ | refine qbD ?_ | refine qbA ?_ _ | exact Below.refl _ _)); refine ⟨_, rfl, ?_⟩; have n0_ := qO (Kd.R_below (by (with_reducible repeat (first | apply Kd.R_alloc | apply Kd.R_drewN | apply Kd.R_drew)); exact HO_3.out) hb); have n1_ := qO (below_step (below_step HB.out hx_) hb); clear HO_3; clear HB; have HO_3 := n0_; have HB := n1_; clear n0_ n1_; clear hx_; (try clear hb); (try clear hb2); (try clear hk); (try clear hi); have p10 : 0 ≤ (x4_1 : Int) := qT (by first | (with_reducible assumption) | assumption); have q10 : (x4_1 : Int) < ((x3_1.length : Int) : Int) := qT (by first | (with_reducible assumption) | assumption); obtain ⟨go10, co10, eo10, gb10, gl10, cl10, HG10⟩ := Kd.R_form HO_3.out (by omega); (first | cases eo10 | (injection eo10 with ea_ en_ ec_; (first | subst ea_ | (injection ea_ with ea_; subst ea_)); subst ec_; clear en_)); have GB10 := qO gb10; have GG10 := qO HG10; clear gb10 gl10 HG10; obtain ⟨ce10, hcl10, hM10, hcc10, hfr10⟩ := Kd.R_elem HO_3.out z57 (x4_1 : Int) p10 q10; obtain rfl := k57_openM hM10; have hx10_0 : w11.cell? ⟨go10, (x4_1 : Int).toNat * 2, none⟩ = some (.string ((rd_T57 x3_1 x4_1).f0)) := hcc10 0 _ rfl; have hx10_1 : w11.cell? ⟨go10, (x4_1 : Int).toNat * 2 + 1, none⟩ = some (.bool ((rd_T57 x3_1 x4_1).f1)) := hcc10 1 _ rfl; have hf10_0 : w11.frozen? ⟨go10, (x4_1 : Int).toNat * 2, none⟩ = false := hfr10 0; have hf10_1 : w11.frozen? ⟨go10, (x4_1 : Int).toNat * 2 + 1, none⟩ = false := hfr10 1; clear hcl10 hcc10 hfr10; (try clear hM10); replace p10 := eq_true p10; replace q10 := eq_true q10; have HX12 := qO (show Kd.R k57 57 w11 w.heap.size (fun _ => True) (.slice (some ⟨go10, 0, none⟩) x3_1.length co10) x3_1 from (by (with_reducible repeat (first | apply Kd.R_alloc | apply Kd.R_drewN | apply Kd.R_drew)); exact HO_3.out)); obtain ⟨ce12, hcl12, hM12, hcc12, hfr12⟩ := Kd.R_elem HX12.out z57 (x4_1 : Int) (qT (by first | (with_reducible assumption) | assumption)) (by have h_ : (x4_1 : Int) < ((x3_1.length : Int) : Int) := qT (by first | (with_reducible assumption) | assumption); first | exact h_ | (have e_ := (Kd.R_reads' HO_3.out).1; omega) | simpa using h_); obtain rfl := k57_openM hM12; have HP12 := Kd.R_seg HX12.out (x4_1 : Int) (qT (by first | (with_reducible assumption) | assumption)) (by have h_ : (x4_1 : Int) < ((x3_1.length : Int) : Int) := qT (by first | (with_reducible assumption) | assumption); first | exact h_ | (have e_ := (Kd.R_reads' HO_3.out).1; omega) | simpa using h_) (seg := [.string t105, .bool t106]) (j := 0) hcl12 hcc12 (show 2 ≤ 2 from by decide) (x' := (⟨t105, t106⟩ : S57)) (k57_mkM _ _ _ (⟨t105, t106⟩ : S57) ) (fun _ hk => hk); have hx12_0 := hcc12 0 _ rfl; (try simp only [show (k57).sz = 2 from rfl, Nat.mul_one, Nat.add_zero] at hx12_0); have hf12_0 := hfr12 0; (try simp only [show (k57).sz = 2 from rfl, Nat.mul_one, Nat.add_zero] at hf12_0); have hx12_1 := hcc12 1 _ rfl; (try simp only [show (k57).sz = 2 from rfl, Nat.mul_one, Nat.add_zero] at hx12_1); have hf12_1 := hfr12 1; (try simp only [show (k57).sz = 2 from rfl, Nat.mul_one, Nat.add_zero] at hf12_1); clear hcl12 hcc12 hfr12; (try clear hM12)) | ((with_reducible refine gate_store (t := 57) (p := 21) rfl ?_); refine store_event (t := 57) (p := 21) (v := ?vo_w13) (w1 := ((w11.setCell ⟨go10, (x4_1 : Int).toNat * 2, none⟩ (.string t105)).setCell ⟨go10, (x4_1 : Int).toNat * 2 + 1, none⟩ (.bool t106))) ?hg ?ho ?hn ?hr ?_; (case ho => rfl); (case hg => rfl); (case hn => rfl); (case hr => first | (go_simp; done) | (go_simp; rfl)); intro w13 hw; have hg : w11.grownBy w13 (some go10) := (by rw [hw]; exact HP12.2); have hp_ : Kd.R k57 57 w13 w.heap.size (fun _ => True) (.slice (some ⟨go10, 0, none⟩) x3_1.length co10) y107 := (by rw [hw, Ny107.out]; exact HP12.1); clear HP12; have n0_ := qO (hp_); have n1_ := qO ((by rw [hw]; exact qbS (qbS (HB.out) GB10.out) GB10.out : Below w.heap.size w w13)); clear HO_3; clear HB; have HO_3 := n0_; have HB := n1_; clear n0_ n1_; clear hg hw hp_))
        go_roundg k1
        case measure => have := HK1.out; omega
        case rel => exact ⟨(y107), (wrap64 (x4_1 + 1)), (by first | rfl | (simp; done) | (simp [*]; done)), H', ⟨by have := HK1.out; omega⟩, ⟨by (with_reducible repeat (first | apply Kd.R_alloc | apply Kd.R_drewN | apply Kd.R_drew)); exact HO_3.out⟩, ⟨by repeat (first | (with_reducible first | exact HB.out | apply qbA | apply qbN | apply qbD) | exact HB.out)⟩⟩
       ·rw [if_neg c9] at H
        exact absurd H (by simp)
      ·rw [if_neg c7] at H
       exact absurd H (by simp)
     ·rw [if_neg c6] at H
      have c6b0 : decide (x4_1 < (l0.length : Int)) = false := decide_eq_false c6; clear c6; obtain rfl := Option.some.inj H; go_wp2
      go_ret
      exact ⟨_, by first | rfl | (simp [errW_none, errW_some] <;> rfl) | (simp [*, errW_none, errW_some] <;> rfl), by (with_reducible repeat (first | apply Kd.R_alloc | apply Kd.R_drewN | apply Kd.R_drew)); exact HO_3.out, by repeat (first | (with_reducible first | exact HB.out | apply qbA | apply qbN | apply qbD) | exact HB.out)⟩
  ·rw [if_neg c3] at H
   exact absurd H (by simp)
 ·rw [if_neg c2] at H
  exact absurd H (by simp)

end Go.Proofs.Ytoogmlghfljeiaa.Q
namespace Go.Proofs.Ytoogmlghfljeiaa.Q
open Go.RowKit Go.Proofs.YtoogmlghfljeiaaW.PrintWords Go.Proofs.YtoogmlghfljeiaaW.PrintLast Go.Proofs.YtoogmlghfljeiaaW.PrintMore
attribute [local go_sem] max2_int min2_int max_two min_two max_three min_three max_four min_four
set_option linter.unusedVariables false
set_option linter.unusedSimpArgs false

def laws_toFieldDef.f (k : Nat) (a0_0 : ByteArray) (l0_1 : List (S106)) (a0_2 : ByteArray) (a0_3 : Bool) (a0_4 : Bool) : Option (ByteArray × (List (S57)) × ByteArray × Bool × Bool) := (laws_toArgDefS.f k l0_1).bind fun t104 => (some (a0_0, t104, a0_2, a0_3, a0_4))
set_option maxHeartbeats 8000000 in
set_option maxRecDepth 100000 in
theorem laws_toFieldDef.calls (k : Nat) (a0_0 : ByteArray) (A0_1 : Option Addr) (c0_1 : Nat) (l0_1 : List (S106)) (a0_2 : ByteArray) (a0_3 : Bool) (a0_4 : Bool) (r1 : ByteArray) (r2 : List (S57)) (r3 : ByteArray) (r4 : Bool) (r5 : Bool) (w : World) (hr0_1 : Kd.C k106 w A0_1 l0_1.length l0_1) (hc0_1 : l0_1.length ≤ c0_1) (h : laws_toFieldDef.f k a0_0 l0_1 a0_2 a0_3 a0_4 = some (r1, r2, r3, r4, r5)) :
  Calls Try.prog 83 #[.agg #[.string a0_0, .slice A0_1 l0_1.length c0_1, .string a0_2, .bool a0_3, .bool a0_4]] w fun e w' => ∃ v1_ : Value, e = .returned (.agg #[.string r1, v1_, .string r3, .bool r4, .bool r5]) ∧ Kd.R k57 57 w' w.heap.size (fun _ => True) v1_ r2 ∧ Below w.heap.size w w' := by
 have hu101 := Try.underlying101; have hu38 := Try.underlying38; have HR0_1 := qO hr0_1; have HC0_1 := qO hc0_1; clear hr0_1 hc0_1; have HB := qO (Below.refl w.heap.size w); have H : ((laws_toArgDefS.f k l0_1).bind fun t104 => (some (a0_0, t104, a0_2, a0_3, a0_4))) = some (r1, r2, r3, r4, r5) := h; clear h; replace H := Option.bind_eq_some_iff.mp H; obtain ⟨t104, A20, H⟩ := H; replace H : (some (a0_0, t104, a0_2, a0_3, a0_4)) = some (r1, r2, r3, r4, r5) := H; have A2 := qO A20; clear A20; simp only [Option.some.injEq, Prod.mk.injEq] at H; obtain ⟨rfl, rfl, rfl, rfl, rfl⟩ := H
 go_enter Try.func83, Try.ntmps83
 go_wp2_with (first | ((with_reducible refine gate_dst (N := 1) rfl ?_); refine box_event ?hg (N := 1) ?hd (cs := #[.string a0_0, .slice A0_1 l0_1.length c0_1, .string a0_2, .bool a0_3, .bool a0_4]) (t := 101) ?hr ?_; (case hd => rfl); (case hg => rfl); (case hr => first | (go_simp; done) | (go_simp; rfl)); intro gb101 hg w3 hbox hb; have hx_ := qHX HB hb (by with_reducible repeat (first | refine qbN ?_ _ | refine qbD ?_ | refine qbA ?_ _ | exact Below.refl _ _)); have n0_ := qO (below_step (below_step HB.out hx_) hb); have n1_ := qO (hbox); have n2_ := qO ((by rw [hg]; exact (below_size (below_step HB.out hx_)) : w.heap.size ≤ gb101)); have n3_ := n2_; clear HB; have HB := n0_; have BK101 := n1_; have GW101 := n2_; have GE101 := n3_; clear n0_ n1_ n2_ n3_; clear hx_; clear hb hbox hg) | ((with_reducible refine gate_dst (N := 2) rfl ?_); refine box_event ?hg (N := 2) ?hd (cs := #[.string (⟨#[]⟩ : ByteArray), .slice none 0 0, .string (⟨#[]⟩ : ByteArray), .bool false, .bool false]) (t := 38) ?hr ?_; (case hd => rfl); (case hg => rfl); (case hr => first | (go_simp; done) | (go_simp; rfl)); intro gb102 hg w4 hbox hb; have hx_ := qHX HB hb (by with_reducible repeat (first | refine qbN ?_ _ | refine qbD ?_ | refine qbA ?_ _ | exact Below.refl _ _)); have n0_ := qO (qB BK101.out hx_ hb); have n1_ := qO (below_step (below_step HB.out hx_) hb); have n2_ := qO (hbox); have n3_ := qO ((by rw [hg]; exact (below_size (below_step HB.out hx_)) : w.heap.size ≤ gb102)); have n4_ := n3_; have n5_ := qO ((by rw [hg]; exact Nat.ne_of_lt (blk_lt (g := gb101) (o := .cells #[.string a0_0, .slice A0_1 l0_1.length c0_1, .string a0_2, .bool a0_3, .bool a0_4] 101 (0, 0)) (by (with_reducible repeat (first | refine qkN ?_ _ | refine qkD ?_ | refine qkA ?_ _)); exact BK101.out)) : gb101 ≠ gb102)); have n6_ := qO (Ne.symm n5_.out); clear BK101; clear HB; have BK101 := n0_; have HB := n1_; have BK102 := n2_; have GW102 := n3_; have GE102 := n4_; have NB101_102 := n5_; have NB102_101 := n6_; clear n0_ n1_ n2_ n3_ n4_ n5_ n6_; clear hx_; clear hb hbox hg) | ((with_reducible refine gate_dst (N := 3) rfl ?_); refine box_event ?hg (N := 3) ?hd (cs := #[.string (⟨#[]⟩ : ByteArray), .slice none 0 0, .string (⟨#[]⟩ : ByteArray), .bool false, .bool false]) (t := 38) ?hr ?_; (case hd => rfl); (case hg => rfl); (case hr => first | (go_simp; done) | (go_simp; rfl)); intro gb103 hg w5 hbox hb; have hx_ := qHX HB hb (by with_reducible repeat (first | refine qbN ?_ _ | refine qbD ?_ | refine qbA ?_ _ | exact Below.refl _ _)); have n0_ := qO (qB BK101.out hx_ hb); have n1_ := qO (qB BK102.out hx_ hb); have n2_ := qO (below_step (below_step HB.out hx_) hb); have n3_ := qO (hbox); have n4_ := qO ((by rw [hg]; exact (below_size (below_step HB.out hx_)) : w.heap.size ≤ gb103)); have n5_ := n4_; have n6_ := qO ((by rw [hg]; exact Nat.ne_of_lt (blk_lt (g := gb101) (o := .cells #[.string a0_0, .slice A0_1 l0_1.length c0_1, .string a0_2, .bool a0_3, .bool a0_4] 101 (0, 0)) (by (with_reducible repeat (first | refine qkN ?_ _ | refine qkD ?_ | refine qkA ?_ _)); exact BK101.out)) : gb101 ≠ gb103)); have n7_ := qO (Ne.symm n6_.out); have n8_ := qO ((by rw [hg]; exact Nat.ne_of_lt (blk_lt (g := gb102) (o := .cells #[.string (⟨#[]⟩ : ByteArray), .slice none 0 0, .string (⟨#[]⟩ : ByteArray), .bool false, .bool false] 38 (0, 0)) (by (with_reducible repeat (first | refine qkN ?_ _ | refine qkD ?_ | refine qkA ?_ _)); exact BK102.out)) : gb102 ≠ gb103)); have n9_ := qO (Ne.symm n8_.out); clear BK101; clear BK102; clear HB; have BK101 := n0_; have BK102 := n1_; have HB := n2_; have BK103 := n3_; have GW103 := n4_; have GE103 := n5_; have NB101_103 := n6_; have NB103_101 := n7_; have NB102_103 := n8_; have NB103_102 := n9_; clear n0_ n1_ n2_ n3_ n4_ n5_ n6_ n7_ n8_ n9_; clear hx_; clear hb hbox hg; have hnb6 := NB101_102.out; have hnc6 := NB102_101.out; have hnb7 := NB101_103.out; have hnc7 := NB103_101.out; have hcz8_0 : w5.cell? ⟨gb101, 0, none⟩ = some (.string a0_0) := (blk_cell BK101.out 0).trans rfl; have hcz8_1 : w5.cell? ⟨gb101, 1, none⟩ = some (.slice A0_1 l0_1.length c0_1) := (blk_cell BK101.out 1).trans rfl; have hcz8_2 : w5.cell? ⟨gb101, 2, none⟩ = some (.string a0_2) := (blk_cell BK101.out 2).trans rfl; have hcz8_3 : w5.cell? ⟨gb101, 3, none⟩ = some (.bool a0_3) := (blk_cell BK101.out 3).trans rfl; have hcz8_4 : w5.cell? ⟨gb101, 4, none⟩ = some (.bool a0_4) := (blk_cell BK101.out 4).trans rfl; have hfz8_0 := blk_frozen BK101.out 0; have hfz8_1 := blk_frozen BK101.out 1; have hfz8_2 := blk_frozen BK101.out 2; have hfz8_3 := blk_frozen BK101.out 3; have hfz8_4 := blk_frozen BK101.out 4; have hnb9 := NB103_102.out; have hnc9 := NB102_103.out; have hcz10_0 : w5.cell? ⟨gb103, 0, none⟩ = some (.string (⟨#[]⟩ : ByteArray)) := (blk_cell BK103.out 0).trans rfl; have hcz10_1 : w5.cell? ⟨gb103, 1, none⟩ = some (.slice none 0 0) := (blk_cell BK103.out 1).trans rfl; have hcz10_2 : w5.cell? ⟨gb103, 2, none⟩ = some (.string (⟨#[]⟩ : ByteArray)) := (blk_cell BK103.out 2).trans rfl; have hcz10_3 : w5.cell? ⟨gb103, 3, none⟩ = some (.bool false) := (blk_cell BK103.out 3).trans rfl; have hcz10_4 : w5.cell? ⟨gb103, 4, none⟩ = some (.bool false) := (blk_cell BK103.out 4).trans rfl; have hfz10_0 := blk_frozen BK103.out 0; have hfz10_1 := blk_frozen BK103.out 1; have hfz10_2 := blk_frozen BK103.out 2; have hfz10_3 := blk_frozen BK103.out 3; have hfz10_4 := blk_frozen BK103.out 4) | ((with_reducible refine gate_callee (f := 85) rfl ?_); refine goesL_ (some 9) rfl rfl Try.func85 (by kernel_rfl) rfl #[.slice A0_1 l0_1.length c0_1] rfl (by (try simp only [List.map_toArray, List.map_cons, List.map_nil]); first | done | rfl | (simp only [List.length_drop, List.length_take]; rfl)) ?_; (with_reducible refine (laws_toArgDefS.calls k _ _ l0_1 t104 _ ?side1 ?side2 A2.out).mono ?_); (case side1 => exact Kd.C_below HR0_1.out (by repeat (first | (with_reducible first | exact HB.out | apply qbA | apply qbN | apply qbD | refine qbS ?_ GE101.out | refine qbS ?_ GE102.out | refine qbS ?_ GE103.out) | exact HB.out))); (case side2 => exact HC0_1.out); rintro e w11 ⟨v105, rfl, ho0, hb⟩; refine ⟨_, rfl, ?_⟩; have n0_ := qO (Kd.R_lower ho0 (below_size (by repeat (first | (with_reducible first | exact HB.out | apply qbA | apply qbN | apply qbD | refine qbS ?_ GE101.out | refine qbS ?_ GE102.out | refine qbS ?_ GE103.out) | exact HB.out)))); have n1_ := qO (blk_below (g := gb101) (o := .cells #[.string a0_0, .slice A0_1 l0_1.length c0_1, .string a0_2, .bool a0_3, .bool a0_4] 101 (0, 0)) (by (with_reducible repeat (first | refine qkN ?_ _ | refine qkD ?_ | refine qkA ?_ _)); refine blk_far ?_ NB101_103.out _; (with_reducible repeat (first | refine qkN ?_ _ | refine qkD ?_ | refine qkA ?_ _)); exact BK101.out) hb); have n2_ := qO (blk_below (g := gb102) (o := .cells #[.string (⟨#[]⟩ : ByteArray), .slice none 0 0, .string (⟨#[]⟩ : ByteArray), .bool false, .bool false] 38 (0, 0)) (by (with_reducible repeat (first | refine qkN ?_ _ | refine qkD ?_ | refine qkA ?_ _)); refine blk_far ?_ NB102_103.out _; (with_reducible repeat (first | refine qkN ?_ _ | refine qkD ?_ | refine qkA ?_ _)); exact BK102.out) hb); have n3_ := qO (blk_below (g := gb103) (o := .cells #[.string a0_0, .slice none 0 0, .string (⟨#[]⟩ : ByteArray), .bool false, .bool false] 38 (0, 0)) (by (with_reducible repeat (first | refine qkN ?_ _ | refine qkD ?_ | refine qkA ?_ _)); refine blk_put (cs := #[.string (⟨#[]⟩ : ByteArray), .slice none 0 0, .string (⟨#[]⟩ : ByteArray), .bool false, .bool false]) ?_ 0 _ rfl; (with_reducible repeat (first | refine qkN ?_ _ | refine qkD ?_ | refine qkA ?_ _)); exact BK103.out) hb); have n4_ := qO (below_step (by repeat (first | (with_reducible first | exact HB.out | apply qbA | apply qbN | apply qbD | refine qbS ?_ GE101.out | refine qbS ?_ GE102.out | refine qbS ?_ GE103.out) | exact HB.out)) hb); clear BK101; clear BK102; clear BK103; clear HB; have HO106 := n0_; have BK101 := n1_; have BK102 := n2_; have BK103 := n3_; have HB := n4_; clear n0_ n1_ n2_ n3_ n4_; (try clear hb); (try clear hb2); (try clear hk); (try clear hi); (try clear ho0); obtain ⟨Ao12, co12, eo12⟩ := Kd.R_slice HO106.out; subst eo12; have hcz13_0 : w11.cell? ⟨gb103, 0, none⟩ = some (.string a0_0) := (blk_cell BK103.out 0).trans rfl; have hcz13_1 : w11.cell? ⟨gb103, 1, none⟩ = some (.slice none 0 0) := (blk_cell BK103.out 1).trans rfl; have hcz13_2 : w11.cell? ⟨gb103, 2, none⟩ = some (.string (⟨#[]⟩ : ByteArray)) := (blk_cell BK103.out 2).trans rfl; have hcz13_3 : w11.cell? ⟨gb103, 3, none⟩ = some (.bool false) := (blk_cell BK103.out 3).trans rfl; have hcz13_4 : w11.cell? ⟨gb103, 4, none⟩ = some (.bool false) := (blk_cell BK103.out 4).trans rfl; have hfz13_0 := blk_frozen BK103.out 0; have hfz13_1 := blk_frozen BK103.out 1; have hfz13_2 := blk_frozen BK103.out 2; have hfz13_3 := blk_frozen BK103.out 3; have hfz13_4 := blk_frozen BK103.out 4; have hcz14_0 : w11.cell? ⟨gb101, 0, none⟩ = some (.string a0_0) := (blk_cell BK101.out 0).trans rfl; have hcz14_1 : w11.cell? ⟨gb101, 1, none⟩ = some (.slice A0_1 l0_1.length c0_1) := (blk_cell BK101.out 1).trans rfl; have hcz14_2 : w11.cell? ⟨gb101, 2, none⟩ = some (.string a0_2) := (blk_cell BK101.out 2).trans rfl; have hcz14_3 : w11.cell? ⟨gb101, 3, none⟩ = some (.bool a0_3) := (blk_cell BK101.out 3).trans rfl; have hcz14_4 : w11.cell? ⟨gb101, 4, none⟩ = some (.bool a0_4) := (blk_cell BK101.out 4).trans rfl; have hfz14_0 := blk_frozen BK101.out 0; have hfz14_1 := blk_frozen BK101.out 1; have hfz14_2 := blk_frozen BK101.out 2; have hfz14_3 := blk_frozen BK101.out 3; have hfz14_4 := blk_frozen BK101.out 4; have hcz15_0 : w11.cell? ⟨gb102, 0, none⟩ = some (.string (⟨#[]⟩ : ByteArray)) := (blk_cell BK102.out 0).trans rfl; have hcz15_1 : w11.cell? ⟨gb102, 1, none⟩ = some (.slice none 0 0) := (blk_cell BK102.out 1).trans rfl; have hcz15_2 : w11.cell? ⟨gb102, 2, none⟩ = some (.string (⟨#[]⟩ : ByteArray)) := (blk_cell BK102.out 2).trans rfl; have hcz15_3 : w11.cell? ⟨gb102, 3, none⟩ = some (.bool false) := (blk_cell BK102.out 3).trans rfl; have hcz15_4 : w11.cell? ⟨gb102, 4, none⟩ = some (.bool false) := (blk_cell BK102.out 4).trans rfl; have hfz15_0 := blk_frozen BK102.out 0; have hfz15_1 := blk_frozen BK102.out 1; have hfz15_2 := blk_frozen BK102.out 2; have hfz15_3 := blk_frozen BK102.out 3; have hfz15_4 := blk_frozen BK102.out 4))
 refine bodyPost_ret (results_cell_row rfl _ _ gb102 38 #[.string a0_0, .slice Ao12 t104.length co12, .string a0_2, .bool a0_3, .bool a0_4] (0, 0) _ rfl (by (with_reducible repeat (first | refine qkN ?_ _ | refine qkD ?_ | refine qkA ?_ _)); refine blk_put (cs := #[.string a0_0, .slice Ao12 t104.length co12, .string a0_2, .bool a0_3, .bool false]) ?_ 4 _ rfl; (with_reducible repeat (first | refine qkN ?_ _ | refine qkD ?_ | refine qkA ?_ _)); refine blk_put (cs := #[.string a0_0, .slice Ao12 t104.length co12, .string a0_2, .bool false, .bool false]) ?_ 3 _ rfl; (with_reducible repeat (first | refine qkN ?_ _ | refine qkD ?_ | refine qkA ?_ _)); refine blk_put (cs := #[.string a0_0, .slice Ao12 t104.length co12, .string (⟨#[]⟩ : ByteArray), .bool false, .bool false]) ?_ 2 _ rfl; (with_reducible repeat (first | refine qkN ?_ _ | refine qkD ?_ | refine qkA ?_ _)); refine blk_put (cs := #[.string a0_0, .slice none 0 0, .string (⟨#[]⟩ : ByteArray), .bool false, .bool false]) ?_ 1 _ rfl; (with_reducible repeat (first | refine qkN ?_ _ | refine qkD ?_ | refine qkA ?_ _)); refine blk_put (cs := #[.string (⟨#[]⟩ : ByteArray), .slice none 0 0, .string (⟨#[]⟩ : ByteArray), .bool false, .bool false]) ?_ 0 _ rfl; (with_reducible repeat (first | refine qkN ?_ _ | refine qkD ?_ | refine qkA ?_ _)); refine blk_far ?_ NB102_103.out _; (with_reducible repeat (first | refine qkN ?_ _ | refine qkD ?_ | refine qkA ?_ _)); refine blk_far ?_ NB102_103.out _; (with_reducible repeat (first | refine qkN ?_ _ | refine qkD ?_ | refine qkA ?_ _)); refine blk_far ?_ NB102_103.out _; (with_reducible repeat (first | refine qkN ?_ _ | refine qkD ?_ | refine qkA ?_ _)); refine blk_far ?_ NB102_103.out _; (with_reducible repeat (first | refine qkN ?_ _ | refine qkD ?_ | refine qkA ?_ _)); exact BK102.out) Try.underlying38 rfl (by kernel_rfl)) rfl ?_
 exact ⟨_, by first | rfl | (simp [errW_none, errW_some] <;> rfl) | (simp [*, errW_none, errW_some] <;> rfl), by (with_reducible repeat (first | apply Kd.R_alloc | apply Kd.R_drewN | apply Kd.R_drew)); exact Kd.R_mono (Kd.R_far (p := ⟨gb102, 4, none⟩) (Kd.R_far (p := ⟨gb102, 3, none⟩) (Kd.R_far (p := ⟨gb102, 2, none⟩) (Kd.R_far (p := ⟨gb102, 1, none⟩) (Kd.R_far (p := ⟨gb102, 0, none⟩) (Kd.R_far (p := ⟨gb103, 4, none⟩) (Kd.R_far (p := ⟨gb103, 3, none⟩) (Kd.R_far (p := ⟨gb103, 2, none⟩) (Kd.R_far (p := ⟨gb103, 1, none⟩) (Kd.R_types (Kd.R_types HO106.out BK103.out (by decide)) BK102.out (by decide)) (fun _ hk => hk.1.2) (.slice Ao12 t104.length co12)) (fun _ hk => hk.1.2) (.string a0_2)) (fun _ hk => hk.1.2) (.bool a0_3)) (fun _ hk => hk.1.2) (.bool a0_4)) (fun _ hk => hk.2) (.string a0_0)) (fun _ hk => hk.2) (.slice Ao12 t104.length co12)) (fun _ hk => hk.2) (.string a0_2)) (fun _ hk => hk.2) (.bool a0_3)) (fun _ hk => hk.2) (.bool a0_4)) (fun _ hk => trivial), by repeat (first | (with_reducible first | exact HB.out | apply qbA | apply qbN | apply qbD | refine qbS ?_ GE101.out | refine qbS ?_ GE102.out | refine qbS ?_ GE103.out) | exact HB.out)⟩

end Go.Proofs.Ytoogmlghfljeiaa.Q
namespace Go.Proofs.Ytoogmlghfljeiaa.Q
open Go.RowKit Go.Proofs.YtoogmlghfljeiaaW.PrintWords Go.Proofs.YtoogmlghfljeiaaW.PrintLast Go.Proofs.YtoogmlghfljeiaaW.PrintMore
attribute [local go_sem] max2_int min2_int max_two min_two max_three min_three max_four min_four
set_option linter.unusedVariables false
set_option linter.unusedSimpArgs false

def laws_toFieldDefS.l0 : Nat → List (S101) → List (S38) → Int → Option ((List (S38)))
 | 0, _, _, _ => none
 | k + 1, x0, x3, x4 => if x4 < (x0.length : Int) then (if 0 ≤ x4 then ((laws_toFieldDef.f k ((rd_T101 x0 x4).f0) ((rd_T101 x0 x4).f1) ((rd_T101 x0 x4).f2) ((rd_T101 x0 x4).f3) ((rd_T101 x0 x4).f4)).bind fun bt105 => (if x4 < (x3.length : Int) then (laws_toFieldDefS.l0 k x0 (x3.set (x4 : Int).toNat (⟨bt105.1, bt105.2.1, bt105.2.2.1, bt105.2.2.2.1, bt105.2.2.2.2⟩ : S38)) (wrap64 (x4 + 1))) else (none))) else (none)) else (some x3)
def laws_toFieldDefS.f (k : Nat) (l0 : List (S101)) : Option ((List (S38))) := if 0 ≤ (l0.length : Int) then (if ((l0.length : Int) : Int).toNat ≤ 4398046511104 then (laws_toFieldDefS.l0 k l0 (List.replicate ((l0.length : Int) : Int).toNat z38) 0) else (none)) else (none)
set_option maxHeartbeats 8000000 in
set_option maxRecDepth 100000 in
theorem laws_toFieldDefS.calls (k : Nat) (A0 : Option Addr) (c0 : Nat) (l0 : List (S101)) (r : List (S38)) (w : World) (hr0 : Kd.C k101 w A0 l0.length l0) (hc0 : l0.length ≤ c0) (h : laws_toFieldDefS.f k l0 = some r) :
  Calls Try.prog 77 #[.slice A0 l0.length c0] w fun e w' => ∃ v0_ : Value, e = .returned (v0_) ∧ Kd.S k38 38 w' w.heap.size (fun _ => True) v0_ r ∧ Below w.heap.size w w' := by
 have hu101 := Try.underlying101; have hu38 := Try.underlying38; have HR0 := qO hr0; have HC0 := qO hc0; clear hr0 hc0; have HB := qO (Below.refl w.heap.size w); have H : (if 0 ≤ (l0.length : Int) then (if ((l0.length : Int) : Int).toNat ≤ 4398046511104 then (laws_toFieldDefS.l0 k l0 (List.replicate ((l0.length : Int) : Int).toNat z38) 0) else (none)) else (none)) = some r := h; clear h
 by_cases c2 : 0 ≤ (l0.length : Int)
 ·rw [if_pos c2] at H
  have c2b0 := eq_true c2; have c2b1 : decide (0 ≤ (l0.length : Int)) = true := decide_eq_true c2; clear c2
  by_cases c3 : ((l0.length : Int) : Int).toNat ≤ 4398046511104
  ·rw [if_pos c3] at H
   have c3b0 := eq_true c3; have c3b1 : decide (((l0.length : Int) : Int).toNat ≤ 4398046511104) = true := decide_eq_true c3; clear c3; obtain ⟨y101, hy101⟩ : ∃ y_ : List (S38), y_ = (List.replicate ((l0.length : Int) : Int).toNat z38) := ⟨_, rfl⟩; replace H : (laws_toFieldDefS.l0 k l0 y101 0) = some r := by first | (rw [hy101]; with_reducible exact H) | (have H2_ := (Option.bind_some _ _).symm.trans H; rw [hy101]; with_reducible exact H2_) | (have H2_ := (Option.bind_some _ _).symm.trans H; with_reducible exact H2_) | with_reducible exact H | (rw [hy101]; exact H) | exact H
   have Ny101 := qO hy101; clear hy101; have H' := qO H; clear H
   go_enter Try.func77, Try.ntmps77
   go_wp2_with (first | ((with_reducible refine gate_dst (N := 7) rfl ?_); refine Kd.S_make k38 _ 38 rfl (N := 7) rfl 51 _ _ rfl (l0.length : Int) rfl rfl Try.underlying51 (.agg #[(.string ⟨#[]⟩), (.slice none 0 0), (.string ⟨#[]⟩), (.bool false), (.bool false)]) 64 info38 rfl (by decide) (by omega) z38 (ok := fun _ => True) (okp := fun _ => True) (k38_mkM _ _ _ z38 (Kd.R_nil _ _ _ _ _)) (fun _ hk => hk) trivial (qT (by first | (with_reducible assumption) | assumption)) (Nat.le_trans (Nat.mul_le_mul_right _ (qT (by first | (with_reducible assumption) | assumption) : (l0.length : Int).toNat ≤ 4398046511104)) (by omega)) (Below.refl _ _) (Nat.le_refl _) ?_; intro v102 w4 ho5 hb hg_ hnew_; clear hg_ hnew_; (first | rw [← Ny101.out] at ho5 | (simp only [Int.reduceToNat] at ho5; rw [← Ny101.out] at ho5)); have n0_ := qO (Kd.S_lower ho5 (below_size (by repeat (first | (with_reducible first | exact HB.out | apply qbA | apply qbN | apply qbD) | exact HB.out)))); have n1_ := qO (below_step (by repeat (first | (with_reducible first | exact HB.out | apply qbA | apply qbN | apply qbD) | exact HB.out)) hb); clear HB; have HO103 := n0_; have HB := n1_; clear n0_ n1_; clear hb ho5))
   go_loopg [4] k (fun kq v4 w' => ∃ (x3_1 : List (S38)) (x4_1 : Int), v4 = .int .i64 x4_1 ∧ Aside0 (laws_toFieldDefS.l0 kq l0 x3_1 x4_1 = some r) ∧ Aside0 (kq ≤ k) ∧ Aside0 (Kd.S k38 38 w' w.heap.size (fun _ => True) v102 x3_1) ∧ Aside0 (Below w.heap.size w w'))
   case atStart => exact ⟨(y101), (0), (by first | rfl | (simp; done) | (simp [*]; done)), H', ⟨Nat.le_refl _⟩, ⟨by (with_reducible repeat (first | apply Kd.S_alloc | apply Kd.S_drewN | apply Kd.S_drew)); exact HO103.out⟩, ⟨by repeat (first | (with_reducible first | exact HB.out | apply qbA | apply qbN | apply qbD) | exact HB.out)⟩⟩
   case round =>
    clear H'
    try clear c2
    try clear c2b0
    try clear c2b1
    try clear p2
    try clear c3
    try clear c3b0
    try clear c3b1
    obtain ⟨x3_1, x4_1, rfl, HA, HK1, HO_3, HB⟩ := hrel
    cases gk with
    | zero => exact absurd HA.out (by simp [laws_toFieldDefS.l0])
    | succ k1 =>
     have H := HA.out; clear HA; simp only [laws_toFieldDefS.l0] at H
     by_cases c6 : x4_1 < (l0.length : Int)
     ·rw [if_pos c6] at H
      have c6b0 : decide (x4_1 < (l0.length : Int)) = true := decide_eq_true c6; clear c6
      by_cases c7 : 0 ≤ x4_1
      ·rw [if_pos c7] at H
       have c7b0 : decide (0 ≤ x4_1) = true := decide_eq_true c7; clear c7; replace H := Option.bind_eq_some_iff.mp H; obtain ⟨⟨t105, t106, t109, t110, t111⟩, A80, H⟩ := H; replace H : (if x4_1 < (x3_1.length : Int) then (laws_toFieldDefS.l0 k1 l0 (x3_1.set (x4_1 : Int).toNat (⟨t105, t106, t109, t110, t111⟩ : S38)) (wrap64 (x4_1 + 1))) else (none)) = some r := H; have A8 := qO A80; clear A80
       by_cases c9 : x4_1 < (x3_1.length : Int)
       ·rw [if_pos c9] at H
        have c9b0 : decide (x4_1 < (x3_1.length : Int)) = true := decide_eq_true c9; clear c9; obtain ⟨y112, hy112⟩ : ∃ y_ : List (S38), y_ = (x3_1.set (x4_1 : Int).toNat (⟨t105, t106, t109, t110, t111⟩ : S38)) := ⟨_, rfl⟩; replace H : (laws_toFieldDefS.l0 k1 l0 y112 (wrap64 (x4_1 + 1))) = some r := by first | (rw [hy112]; with_reducible exact H) | (have H2_ := (Option.bind_some _ _).symm.trans H; rw [hy112]; with_reducible exact H2_) | (have H2_ := (Option.bind_some _ _).symm.trans H; with_reducible exact H2_) | with_reducible exact H | (rw [hy112]; exact H) | exact H
        have Ny112 := qO hy112; clear hy112; have H' := qO H; clear H; have p104 : 0 ≤ (x4_1 : Int) := qT (by first | (with_reducible assumption) | assumption); have q104 : x4_1 < (l0.length : Int) := qT (by first | (with_reducible assumption) | assumption); obtain ⟨ad104, A104_1, c104_1, e104, hx104_0, hx104_1, hx104_2, hx104_3, hx104_4, hl104_1, hi104_1⟩ := at_T101 HR0.out x4_1 p104 q104
        cases e104
        replace hx104_0 := (HB.out.cell (qL w _ hx104_0)).trans hx104_0; replace hx104_1 := (HB.out.cell (qL w _ hx104_1)).trans hx104_1; replace hx104_2 := (HB.out.cell (qL w _ hx104_2)).trans hx104_2; replace hx104_3 := (HB.out.cell (qL w _ hx104_3)).trans hx104_3; replace hx104_4 := (HB.out.cell (qL w _ hx104_4)).trans hx104_4; have HR104_1 := qO hi104_1; have HC104_1 := qO hl104_1; clear hi104_1 hl104_1; replace p104 := eq_true p104; replace q104 := eq_true q104
        go_wp2_with (first | ((with_reducible refine gate_callee (f := 83) rfl ?_); refine goesL_ (some 20) rfl rfl Try.func83 (by kernel_rfl) rfl #[.agg #[.string ((rd_T101 l0 x4_1).f0), .slice A104_1 ((rd_T101 l0 x4_1).f1).length c104_1, .string ((rd_T101 l0 x4_1).f2), .bool ((rd_T101 l0 x4_1).f3), .bool ((rd_T101 l0 x4_1).f4)]] rfl (by (try simp only [List.map_toArray, List.map_cons, List.map_nil]); first | done | rfl | (simp only [List.length_drop, List.length_take]; rfl)) ?_; (with_reducible refine (laws_toFieldDef.calls k1 ((rd_T101 l0 x4_1).f0) _ _ ((rd_T101 l0 x4_1).f1) ((rd_T101 l0 x4_1).f2) ((rd_T101 l0 x4_1).f3) ((rd_T101 l0 x4_1).f4) t105 t106 t109 t110 t111 _ ?side1 ?side2 A8.out).mono ?_); (case side1 => repeat (first | exact (Kd.C_below HR104_1.out HB.out) | with_reducible first | refine Kd.C_alloc ?_ _ | refine Kd.C_drewN ?_ _ | refine Kd.C_drew ?_)); (case side2 => exact HC104_1.out); rintro e w11 ⟨v107, rfl, ho0, hb⟩; have hx_ := qHX HB hb (by with_reducible repeat (first | refine qbN ?_ _ | refine qbD ?_ | refine qbA ?_ _ | exact Below.refl _ _)); refine ⟨_, rfl, ?_⟩; have n0_ := qO (Kd.S_elder' (by (with_reducible repeat (first | apply Kd.S_alloc | apply Kd.S_drewN | apply Kd.S_drew)); exact HO_3.out) (Kd.R_base ho0) hb); have n1_ := qO (Kd.R_lower ho0 (below_size (below_step HB.out hx_))); have n2_ := qO (below_step (below_step HB.out hx_) hb); clear HO_3; clear HB; have HO_3 := n0_; have HO108 := n1_; have HB := n2_; clear n0_ n1_ n2_; clear hx_; (try clear hb); (try clear hb2); (try clear hk); (try clear hi); (try clear ho0); have p10 : 0 ≤ (x4_1 : Int) := qT (by first | (with_reducible assumption) | assumption); have q10 : (x4_1 : Int) < ((x3_1.length : Int) : Int) := qT (by first | (with_reducible assumption) | assumption); obtain ⟨go10, co10, eo10, gb10, gl10, cl10, HG10⟩ := Kd.S_form HO_3.out (by omega); (first | cases eo10 | (injection eo10 with ea_ en_ ec_; (first | subst ea_ | (injection ea_ with ea_; subst ea_)); subst ec_; clear en_)); have GB10 := qO gb10; have GG10 := qO HG10; clear gb10 gl10 HG10; obtain ⟨_, ce10, hcl10, hM10, hcc10, hfr10, _, _⟩ := Kd.S_elem HO_3.out z38 (x4_1 : Int) p10 q10; obtain ⟨ve10_1, rfl, ge10_1⟩ := k38_openM hM10; have hx10_0 : w11.cell? ⟨go10, (x4_1 : Int).toNat * 5, none⟩ = some (.string ((rd_T38 x3_1 x4_1).f0)) := hcc10 0 _ rfl; have hx10_1 : w11.cell? ⟨go10, (x4_1 : Int).toNat * 5 + 1, none⟩ = some (ve10_1) := hcc10 1 _ rfl; have hx10_2 : w11.cell? ⟨go10, (x4_1 : Int).toNat * 5 + 2, none⟩ = some (.string ((rd_T38 x3_1 x4_1).f2)) := hcc10 2 _ rfl; have hx10_3 : w11.cell? ⟨go10, (x4_1 : Int).toNat * 5 + 3, none⟩ = some (.bool ((rd_T38 x3_1 x4_1).f3)) := hcc10 3 _ rfl; have hx10_4 : w11.cell? ⟨go10, (x4_1 : Int).toNat * 5 + 4, none⟩ = some (.bool ((rd_T38 x3_1 x4_1).f4)) := hcc10 4 _ rfl; have hf10_0 : w11.frozen? ⟨go10, (x4_1 : Int).toNat * 5, none⟩ = false := hfr10 0; have hf10_1 : w11.frozen? ⟨go10, (x4_1 : Int).toNat * 5 + 1, none⟩ = false := hfr10 1; have hf10_2 : w11.frozen? ⟨go10, (x4_1 : Int).toNat * 5 + 2, none⟩ = false := hfr10 2; have hf10_3 : w11.frozen? ⟨go10, (x4_1 : Int).toNat * 5 + 3, none⟩ = false := hfr10 3; have hf10_4 : w11.frozen? ⟨go10, (x4_1 : Int).toNat * 5 + 4, none⟩ = false := hfr10 4; clear hcl10 hcc10 hfr10; (try clear hM10); replace p10 := eq_true p10; replace q10 := eq_true q10; have n_ := qO (Kd.S_mono (ok' := (fun k_ => some k_ ≠ (v107 : Value).ownBlock)) HO_3.out (fun k_ hk => hk.2)); clear HO_3; have HO_3 := n_; clear n_; have HX12 := qO (show Kd.S k38 38 w11 w.heap.size (fun k_ => ((fun _ => True)) k_ ∧ ¬ ((fun k_ => some k_ = (v107 : Value).ownBlock)) k_) (.slice (some ⟨go10, 0, none⟩) x3_1.length co10) x3_1 from (by (with_reducible repeat (first | apply Kd.S_alloc | apply Kd.S_drewN | apply Kd.S_drew)); exact Kd.S_mono HO_3.out (fun k_ hk => ⟨trivial, fun e_ => hk e_⟩))); obtain ⟨oki12, ce12, hcl12, hM12, hcc12, hfr12, hoki12, hH12⟩ := Kd.S_elem HX12.out z38 (x4_1 : Int) (qT (by first | (with_reducible assumption) | assumption)) (by have h_ : (x4_1 : Int) < ((x3_1.length : Int) : Int) := qT (by first | (with_reducible assumption) | assumption); first | exact h_ | (have e_ := (Kd.S_reads' HO_3.out).1; omega) | simpa using h_); obtain ⟨ve12_1, rfl, ge12_1⟩ := k38_openM hM12; have HP12 := Kd.S_seg hH12 (qT (by first | (with_reducible assumption) | assumption)) (by have h_ : (x4_1 : Int) < ((x3_1.length : Int) : Int) := qT (by first | (with_reducible assumption) | assumption); first | exact h_ | (have e_ := (Kd.S_reads' HO_3.out).1; omega) | simpa using h_) (seg := [.string t105, v107, .string t109, .bool t110, .bool t111]) (j := 0) (show 5 ≤ 5 from by decide) (x' := (⟨t105, t106, t109, t110, t111⟩ : S38)) (k38_mkM _ _ _ (⟨t105, t106, t109, t110, t111⟩ : S38) (Kd.R_mono (Kd.R_tight rfl (Kd.R_mono (ok' := fun k_ => ((fun _ => True)) k_ ∧ k_ ≠ go10) (Kd.R_apart' (HO108.out) (Kd.S_typed HO_3.out) (by decide)) (fun k_ hk => ⟨trivial, fun e_ => (hk.2) (by rw [e_]; rfl)⟩))) (fun _ h_ => Or.inr (h_)))) (fun _ hk => hk) (fun k_ hk_ => ((Kd.R_mono (ok' := fun k_ => ((fun _ => True)) k_ ∧ k_ ≠ go10) (Kd.R_apart' (HO108.out) (Kd.S_typed HO_3.out) (by decide)) (fun k_ hk => ⟨trivial, fun e_ => (hk.2) (by rw [e_]; rfl)⟩))).1 k_ hk_.symm); have hx12_0 := hcc12 0 _ rfl; (try simp only [show (k38).sz = 5 from rfl, Nat.mul_one, Nat.add_zero] at hx12_0); have hf12_0 := hfr12 0; (try simp only [show (k38).sz = 5 from rfl, Nat.mul_one, Nat.add_zero] at hf12_0); have hx12_1 := hcc12 1 _ rfl; (try simp only [show (k38).sz = 5 from rfl, Nat.mul_one, Nat.add_zero] at hx12_1); have hf12_1 := hfr12 1; (try simp only [show (k38).sz = 5 from rfl, Nat.mul_one, Nat.add_zero] at hf12_1); have hx12_2 := hcc12 2 _ rfl; (try simp only [show (k38).sz = 5 from rfl, Nat.mul_one, Nat.add_zero] at hx12_2); have hf12_2 := hfr12 2; (try simp only [show (k38).sz = 5 from rfl, Nat.mul_one, Nat.add_zero] at hf12_2); have hx12_3 := hcc12 3 _ rfl; (try simp only [show (k38).sz = 5 from rfl, Nat.mul_one, Nat.add_zero] at hx12_3); have hf12_3 := hfr12 3; (try simp only [show (k38).sz = 5 from rfl, Nat.mul_one, Nat.add_zero] at hf12_3); have hx12_4 := hcc12 4 _ rfl; (try simp only [show (k38).sz = 5 from rfl, Nat.mul_one, Nat.add_zero] at hx12_4); have hf12_4 := hfr12 4; (try simp only [show (k38).sz = 5 from rfl, Nat.mul_one, Nat.add_zero] at hf12_4); clear hcl12 hcc12 hfr12; (try clear hM12); clear hoki12 hH12) | ((with_reducible refine gate_store (t := 38) (p := 21) rfl ?_); refine store_event (t := 38) (p := 21) (v := ?vo_w13) (w1 := (((((w11.setCell ⟨go10, (x4_1 : Int).toNat * 5, none⟩ (.string t105)).setCell ⟨go10, (x4_1 : Int).toNat * 5 + 1, none⟩ (v107)).setCell ⟨go10, (x4_1 : Int).toNat * 5 + 2, none⟩ (.string t109)).setCell ⟨go10, (x4_1 : Int).toNat * 5 + 3, none⟩ (.bool t110)).setCell ⟨go10, (x4_1 : Int).toNat * 5 + 4, none⟩ (.bool t111))) ?hg ?ho ?hn ?hr ?_; (case ho => rfl); (case hg => rfl); (case hn => rfl); (case hr => obtain ⟨Av0_, cv0_, ev0_⟩ := Kd.R_slice HO108.out; rw [ev0_]; first | (go_simp; done) | (go_simp; rfl)); intro w13 hw; have hg : w11.grownBy w13 (some go10) := (by rw [hw]; exact HP12.2); have hp_ : Kd.S k38 38 w13 w.heap.size (fun _ => True) (.slice (some ⟨go10, 0, none⟩) x3_1.length co10) y112 := (by rw [hw, Ny112.out]; exact HP12.1); clear HP12; have n0_ := qO (hp_); have n1_ := qO ((by rw [hw]; exact qbS (qbS (qbS (qbS (qbS (HB.out) GB10.out) GB10.out) GB10.out) GB10.out) GB10.out : Below w.heap.size w w13)); clear HO_3; clear HB; clear HO108; have HO_3 := n0_; have HB := n1_; clear n0_ n1_; clear hg hw hp_))
        go_roundg k1
        case measure => have := HK1.out; omega
        case rel => exact ⟨(y112), (wrap64 (x4_1 + 1)), (by first | rfl | (simp; done) | (simp [*]; done)), H', ⟨by have := HK1.out; omega⟩, ⟨by (with_reducible repeat (first | apply Kd.S_alloc | apply Kd.S_drewN | apply Kd.S_drew)); exact HO_3.out⟩, ⟨by repeat (first | (with_reducible first | exact HB.out | apply qbA | apply qbN | apply qbD) | exact HB.out)⟩⟩
       ·rw [if_neg c9] at H
        exact absurd H (by simp)
      ·rw [if_neg c7] at H
       exact absurd H (by simp)
     ·rw [if_neg c6] at H
      have c6b0 : decide (x4_1 < (l0.length : Int)) = false := decide_eq_false c6; clear c6; obtain rfl := Option.some.inj H; go_wp2
      go_ret
      exact ⟨_, by first | rfl | (simp [errW_none, errW_some] <;> rfl) | (simp [*, errW_none, errW_some] <;> rfl), by (with_reducible repeat (first | apply Kd.S_alloc | apply Kd.S_drewN | apply Kd.S_drew)); exact HO_3.out, by repeat (first | (with_reducible first | exact HB.out | apply qbA | apply qbN | apply qbD) | exact HB.out)⟩
  ·rw [if_neg c3] at H
   exact absurd H (by simp)
 ·rw [if_neg c2] at H
  exact absurd H (by simp)

end Go.Proofs.Ytoogmlghfljeiaa.Q
namespace Go.Proofs.Ytoogmlghfljeiaa.Q
open Go.RowKit Go.Proofs.YtoogmlghfljeiaaW.PrintWords Go.Proofs.YtoogmlghfljeiaaW.PrintLast Go.Proofs.YtoogmlghfljeiaaW.PrintMore
attribute [local go_sem] max2_int min2_int max_two min_two max_three min_three max_four min_four
set_option linter.unusedVariables false
set_option linter.unusedSimpArgs false

def laws_toTypeDef.f (k : Nat) (a0_0 : ByteArray) (l0_1 : List (S101)) : Option (ByteArray × (List (S38))) := (laws_toFieldDefS.f k l0_1).bind fun t104 => (some (a0_0, t104))
set_option maxHeartbeats 8000000 in
set_option maxRecDepth 100000 in
theorem laws_toTypeDef.calls (k : Nat) (a0_0 : ByteArray) (A0_1 : Option Addr) (c0_1 : Nat) (l0_1 : List (S101)) (r1 : ByteArray) (r2 : List (S38)) (w : World) (hr0_1 : Kd.C k101 w A0_1 l0_1.length l0_1) (hc0_1 : l0_1.length ≤ c0_1) (h : laws_toTypeDef.f k a0_0 l0_1 = some (r1, r2)) :
  Calls Try.prog 56 #[.agg #[.string a0_0, .slice A0_1 l0_1.length c0_1]] w fun e w' => ∃ v1_ : Value, e = .returned (.agg #[.string r1, v1_]) ∧ Kd.S k38 38 w' w.heap.size (fun _ => True) v1_ r2 ∧ Below w.heap.size w w' := by
 have hu77 := Try.underlying77; have hu53 := Try.underlying53; have HR0_1 := qO hr0_1; have HC0_1 := qO hc0_1; clear hr0_1 hc0_1; have HB := qO (Below.refl w.heap.size w); have H : ((laws_toFieldDefS.f k l0_1).bind fun t104 => (some (a0_0, t104))) = some (r1, r2) := h; clear h; replace H := Option.bind_eq_some_iff.mp H; obtain ⟨t104, A20, H⟩ := H; replace H : (some (a0_0, t104)) = some (r1, r2) := H; have A2 := qO A20; clear A20; simp only [Option.some.injEq, Prod.mk.injEq] at H; obtain ⟨rfl, rfl⟩ := H
 go_enter Try.func56, Try.ntmps56
 go_wp2_with (first | ((with_reducible refine gate_dst (N := 1) rfl ?_); refine box_event ?hg (N := 1) ?hd (cs := #[.string a0_0, .slice A0_1 l0_1.length c0_1]) (t := 77) ?hr ?_; (case hd => rfl); (case hg => rfl); (case hr => first | (go_simp; done) | (go_simp; rfl)); intro gb101 hg w3 hbox hb; have hx_ := qHX HB hb (by with_reducible repeat (first | refine qbN ?_ _ | refine qbD ?_ | refine qbA ?_ _ | exact Below.refl _ _)); have n0_ := qO (below_step (below_step HB.out hx_) hb); have n1_ := qO (hbox); have n2_ := qO ((by rw [hg]; exact (below_size (below_step HB.out hx_)) : w.heap.size ≤ gb101)); have n3_ := n2_; clear HB; have HB := n0_; have BK101 := n1_; have GW101 := n2_; have GE101 := n3_; clear n0_ n1_ n2_ n3_; clear hx_; clear hb hbox hg) | ((with_reducible refine gate_dst (N := 2) rfl ?_); refine box_event ?hg (N := 2) ?hd (cs := #[.string (⟨#[]⟩ : ByteArray), .slice none 0 0]) (t := 53) ?hr ?_; (case hd => rfl); (case hg => rfl); (case hr => first | (go_simp; done) | (go_simp; rfl)); intro gb102 hg w4 hbox hb; have hx_ := qHX HB hb (by with_reducible repeat (first | refine qbN ?_ _ | refine qbD ?_ | refine qbA ?_ _ | exact Below.refl _ _)); have n0_ := qO (qB BK101.out hx_ hb); have n1_ := qO (below_step (below_step HB.out hx_) hb); have n2_ := qO (hbox); have n3_ := qO ((by rw [hg]; exact (below_size (below_step HB.out hx_)) : w.heap.size ≤ gb102)); have n4_ := n3_; have n5_ := qO ((by rw [hg]; exact Nat.ne_of_lt (blk_lt (g := gb101) (o := .cells #[.string a0_0, .slice A0_1 l0_1.length c0_1] 77 (0, 0)) (by (with_reducible repeat (first | refine qkN ?_ _ | refine qkD ?_ | refine qkA ?_ _)); exact BK101.out)) : gb101 ≠ gb102)); have n6_ := qO (Ne.symm n5_.out); clear BK101; clear HB; have BK101 := n0_; have HB := n1_; have BK102 := n2_; have GW102 := n3_; have GE102 := n4_; have NB101_102 := n5_; have NB102_101 := n6_; clear n0_ n1_ n2_ n3_ n4_ n5_ n6_; clear hx_; clear hb hbox hg) | ((with_reducible refine gate_dst (N := 3) rfl ?_); refine box_event ?hg (N := 3) ?hd (cs := #[.string (⟨#[]⟩ : ByteArray), .slice none 0 0]) (t := 53) ?hr ?_; (case hd => rfl); (case hg => rfl); (case hr => first | (go_simp; done) | (go_simp; rfl)); intro gb103 hg w5 hbox hb; have hx_ := qHX HB hb (by with_reducible repeat (first | refine qbN ?_ _ | refine qbD ?_ | refine qbA ?_ _ | exact Below.refl _ _)); have n0_ := qO (qB BK101.out hx_ hb); have n1_ := qO (qB BK102.out hx_ hb); have n2_ := qO (below_step (below_step HB.out hx_) hb); have n3_ := qO (hbox); have n4_ := qO ((by rw [hg]; exact (below_size (below_step HB.out hx_)) : w.heap.size ≤ gb103)); have n5_ := n4_; have n6_ := qO ((by rw [hg]; exact Nat.ne_of_lt (blk_lt (g := gb101) (o := .cells #[.string a0_0, .slice A0_1 l0_1.length c0_1] 77 (0, 0)) (by (with_reducible repeat (first | refine qkN ?_ _ | refine qkD ?_ | refine qkA ?_ _)); exact BK101.out)) : gb101 ≠ gb103)); have n7_ := qO (Ne.symm n6_.out); have n8_ := qO ((by rw [hg]; exact Nat.ne_of_lt (blk_lt (g := gb102) (o := .cells #[.string (⟨#[]⟩ : ByteArray), .slice none 0 0] 53 (0, 0)) (by (with_reducible repeat (first | refine qkN ?_ _ | refine qkD ?_ | refine qkA ?_ _)); exact BK102.out)) : gb102 ≠ gb103)); have n9_ := qO (Ne.symm n8_.out); clear BK101; clear BK102; clear HB; have BK101 := n0_; have BK102 := n1_; have HB := n2_; have BK103 := n3_; have GW103 := n4_; have GE103 := n5_; have NB101_103 := n6_; have NB103_101 := n7_; have NB102_103 := n8_; have NB103_102 := n9_; clear n0_ n1_ n2_ n3_ n4_ n5_ n6_ n7_ n8_ n9_; clear hx_; clear hb hbox hg; have hnb6 := NB101_102.out; have hnc6 := NB102_101.out; have hnb7 := NB101_103.out; have hnc7 := NB103_101.out; have hcz8_0 : w5.cell? ⟨gb101, 0, none⟩ = some (.string a0_0) := (blk_cell BK101.out 0).trans rfl; have hcz8_1 : w5.cell? ⟨gb101, 1, none⟩ = some (.slice A0_1 l0_1.length c0_1) := (blk_cell BK101.out 1).trans rfl; have hfz8_0 := blk_frozen BK101.out 0; have hfz8_1 := blk_frozen BK101.out 1; have hnb9 := NB103_102.out; have hnc9 := NB102_103.out; have hcz10_0 : w5.cell? ⟨gb103, 0, none⟩ = some (.string (⟨#[]⟩ : ByteArray)) := (blk_cell BK103.out 0).trans rfl; have hcz10_1 : w5.cell? ⟨gb103, 1, none⟩ = some (.slice none 0 0) := (blk_cell BK103.out 1).trans rfl; have hfz10_0 := blk_frozen BK103.out 0; have hfz10_1 := blk_frozen BK103.out 1) | ((with_reducible refine gate_callee (f := 77) rfl ?_); refine goesL_ (some 9) rfl rfl Try.func77 (by kernel_rfl) rfl #[.slice A0_1 l0_1.length c0_1] rfl (by (try simp only [List.map_toArray, List.map_cons, List.map_nil]); first | done | rfl | (simp only [List.length_drop, List.length_take]; rfl)) ?_; (with_reducible refine (laws_toFieldDefS.calls k _ _ l0_1 t104 _ ?side1 ?side2 A2.out).mono ?_); (case side1 => exact Kd.C_below HR0_1.out (by repeat (first | (with_reducible first | exact HB.out | apply qbA | apply qbN | apply qbD | refine qbS ?_ GE101.out | refine qbS ?_ GE102.out | refine qbS ?_ GE103.out) | exact HB.out))); (case side2 => exact HC0_1.out); rintro e w11 ⟨v105, rfl, ho0, hb⟩; refine ⟨_, rfl, ?_⟩; have n0_ := qO (Kd.S_lower ho0 (below_size (by repeat (first | (with_reducible first | exact HB.out | apply qbA | apply qbN | apply qbD | refine qbS ?_ GE101.out | refine qbS ?_ GE102.out | refine qbS ?_ GE103.out) | exact HB.out)))); have n1_ := qO (blk_below (g := gb101) (o := .cells #[.string a0_0, .slice A0_1 l0_1.length c0_1] 77 (0, 0)) (by (with_reducible repeat (first | refine qkN ?_ _ | refine qkD ?_ | refine qkA ?_ _)); refine blk_far ?_ NB101_103.out _; (with_reducible repeat (first | refine qkN ?_ _ | refine qkD ?_ | refine qkA ?_ _)); exact BK101.out) hb); have n2_ := qO (blk_below (g := gb102) (o := .cells #[.string (⟨#[]⟩ : ByteArray), .slice none 0 0] 53 (0, 0)) (by (with_reducible repeat (first | refine qkN ?_ _ | refine qkD ?_ | refine qkA ?_ _)); refine blk_far ?_ NB102_103.out _; (with_reducible repeat (first | refine qkN ?_ _ | refine qkD ?_ | refine qkA ?_ _)); exact BK102.out) hb); have n3_ := qO (blk_below (g := gb103) (o := .cells #[.string a0_0, .slice none 0 0] 53 (0, 0)) (by (with_reducible repeat (first | refine qkN ?_ _ | refine qkD ?_ | refine qkA ?_ _)); refine blk_put (cs := #[.string (⟨#[]⟩ : ByteArray), .slice none 0 0]) ?_ 0 _ rfl; (with_reducible repeat (first | refine qkN ?_ _ | refine qkD ?_ | refine qkA ?_ _)); exact BK103.out) hb); have n4_ := qO (below_step (by repeat (first | (with_reducible first | exact HB.out | apply qbA | apply qbN | apply qbD | refine qbS ?_ GE101.out | refine qbS ?_ GE102.out | refine qbS ?_ GE103.out) | exact HB.out)) hb); clear BK101; clear BK102; clear BK103; clear HB; have HO106 := n0_; have BK101 := n1_; have BK102 := n2_; have BK103 := n3_; have HB := n4_; clear n0_ n1_ n2_ n3_ n4_; (try clear hb); (try clear hb2); (try clear hk); (try clear hi); (try clear ho0); obtain ⟨Ao12, co12, eo12⟩ := Kd.S_slice HO106.out; subst eo12; have hcz13_0 : w11.cell? ⟨gb103, 0, none⟩ = some (.string a0_0) := (blk_cell BK103.out 0).trans rfl; have hcz13_1 : w11.cell? ⟨gb103, 1, none⟩ = some (.slice none 0 0) := (blk_cell BK103.out 1).trans rfl; have hfz13_0 := blk_frozen BK103.out 0; have hfz13_1 := blk_frozen BK103.out 1; have hcz14_0 : w11.cell? ⟨gb102, 0, none⟩ = some (.string (⟨#[]⟩ : ByteArray)) := (blk_cell BK102.out 0).trans rfl; have hcz14_1 : w11.cell? ⟨gb102, 1, none⟩ = some (.slice none 0 0) := (blk_cell BK102.out 1).trans rfl; have hfz14_0 := blk_frozen BK102.out 0; have hfz14_1 := blk_frozen BK102.out 1))
 refine bodyPost_ret (results_cell_row rfl _ _ gb102 53 #[.string a0_0, .slice Ao12 t104.length co12] (0, 0) _ rfl (by (with_reducible repeat (first | refine qkN ?_ _ | refine qkD ?_ | refine qkA ?_ _)); refine blk_put (cs := #[.string a0_0, .slice none 0 0]) ?_ 1 _ rfl; (with_reducible repeat (first | refine qkN ?_ _ | refine qkD ?_ | refine qkA ?_ _)); refine blk_put (cs := #[.string (⟨#[]⟩ : ByteArray), .slice none 0 0]) ?_ 0 _ rfl; (with_reducible repeat (first | refine qkN ?_ _ | refine qkD ?_ | refine qkA ?_ _)); refine blk_far ?_ NB102_103.out _; (with_reducible repeat (first | refine qkN ?_ _ | refine qkD ?_ | refine qkA ?_ _)); exact BK102.out) Try.underlying53 rfl (by kernel_rfl)) rfl ?_
 exact ⟨_, by first | rfl | (simp [errW_none, errW_some] <;> rfl) | (simp [*, errW_none, errW_some] <;> rfl), by (with_reducible repeat (first | apply Kd.S_alloc | apply Kd.S_drewN | apply Kd.S_drew)); exact Kd.S_mono (Kd.S_far (p := ⟨gb102, 1, none⟩) (Kd.S_far (p := ⟨gb102, 0, none⟩) (Kd.S_far (p := ⟨gb103, 1, none⟩) (Kd.S_types (Kd.S_types HO106.out BK103.out (by decide)) BK102.out (by decide)) (fun _ hk => hk.1.2) (.slice Ao12 t104.length co12)) (fun _ hk => hk.2) (.string a0_0)) (fun _ hk => hk.2) (.slice Ao12 t104.length co12)) (fun _ hk => trivial), by repeat (first | (with_reducible first | exact HB.out | apply qbA | apply qbN | apply qbD | refine qbS ?_ GE101.out | refine qbS ?_ GE102.out | refine qbS ?_ GE103.out) | exact HB.out)⟩

end Go.Proofs.Ytoogmlghfljeiaa.Q
namespace Go.Proofs.Ytoogmlghfljeiaa.Q
open Go.RowKit Go.Proofs.YtoogmlghfljeiaaW.PrintWords Go.Proofs.YtoogmlghfljeiaaW.PrintLast Go.Proofs.YtoogmlghfljeiaaW.PrintMore
attribute [local go_sem] max2_int min2_int max_two min_two max_three min_three max_four min_four
set_option linter.unusedVariables false
set_option linter.unusedSimpArgs false

def laws_toTypeDefS.l0 : Nat → List (S77) → List (S53) → Int → Option ((List (S53)))
 | 0, _, _, _ => none
 | k + 1, x0, x3, x4 => if x4 < (x0.length : Int) then (if 0 ≤ x4 then ((laws_toTypeDef.f k ((rd_T77 x0 x4).f0) ((rd_T77 x0 x4).f1)).bind fun bt105 => (if x4 < (x3.length : Int) then (laws_toTypeDefS.l0 k x0 (x3.set (x4 : Int).toNat (⟨bt105.1, bt105.2⟩ : S53)) (wrap64 (x4 + 1))) else (none))) else (none)) else (some x3)
def laws_toTypeDefS.f (k : Nat) (l0 : List (S77)) : Option ((List (S53))) := if 0 ≤ (l0.length : Int) then (if ((l0.length : Int) : Int).toNat ≤ 7036874417766 then (laws_toTypeDefS.l0 k l0 (List.replicate ((l0.length : Int) : Int).toNat z53) 0) else (none)) else (none)
set_option maxHeartbeats 8000000 in
set_option maxRecDepth 100000 in
theorem laws_toTypeDefS.calls (k : Nat) (A0 : Option Addr) (c0 : Nat) (l0 : List (S77)) (r : List (S53)) (w : World) (hr0 : Kd.C k77 w A0 l0.length l0) (hc0 : l0.length ≤ c0) (h : laws_toTypeDefS.f k l0 = some r) :
  Calls Try.prog 32 #[.slice A0 l0.length c0] w fun e w' => ∃ v0_ : Value, e = .returned (v0_) ∧ Kd.R k53 53 w' w.heap.size (fun _ => True) v0_ r ∧ Below w.heap.size w w' := by
 have hu77 := Try.underlying77; have hu53 := Try.underlying53; have HR0 := qO hr0; have HC0 := qO hc0; clear hr0 hc0; have HB := qO (Below.refl w.heap.size w); have H : (if 0 ≤ (l0.length : Int) then (if ((l0.length : Int) : Int).toNat ≤ 7036874417766 then (laws_toTypeDefS.l0 k l0 (List.replicate ((l0.length : Int) : Int).toNat z53) 0) else (none)) else (none)) = some r := h; clear h
 by_cases c2 : 0 ≤ (l0.length : Int)
 ·rw [if_pos c2] at H
  have c2b0 := eq_true c2; have c2b1 : decide (0 ≤ (l0.length : Int)) = true := decide_eq_true c2; clear c2
  by_cases c3 : ((l0.length : Int) : Int).toNat ≤ 7036874417766
  ·rw [if_pos c3] at H
   have c3b0 := eq_true c3; have c3b1 : decide (((l0.length : Int) : Int).toNat ≤ 7036874417766) = true := decide_eq_true c3; clear c3; obtain ⟨y101, hy101⟩ : ∃ y_ : List (S53), y_ = (List.replicate ((l0.length : Int) : Int).toNat z53) := ⟨_, rfl⟩; replace H : (laws_toTypeDefS.l0 k l0 y101 0) = some r := by first | (rw [hy101]; with_reducible exact H) | (have H2_ := (Option.bind_some _ _).symm.trans H; rw [hy101]; with_reducible exact H2_) | (have H2_ := (Option.bind_some _ _).symm.trans H; with_reducible exact H2_) | with_reducible exact H | (rw [hy101]; exact H) | exact H
   have Ny101 := qO hy101; clear hy101; have H' := qO H; clear H
   go_enter Try.func32, Try.ntmps32
   go_wp2_with (first | ((with_reducible refine gate_dst (N := 7) rfl ?_); refine Kd.R_make k53 _ 53 rfl (N := 7) rfl 27 _ _ rfl (l0.length : Int) rfl rfl Try.underlying27 (.agg #[(.string ⟨#[]⟩), (.slice none 0 0)]) 40 info53 rfl (by decide) (by omega) z53 (ok := fun _ => True) (okp := fun _ => True) (k53_mkM _ _ _ z53 (Kd.R_nil _ _ _ _ _)) (fun _ hk => hk) trivial (qT (by first | (with_reducible assumption) | assumption)) (Nat.le_trans (Nat.mul_le_mul_right _ (qT (by first | (with_reducible assumption) | assumption) : (l0.length : Int).toNat ≤ 7036874417766)) (by omega)) (Below.refl _ _) (Nat.le_refl _) ?_; intro v102 w4 ho5 hb hg_ hnew_; clear hg_ hnew_; (first | rw [← Ny101.out] at ho5 | (simp only [Int.reduceToNat] at ho5; rw [← Ny101.out] at ho5)); have n0_ := qO (Kd.R_lower ho5 (below_size (by repeat (first | (with_reducible first | exact HB.out | apply qbA | apply qbN | apply qbD) | exact HB.out)))); have n1_ := qO (below_step (by repeat (first | (with_reducible first | exact HB.out | apply qbA | apply qbN | apply qbD) | exact HB.out)) hb); clear HB; have HO103 := n0_; have HB := n1_; clear n0_ n1_; clear hb ho5))
   go_loopg [4] k (fun kq v4 w' => ∃ (x3_1 : List (S53)) (x4_1 : Int), v4 = .int .i64 x4_1 ∧ Aside0 (laws_toTypeDefS.l0 kq l0 x3_1 x4_1 = some r) ∧ Aside0 (kq ≤ k) ∧ Aside0 (Kd.R k53 53 w' w.heap.size (fun _ => True) v102 x3_1) ∧ Aside0 (Below w.heap.size w w'))
   case atStart => exact ⟨(y101), (0), (by first | rfl | (simp; done) | (simp [*]; done)), H', ⟨Nat.le_refl _⟩, ⟨by (with_reducible repeat (first | apply Kd.R_alloc | apply Kd.R_drewN | apply Kd.R_drew)); exact HO103.out⟩, ⟨by repeat (first | (with_reducible first | exact HB.out | apply qbA | apply qbN | apply qbD) | exact HB.out)⟩⟩
   case round =>
    clear H'
    try clear c2
    try clear c2b0
    try clear c2b1
    try clear p2
    try clear c3
    try clear c3b0
    try clear c3b1
    obtain ⟨x3_1, x4_1, rfl, HA, HK1, HO_3, HB⟩ := hrel
    cases gk with
    | zero => exact absurd HA.out (by simp [laws_toTypeDefS.l0])
    | succ k1 =>
     have H := HA.out; clear HA; simp only [laws_toTypeDefS.l0] at H
     by_cases c6 : x4_1 < (l0.length : Int)
     ·rw [if_pos c6] at H
      have c6b0 : decide (x4_1 < (l0.length : Int)) = true := decide_eq_true c6; clear c6
      by_cases c7 : 0 ≤ x4_1
      ·rw [if_pos c7] at H
       have c7b0 : decide (0 ≤ x4_1) = true := decide_eq_true c7; clear c7; replace H := Option.bind_eq_some_iff.mp H; obtain ⟨⟨t105, t106⟩, A80, H⟩ := H; replace H : (if x4_1 < (x3_1.length : Int) then (laws_toTypeDefS.l0 k1 l0 (x3_1.set (x4_1 : Int).toNat (⟨t105, t106⟩ : S53)) (wrap64 (x4_1 + 1))) else (none)) = some r := H; have A8 := qO A80; clear A80
       by_cases c9 : x4_1 < (x3_1.length : Int)
       ·rw [if_pos c9] at H
        have c9b0 : decide (x4_1 < (x3_1.length : Int)) = true := decide_eq_true c9; clear c9; obtain ⟨y109, hy109⟩ : ∃ y_ : List (S53), y_ = (x3_1.set (x4_1 : Int).toNat (⟨t105, t106⟩ : S53)) := ⟨_, rfl⟩; replace H : (laws_toTypeDefS.l0 k1 l0 y109 (wrap64 (x4_1 + 1))) = some r := by first | (rw [hy109]; with_reducible exact H) | (have H2_ := (Option.bind_some _ _).symm.trans H; rw [hy109]; with_reducible exact H2_) | (have H2_ := (Option.bind_some _ _).symm.trans H; with_reducible exact H2_) | with_reducible exact H | (rw [hy109]; exact H) | exact H
        have Ny109 := qO hy109; clear hy109; have H' := qO H; clear H; have p104 : 0 ≤ (x4_1 : Int) := qT (by first | (with_reducible assumption) | assumption); have q104 : x4_1 < (l0.length : Int) := qT (by first | (with_reducible assumption) | assumption); obtain ⟨ad104, A104_1, c104_1, e104, hx104_0, hx104_1, hl104_1, hi104_1⟩ := at_T77 HR0.out x4_1 p104 q104
        cases e104
        replace hx104_0 := (HB.out.cell (qL w _ hx104_0)).trans hx104_0; replace hx104_1 := (HB.out.cell (qL w _ hx104_1)).trans hx104_1; have HR104_1 := qO hi104_1; have HC104_1 := qO hl104_1; clear hi104_1 hl104_1; replace p104 := eq_true p104; replace q104 := eq_true q104
        go_wp2_with (first | ((with_reducible refine gate_callee (f := 56) rfl ?_); refine goesL_ (some 20) rfl rfl Try.func56 (by kernel_rfl) rfl #[.agg #[.string ((rd_T77 l0 x4_1).f0), .slice A104_1 ((rd_T77 l0 x4_1).f1).length c104_1]] rfl (by (try simp only [List.map_toArray, List.map_cons, List.map_nil]); first | done | rfl | (simp only [List.length_drop, List.length_take]; rfl)) ?_; (with_reducible refine (laws_toTypeDef.calls k1 ((rd_T77 l0 x4_1).f0) _ _ ((rd_T77 l0 x4_1).f1) t105 t106 _ ?side1 ?side2 A8.out).mono ?_); (case side1 => repeat (first | exact (Kd.C_below HR104_1.out HB.out) | with_reducible first | refine Kd.C_alloc ?_ _ | refine Kd.C_drewN ?_ _ | refine Kd.C_drew ?_)); (case side2 => exact HC104_1.out); rintro e w11 ⟨v107, rfl, ho0, hb⟩; have hx_ := qHX HB hb (by with_reducible repeat (first | refine qbN ?_ _ | refine qbD ?_ | refine qbA ?_ _ | exact Below.refl _ _)); refine ⟨_, rfl, ?_⟩; have n0_ := qO (Kd.R_elder' (by (with_reducible repeat (first | apply Kd.R_alloc | apply Kd.R_drewN | apply Kd.R_drew)); exact HO_3.out) (Kd.S_base ho0) hb); have n1_ := qO (Kd.S_lower ho0 (below_size (below_step HB.out hx_))); have n2_ := qO (below_step (below_step HB.out hx_) hb); clear HO_3; clear HB; have HO_3 := n0_; have HO108 := n1_; have HB := n2_; clear n0_ n1_ n2_; clear hx_; (try clear hb); (try clear hb2); (try clear hk); (try clear hi); (try clear ho0); have p10 : 0 ≤ (x4_1 : Int) := qT (by first | (with_reducible assumption) | assumption); have q10 : (x4_1 : Int) < ((x3_1.length : Int) : Int) := qT (by first | (with_reducible assumption) | assumption); obtain ⟨go10, co10, eo10, gb10, gl10, cl10, HG10⟩ := Kd.R_form HO_3.out (by omega); (first | cases eo10 | (injection eo10 with ea_ en_ ec_; (first | subst ea_ | (injection ea_ with ea_; subst ea_)); subst ec_; clear en_)); have GB10 := qO gb10; have GG10 := qO HG10; clear gb10 gl10 HG10; obtain ⟨ce10, hcl10, hM10, hcc10, hfr10⟩ := Kd.R_elem HO_3.out z53 (x4_1 : Int) p10 q10; obtain ⟨ve10_1, rfl, ge10_1⟩ := k53_openM hM10; have hx10_0 : w11.cell? ⟨go10, (x4_1 : Int).toNat * 2, none⟩ = some (.string ((rd_T53 x3_1 x4_1).f0)) := hcc10 0 _ rfl; have hx10_1 : w11.cell? ⟨go10, (x4_1 : Int).toNat * 2 + 1, none⟩ = some (ve10_1) := hcc10 1 _ rfl; have hf10_0 : w11.frozen? ⟨go10, (x4_1 : Int).toNat * 2, none⟩ = false := hfr10 0; have hf10_1 : w11.frozen? ⟨go10, (x4_1 : Int).toNat * 2 + 1, none⟩ = false := hfr10 1; clear hcl10 hcc10 hfr10; (try clear hM10); replace p10 := eq_true p10; replace q10 := eq_true q10; have n_ := qO (Kd.R_mono (ok' := (fun k_ => some k_ ≠ (v107 : Value).ownBlock)) HO_3.out (fun k_ hk => hk.2)); clear HO_3; have HO_3 := n_; clear n_; have HX12 := qO (show Kd.R k53 53 w11 w.heap.size (fun _ => True) (.slice (some ⟨go10, 0, none⟩) x3_1.length co10) x3_1 from (by (with_reducible repeat (first | apply Kd.R_alloc | apply Kd.R_drewN | apply Kd.R_drew)); exact Kd.R_mono HO_3.out (fun _ hk => trivial))); obtain ⟨ce12, hcl12, hM12, hcc12, hfr12⟩ := Kd.R_elem HX12.out z53 (x4_1 : Int) (qT (by first | (with_reducible assumption) | assumption)) (by have h_ : (x4_1 : Int) < ((x3_1.length : Int) : Int) := qT (by first | (with_reducible assumption) | assumption); first | exact h_ | (have e_ := (Kd.R_reads' HO_3.out).1; omega) | simpa using h_); obtain ⟨ve12_1, rfl, ge12_1⟩ := k53_openM hM12; have HP12 := Kd.R_seg HX12.out (x4_1 : Int) (qT (by first | (with_reducible assumption) | assumption)) (by have h_ : (x4_1 : Int) < ((x3_1.length : Int) : Int) := qT (by first | (with_reducible assumption) | assumption); first | exact h_ | (have e_ := (Kd.R_reads' HO_3.out).1; omega) | simpa using h_) (seg := [.string t105, v107]) (j := 0) hcl12 hcc12 (show 2 ≤ 2 from by decide) (x' := (⟨t105, t106⟩ : S53)) (k53_mkM _ _ _ (⟨t105, t106⟩ : S53) (Kd.R_mono (Kd.R_apart' ((Kd.S_R HO108.out)) (Kd.R_typed HO_3.out) (by decide)) (fun k_ hk => ⟨trivial, fun e_ => (hk.2) (by rw [e_]; rfl)⟩))) (fun _ hk => hk); have hx12_0 := hcc12 0 _ rfl; (try simp only [show (k53).sz = 2 from rfl, Nat.mul_one, Nat.add_zero] at hx12_0); have hf12_0 := hfr12 0; (try simp only [show (k53).sz = 2 from rfl, Nat.mul_one, Nat.add_zero] at hf12_0); have hx12_1 := hcc12 1 _ rfl; (try simp only [show (k53).sz = 2 from rfl, Nat.mul_one, Nat.add_zero] at hx12_1); have hf12_1 := hfr12 1; (try simp only [show (k53).sz = 2 from rfl, Nat.mul_one, Nat.add_zero] at hf12_1); clear hcl12 hcc12 hfr12; (try clear hM12)) | ((with_reducible refine gate_store (t := 53) (p := 21) rfl ?_); refine store_event (t := 53) (p := 21) (v := ?vo_w13) (w1 := ((w11.setCell ⟨go10, (x4_1 : Int).toNat * 2, none⟩ (.string t105)).setCell ⟨go10, (x4_1 : Int).toNat * 2 + 1, none⟩ (v107))) ?hg ?ho ?hn ?hr ?_; (case ho => rfl); (case hg => rfl); (case hn => rfl); (case hr => obtain ⟨Av0_, cv0_, ev0_⟩ := Kd.R_slice (Kd.S_R HO108.out); rw [ev0_]; first | (go_simp; done) | (go_simp; rfl)); intro w13 hw; have hg : w11.grownBy w13 (some go10) := (by rw [hw]; exact HP12.2); have hp_ : Kd.R k53 53 w13 w.heap.size (fun _ => True) (.slice (some ⟨go10, 0, none⟩) x3_1.length co10) y109 := (by rw [hw, Ny109.out]; exact HP12.1); clear HP12; have n0_ := qO (hp_); have n1_ := qO ((by rw [hw]; exact qbS (qbS (HB.out) GB10.out) GB10.out : Below w.heap.size w w13)); clear HO_3; clear HB; clear HO108; have HO_3 := n0_; have HB := n1_; clear n0_ n1_; clear hg hw hp_))
        go_roundg k1
        case measure => have := HK1.out; omega
        case rel => exact ⟨(y109), (wrap64 (x4_1 + 1)), (by first | rfl | (simp; done) | (simp [*]; done)), H', ⟨by have := HK1.out; omega⟩, ⟨by (with_reducible repeat (first | apply Kd.R_alloc | apply Kd.R_drewN | apply Kd.R_drew)); exact HO_3.out⟩, ⟨by repeat (first | (with_reducible first | exact HB.out | apply qbA | apply qbN | apply qbD) | exact HB.out)⟩⟩
       ·rw [if_neg c9] at H
        exact absurd H (by simp)
      ·rw [if_neg c7] at H
       exact absurd H (by simp)
     ·rw [if_neg c6] at H
      have c6b0 : decide (x4_1 < (l0.length : Int)) = false := decide_eq_false c6; clear c6; obtain rfl := Option.some.inj H; go_wp2
      go_ret
      exact ⟨_, by first | rfl | (simp [errW_none, errW_some] <;> rfl) | (simp [*, errW_none, errW_some] <;> rfl), by (with_reducible repeat (first | apply Kd.R_alloc | apply Kd.R_drewN | apply Kd.R_drew)); exact HO_3.out, by repeat (first | (with_reducible first | exact HB.out | apply qbA | apply qbN | apply qbD) | exact HB.out)⟩
  ·rw [if_neg c3] at H
   exact absurd H (by simp)
 ·rw [if_neg c2] at H
  exact absurd H (by simp)

end Go.Proofs.Ytoogmlghfljeiaa.Q
namespace Go.Proofs.Ytoogmlghfljeiaa.Q
open Go.RowKit Go.Proofs.YtoogmlghfljeiaaW.PrintWords Go.Proofs.YtoogmlghfljeiaaW.PrintLast Go.Proofs.YtoogmlghfljeiaaW.PrintMore
attribute [local go_sem] max2_int min2_int max_two min_two max_three min_three max_four min_four
set_option linter.unusedVariables false
set_option linter.unusedSimpArgs false

def laws_toSchema.f (k : Nat) (l0_0 : List (S77)) : Option ((List (S53))) := (laws_toTypeDefS.f k l0_0).bind fun t104 => (some t104)
set_option maxHeartbeats 8000000 in
set_option maxRecDepth 100000 in
theorem laws_toSchema.calls (k : Nat) (A0_0 : Option Addr) (c0_0 : Nat) (l0_0 : List (S77)) (r : List (S53)) (w : World) (hr0_0 : Kd.C k77 w A0_0 l0_0.length l0_0) (hc0_0 : l0_0.length ≤ c0_0) (h : laws_toSchema.f k l0_0 = some r) :
  Calls Try.prog 10 #[.agg #[.slice A0_0 l0_0.length c0_0]] w fun e w' => ∃ v0_ : Value, e = .returned (.agg #[v0_]) ∧ Kd.R k53 53 w' w.heap.size (fun _ => True) v0_ r ∧ Below w.heap.size w w' := by
 have hu24 := Try.underlying24; have hu29 := Try.underlying29; have HR0_0 := qO hr0_0; have HC0_0 := qO hc0_0; clear hr0_0 hc0_0; have HB := qO (Below.refl w.heap.size w); have H : ((laws_toTypeDefS.f k l0_0).bind fun t104 => (some t104)) = some r := h; clear h; replace H := Option.bind_eq_some_iff.mp H; obtain ⟨t104, A20, H⟩ := H; replace H : (some t104) = some r := H; have A2 := qO A20; clear A20; obtain rfl := Option.some.inj H
 go_enter Try.func10, Try.ntmps10
 go_wp2_with (first | ((with_reducible refine gate_dst (N := 1) rfl ?_); refine box_event ?hg (N := 1) ?hd (cs := #[.slice A0_0 l0_0.length c0_0]) (t := 24) ?hr ?_; (case hd => rfl); (case hg => rfl); (case hr => first | (go_simp; done) | (go_simp; rfl)); intro gb101 hg w3 hbox hb; have hx_ := qHX HB hb (by with_reducible repeat (first | refine qbN ?_ _ | refine qbD ?_ | refine qbA ?_ _ | exact Below.refl _ _)); have n0_ := qO (below_step (below_step HB.out hx_) hb); have n1_ := qO (hbox); have n2_ := qO ((by rw [hg]; exact (below_size (below_step HB.out hx_)) : w.heap.size ≤ gb101)); have n3_ := n2_; clear HB; have HB := n0_; have BK101 := n1_; have GW101 := n2_; have GE101 := n3_; clear n0_ n1_ n2_ n3_; clear hx_; clear hb hbox hg) | ((with_reducible refine gate_dst (N := 2) rfl ?_); refine box_event ?hg (N := 2) ?hd (cs := #[.slice none 0 0]) (t := 29) ?hr ?_; (case hd => rfl); (case hg => rfl); (case hr => first | (go_simp; done) | (go_simp; rfl)); intro gb102 hg w4 hbox hb; have hx_ := qHX HB hb (by with_reducible repeat (first | refine qbN ?_ _ | refine qbD ?_ | refine qbA ?_ _ | exact Below.refl _ _)); have n0_ := qO (qB BK101.out hx_ hb); have n1_ := qO (below_step (below_step HB.out hx_) hb); have n2_ := qO (hbox); have n3_ := qO ((by rw [hg]; exact (below_size (below_step HB.out hx_)) : w.heap.size ≤ gb102)); have n4_ := n3_; have n5_ := qO ((by rw [hg]; exact Nat.ne_of_lt (blk_lt (g := gb101) (o := .cells #[.slice A0_0 l0_0.length c0_0] 24 (0, 0)) (by (with_reducible repeat (first | refine qkN ?_ _ | refine qkD ?_ | refine qkA ?_ _)); exact BK101.out)) : gb101 ≠ gb102)); have n6_ := qO (Ne.symm n5_.out); clear BK101; clear HB; have BK101 := n0_; have HB := n1_; have BK102 := n2_; have GW102 := n3_; have GE102 := n4_; have NB101_102 := n5_; have NB102_101 := n6_; clear n0_ n1_ n2_ n3_ n4_ n5_ n6_; clear hx_; clear hb hbox hg) | ((with_reducible refine gate_dst (N := 3) rfl ?_); refine box_event ?hg (N := 3) ?hd (cs := #[.slice none 0 0]) (t := 29) ?hr ?_; (case hd => rfl); (case hg => rfl); (case hr => first | (go_simp; done) | (go_simp; rfl)); intro gb103 hg w5 hbox hb; have hx_ := qHX HB hb (by with_reducible repeat (first | refine qbN ?_ _ | refine qbD ?_ | refine qbA ?_ _ | exact Below.refl _ _)); have n0_ := qO (qB BK101.out hx_ hb); have n1_ := qO (qB BK102.out hx_ hb); have n2_ := qO (below_step (below_step HB.out hx_) hb); have n3_ := qO (hbox); have n4_ := qO ((by rw [hg]; exact (below_size (below_step HB.out hx_)) : w.heap.size ≤ gb103)); have n5_ := n4_; have n6_ := qO ((by rw [hg]; exact Nat.ne_of_lt (blk_lt (g := gb101) (o := .cells #[.slice A0_0 l0_0.length c0_0] 24 (0, 0)) (by (with_reducible repeat (first | refine qkN ?_ _ | refine qkD ?_ | refine qkA ?_ _)); exact BK101.out)) : gb101 ≠ gb103)); have n7_ := qO (Ne.symm n6_.out); have n8_ := qO ((by rw [hg]; exact Nat.ne_of_lt (blk_lt (g := gb102) (o := .cells #[.slice none 0 0] 29 (0, 0)) (by (with_reducible repeat (first | refine qkN ?_ _ | refine qkD ?_ | refine qkA ?_ _)); exact BK102.out)) : gb102 ≠ gb103)); have n9_ := qO (Ne.symm n8_.out); clear BK101; clear BK102; clear HB; have BK101 := n0_; have BK102 := n1_; have HB := n2_; have BK103 := n3_; have GW103 := n4_; have GE103 := n5_; have NB101_103 := n6_; have NB103_101 := n7_; have NB102_103 := n8_; have NB103_102 := n9_; clear n0_ n1_ n2_ n3_ n4_ n5_ n6_ n7_ n8_ n9_; clear hx_; clear hb hbox hg; have hnb6 := NB101_102.out; have hnc6 := NB102_101.out; have hnb7 := NB101_103.out; have hnc7 := NB103_101.out; have hcz8_0 : w5.cell? ⟨gb101, 0, none⟩ = some (.slice A0_0 l0_0.length c0_0) := (blk_cell BK101.out 0).trans rfl; have hfz8_0 := blk_frozen BK101.out 0) | ((with_reducible refine gate_callee (f := 32) rfl ?_); refine goesL_ (some 6) rfl rfl Try.func32 (by kernel_rfl) rfl #[.slice A0_0 l0_0.length c0_0] rfl (by (try simp only [List.map_toArray, List.map_cons, List.map_nil]); first | done | rfl | (simp only [List.length_drop, List.length_take]; rfl)) ?_; (with_reducible refine (laws_toTypeDefS.calls k _ _ l0_0 t104 _ ?side1 ?side2 A2.out).mono ?_); (case side1 => repeat (first | exact (Kd.C_below HR0_0.out HB.out) | with_reducible first | refine Kd.C_alloc ?_ _ | refine Kd.C_drewN ?_ _ | refine Kd.C_drew ?_)); (case side2 => exact HC0_0.out); rintro e w9 ⟨v105, rfl, ho0, hb⟩; have hx_ := qHX HB hb (by with_reducible repeat (first | refine qbN ?_ _ | refine qbD ?_ | refine qbA ?_ _ | exact Below.refl _ _)); refine ⟨_, rfl, ?_⟩; have n0_ := qO (Kd.R_lower ho0 (below_size (below_step HB.out hx_))); have n1_ := qO (qB BK101.out hx_ hb); have n2_ := qO (qB BK102.out hx_ hb); have n3_ := qO (qB BK103.out hx_ hb); have n4_ := qO (below_step (below_step HB.out hx_) hb); clear BK101; clear BK102; clear BK103; clear HB; have HO106 := n0_; have BK101 := n1_; have BK102 := n2_; have BK103 := n3_; have HB := n4_; clear n0_ n1_ n2_ n3_ n4_; clear hx_; (try clear hb); (try clear hb2); (try clear hk); (try clear hi); (try clear ho0); obtain ⟨Ao10, co10, eo10⟩ := Kd.R_slice HO106.out; subst eo10; have hnb11 := NB103_102.out; have hnc11 := NB102_103.out; have hcz12_0 : w9.cell? ⟨gb103, 0, none⟩ = some (.slice none 0 0) := (blk_cell BK103.out 0).trans rfl; have hfz12_0 := blk_frozen BK103.out 0; have hcz13_0 : w9.cell? ⟨gb102, 0, none⟩ = some (.slice none 0 0) := (blk_cell BK102.out 0).trans rfl; have hfz13_0 := blk_frozen BK102.out 0))
 refine bodyPost_ret (results_cell_row rfl _ _ gb102 29 #[.slice Ao10 t104.length co10] (0, 0) _ rfl (by (with_reducible repeat (first | refine qkN ?_ _ | refine qkD ?_ | refine qkA ?_ _)); refine blk_put (cs := #[.slice none 0 0]) ?_ 0 _ rfl; (with_reducible repeat (first | refine qkN ?_ _ | refine qkD ?_ | refine qkA ?_ _)); refine blk_far ?_ NB102_103.out _; (with_reducible repeat (first | refine qkN ?_ _ | refine qkD ?_ | refine qkA ?_ _)); exact BK102.out) Try.underlying29 rfl (by kernel_rfl)) rfl ?_
 exact ⟨_, by first | rfl | (simp [errW_none, errW_some] <;> rfl) | (simp [*, errW_none, errW_some] <;> rfl), by (with_reducible repeat (first | apply Kd.R_alloc | apply Kd.R_drewN | apply Kd.R_drew)); exact Kd.R_mono (Kd.R_far (p := ⟨gb102, 0, none⟩) (Kd.R_far (p := ⟨gb103, 0, none⟩) (Kd.R_types (Kd.R_types HO106.out BK103.out (by decide)) BK102.out (by decide)) (fun _ hk => hk.1.2) (.slice Ao10 t104.length co10)) (fun _ hk => hk.2) (.slice Ao10 t104.length co10)) (fun _ hk => trivial), by repeat (first | (with_reducible first | exact HB.out | apply qbA | apply qbN | apply qbD | refine qbS ?_ GE101.out | refine qbS ?_ GE102.out | refine qbS ?_ GE103.out) | exact HB.out)⟩

end Go.Proofs.Ytoogmlghfljeiaa.Q
namespace Go.Proofs.Ytoogmlghfljeiaa.Q
open Go.RowKit Go.Proofs.YtoogmlghfljeiaaW.PrintWords Go.Proofs.YtoogmlghfljeiaaW.PrintLast Go.Proofs.YtoogmlghfljeiaaW.PrintMore
attribute [local go_sem] max2_int min2_int max_two min_two max_three min_three max_four min_four
set_option linter.unusedVariables false
set_option linter.unusedSimpArgs false

def impl_within.f (a0 : Int) (a1 : Int) (a2 : Int) : Option (Bool) := if a0 ≥ a1 then (some (decide (a0 ≤ a2))) else (some false)
set_option maxHeartbeats 8000000 in
set_option maxRecDepth 100000 in
theorem impl_within.calls (a0 : Int) (a1 : Int) (a2 : Int) (r : Bool) (w : World) (h : impl_within.f a0 a1 a2 = some r) :
  Calls Try.prog 33 #[.int .i64 a0, .int .i64 a1, .int .i64 a2] w fun e w' => e = .returned (.bool r) ∧ Drawn0 w w' := by
 have H : (if a0 ≥ a1 then (some (decide (a0 ≤ a2))) else (some false)) = some r := h; clear h
 by_cases c4 : a0 ≥ a1
 ·rw [if_pos c4] at H
  have c4b0 : decide (a1 ≤ a0) = true := decide_eq_true c4; clear c4; obtain rfl := Option.some.inj H
  go_enter Try.func33, Try.ntmps33
  go_wp2
  go_ret
  exact ⟨by first | rfl | (simp; done) | (simp [*]; done), by repeat (first | exact Drawn0.refl _ | apply Drawn0.step)⟩
 ·rw [if_neg c4] at H
  have c4b0 : decide (a1 ≤ a0) = false := decide_eq_false c4; clear c4; obtain rfl := Option.some.inj H
  go_enter Try.func33, Try.ntmps33
  go_wp2
  go_ret
  exact ⟨by first | rfl | (simp; done) | (simp [*]; done), by repeat (first | exact Drawn0.refl _ | apply Drawn0.step)⟩

end Go.Proofs.Ytoogmlghfljeiaa.Q
namespace Go.Proofs.Ytoogmlghfljeiaa.Q
open Go.RowKit Go.Proofs.YtoogmlghfljeiaaW.PrintWords Go.Proofs.YtoogmlghfljeiaaW.PrintLast Go.Proofs.YtoogmlghfljeiaaW.PrintMore
attribute [local go_sem] max2_int min2_int max_two min_two max_three min_three max_four min_four
set_option linter.unusedVariables false
set_option linter.unusedSimpArgs false

/-- The first place at which p holds, or -1. -/
def impl_TypeDef.fp (p : (S53) → Bool) (l0 : List (S53)) : Int := match l0.findIdx? p with | some i => (i : Int) | none => -1
theorem impl_TypeDef.hit (p : (S53) → Bool) (l0 : List (S53)) (kk : Nat) (x : (S53)) (hx : l0[kk]? = some x) (hp : p x = true) (hno : ∀ j, j < kk → ∀ x, l0[j]? = some x → p x = false) : impl_TypeDef.fp p l0 = kk := by
 unfold impl_TypeDef.fp
 have h : l0.findIdx? p = some kk := by
  rw [List.findIdx?_eq_some_iff_getElem]; obtain ⟨hl, he⟩ := List.getElem?_eq_some_iff.1 hx
  exact ⟨hl, by rw [he]; exact hp, fun j hj => by rw [hno j hj _ (List.getElem?_eq_getElem (Nat.lt_trans hj hl))]; simp⟩
 rw [h]
theorem impl_TypeDef.miss (p : (S53) → Bool) (l0 : List (S53)) (hno : ∀ j, j < l0.length → ∀ x, l0[j]? = some x → p x = false) : impl_TypeDef.fp p l0 = -1 := by
 unfold impl_TypeDef.fp
 have h : l0.findIdx? p = none := by
  rw [List.findIdx?_eq_none_iff]; intro x hx; obtain ⟨j, hj⟩ := List.getElem?_of_mem hx
  exact hno j (List.getElem?_eq_some_iff.1 hj).1 x hj
 rw [h]
set_option maxHeartbeats 4000000 in
set_option maxRecDepth 100000 in
theorem impl_TypeDef.callsP (A0 : Option Addr) (c0 : Nat) (l0 : List (S53)) (g : Nat) (cb : Array Value) (p : (S53) → Bool) (w : World) (eg : ∀ args w, (callFunc g args).run Try.prog w = .ok (.enter g args) w) (hr0 : Kd.C k53 w A0 l0.length l0)
  (hp : ∀ (W : World) (x : (S53)) (E1 : Option Addr) (e1 : Nat), x ∈ l0 → Below w.heap.size w W → Calls Try.prog g (#[.agg #[.string x.f0, .slice E1 x.f1.length e1]] ++ cb) W fun e w' => e = .returned (.bool (p x)) ∧ Below w.heap.size w w') :
  Calls Try.prog 57 #[.slice A0 l0.length c0, .func (.func g) #[] cb] w fun e w' => e = .returned (.int .i64 (impl_TypeDef.fp p l0)) ∧ Below w.heap.size w w' := by
 have hlen := hr0.2.1; have HR := qO hr0; have HP := qO hp; clear hr0 hp; have isagg := Try.isAgg53
 go_enter Try.func57, Try.ntmps57
 go_wp2
 go_loopg [5, 8] l0.length (fun gg _ s8 wr => ∃ kk : Nat, kk ≤ l0.length ∧ l0.length - kk ≤ gg ∧ s8 = .int .i64 kk ∧ Aside0 (Below w.heap.size w wr) ∧ Aside0 (∀ j, j < kk → ∀ x, l0[j]? = some x → p x = false))
 case atStart => exact ⟨0, Nat.zero_le _, by omega, rfl, ⟨Below.refl _ w⟩, ⟨fun j hj => absurd hj (Nat.not_lt_zero _)⟩⟩
 case round =>
  obtain ⟨kk, hkk, hg, rfl, BW, No⟩ := hrel
  by_cases hlt : kk < l0.length
  ·have hltz : (kk : Int) < (l0.length : Int) := by omega
   obtain ⟨ad, E1, e1, e, hx0, hx1, hl1, hi1⟩ := at_T53 HR.out (kk : Int) (by omega) hltz
   cases e
   replace hx0 := (BW.out.cell (qL w _ hx0)).trans hx0; replace hx1 := (BW.out.cell (qL w _ hx1)).trans hx1; simp only [Int.toNat_natCast] at hx0; simp only [Int.toNat_natCast] at hx1
   have hx : l0[kk]? = some (rd_T53 l0 (kk : Int)) := by
    rw [List.getElem?_eq_getElem hlt]
    show some l0[kk] = some (l0.getD (kk : Int).toNat _)
    rw [Int.toNat_natCast, List.getD_eq_getElem?_getD, List.getElem?_eq_getElem hlt]
    rfl
   clear hl1 hi1; have hcall := HP.out wr (rd_T53 l0 (kk : Int)) E1 e1 (List.mem_of_getElem? hx) BW.out; have HX := qO hx; clear hx; generalize rd_T53 l0 (kk : Int) = x at hcall HX hx0 hx1
   cases hq : p x with
   | true =>
    have HQ := qO hq; rw [hq] at hcall; clear hq
    go_wp2_with (go_at_fn g; refine hcall.mono ?_; rintro e w' ⟨rfl, hb'⟩)
    go_ret
    exact ⟨by rw [impl_TypeDef.hit p l0 kk x HX.out HQ.out No.out]; rfl, hb'⟩
   | false =>
    have HQ := qO hq; rw [hq] at hcall; clear hq
    go_wp2_with (go_at_fn g; refine hcall.mono ?_; rintro e w' ⟨rfl, hb'⟩)
    go_roundg (l0.length - (kk + 1))
    case measure => omega
    case rel =>
     refine ⟨kk + 1, by omega, by omega, by go_num, ⟨hb'⟩, ⟨fun j hj x' hx' => ?_⟩⟩
     by_cases e : j = kk
     ·subst e
      rw [HX.out] at hx'; obtain rfl := Option.some.inj hx'
      exact HQ.out
     ·exact No.out j (by omega) x' hx'
  ·have hltz : ¬ (kk : Int) < (l0.length : Int) := by omega
   have hk : kk = l0.length := by omega
   have HK := qO hk; clear hk; go_wp2
   go_ret
   exact ⟨by rw [impl_TypeDef.miss p l0 (fun j hj => No.out j (by rw [HK.out]; exact hj))]; rfl, BW.out⟩

end Go.Proofs.Ytoogmlghfljeiaa.Q
namespace Go.Proofs.Ytoogmlghfljeiaa.Q
open Go.RowKit Go.Proofs.YtoogmlghfljeiaaW.PrintWords Go.Proofs.YtoogmlghfljeiaaW.PrintLast Go.Proofs.YtoogmlghfljeiaaW.PrintMore
attribute [local go_sem] max2_int min2_int max_two min_two max_three min_three max_four min_four
set_option linter.unusedVariables false
set_option linter.unusedSimpArgs false

set_option maxHeartbeats 4000000 in
set_option maxRecDepth 100000 in
theorem impl_Schema_typeAt_1.callsQ (x : S53) (E1 : Option Addr) (e1 : Nat) (gs : Nat) (y0 : ByteArray) (w : World) (hs : w.heap[gs]? = some (.cells #[.string y0] 9 (0, 0))) :
  Calls Try.prog 58 #[.agg #[.string x.f0, .slice E1 x.f1.length e1], .pointer (some ⟨gs, 0, none⟩)] w fun e w' => e = .returned (.bool (x.f0.toList == y0.toList)) ∧ Below w.heap.size w w' := by
 have hu := Try.underlying53; have HS := qO hs; clear hs
 go_enter Try.func58, Try.ntmps58
 go_wp2_with (first | ((with_reducible refine gate_dst (N := 2) rfl ?_); refine box_event ?hg (N := 2) ?hd (cs := #[.string x.f0, .slice E1 x.f1.length e1]) (t := 53) ?hr ?_; (case hd => rfl); (case hg => rfl); (case hr => first | (go_simp; done) | (go_simp; rfl)); intro gb hg w1 hbox hb; have K1 := qO (blk_below (g := gs) HS.out hb); have B1 := qO hb; have hcz0 : w1.cell? ⟨gb, 0, none⟩ = some (.string x.f0) := (blk_cell hbox 0).trans rfl; have hcz1 : w1.cell? ⟨gb, 1, none⟩ = some (.slice E1 x.f1.length e1) := (blk_cell hbox 1).trans rfl; have hcw0 : w1.cell? ⟨gs, 0, none⟩ = some (.string y0) := (blk_cell K1.out 0).trans rfl; clear hg hb hbox))
 go_ret
 exact ⟨rfl, B1.out⟩
def clo57_58.f (l0 : List (S53)) (a1_0 : ByteArray) : Option Int := some (impl_TypeDef.fp (fun x => (x.f0.toList == a1_0.toList)) l0)
theorem clo57_58.calls (A0 : Option Addr) (c0 : Nat) (l0 : List (S53)) (a1_0 : ByteArray) (r : Int) (w : World) (hr0 : Kd.C k53 w A0 l0.length l0) (hc0 : l0.length ≤ c0) (h : clo57_58.f l0 a1_0 = some r) (gs : Nat) (hs : w.heap[gs]? = some (.cells #[.string a1_0] 9 (0, 0))) :
  Calls Try.prog 57 #[.slice A0 l0.length c0, .func (.func 58) #[] #[.pointer (some ⟨gs, 0, none⟩)]] w fun e w' => e = .returned (.int .i64 r) ∧ Below w.heap.size w w' := by
 obtain rfl := Option.some.inj h; have eg : ∀ args w, (callFunc 58 args).run Try.prog w = .ok (.enter 58 args) w := enters_of Try.func58 (by kernel_rfl) rfl
 exact impl_TypeDef.callsP A0 c0 l0 58 #[.pointer (some ⟨gs, 0, none⟩)] (fun x => (x.f0.toList == a1_0.toList)) w eg hr0 (fun W x E1 e1 _ hb => (impl_Schema_typeAt_1.callsQ x E1 e1 gs a1_0 W (blk_below hs hb)).mono (by rintro e w' ⟨rfl, h2⟩; exact ⟨rfl, below_step hb h2⟩))
def impl_Schema_typeAt.f (l0_0 : List (S53)) (a1 : ByteArray) : Option (Int) := (clo57_58.f l0_0 a1).bind fun t103 => (some t103)
set_option maxHeartbeats 8000000 in
set_option maxRecDepth 100000 in
theorem impl_Schema_typeAt.calls (A0_0 : Option Addr) (c0_0 : Nat) (l0_0 : List (S53)) (a1 : ByteArray) (r : Int) (w : World) (hr0_0 : Kd.C k53 w A0_0 l0_0.length l0_0) (hc0_0 : l0_0.length ≤ c0_0) (h : impl_Schema_typeAt.f l0_0 a1 = some r) :
  Calls Try.prog 34 #[.agg #[.slice A0_0 l0_0.length c0_0], .string a1] w fun e w' => e = .returned (.int .i64 r) ∧ Below w.heap.size w w' := by
 have hu29 := Try.underlying29; have hu9 := Try.underlying9; have HR0_0 := qO hr0_0; have HC0_0 := qO hc0_0; clear hr0_0 hc0_0; have HB := qO (Below.refl w.heap.size w); have H : ((clo57_58.f l0_0 a1).bind fun t103 => (some t103)) = some r := h; clear h; replace H := Option.bind_eq_some_iff.mp H; obtain ⟨t103, A30, H⟩ := H; replace H : (some t103) = some r := H; have A3 := qO A30; clear A30; obtain rfl := Option.some.inj H
 go_enter Try.func34, Try.ntmps34
 go_wp2_with (first | ((with_reducible refine gate_dst (N := 2) rfl ?_); refine box_event ?hg (N := 2) ?hd (cs := #[.slice A0_0 l0_0.length c0_0]) (t := 29) ?hr ?_; (case hd => rfl); (case hg => rfl); (case hr => first | (go_simp; done) | (go_simp; rfl)); intro gb101 hg w4 hbox hb; have hx_ := qHX HB hb (by with_reducible repeat (first | refine qbN ?_ _ | refine qbD ?_ | refine qbA ?_ _ | exact Below.refl _ _)); have n0_ := qO (below_step (below_step HB.out hx_) hb); have n1_ := qO (hbox); have n2_ := qO ((by rw [hg]; exact (below_size (below_step HB.out hx_)) : w.heap.size ≤ gb101)); have n3_ := n2_; clear HB; have HB := n0_; have BK101 := n1_; have GW101 := n2_; have GE101 := n3_; clear n0_ n1_ n2_ n3_; clear hx_; clear hb hbox hg) | ((with_reducible refine gate_dst (N := 3) rfl ?_); refine box_event ?hg (N := 3) ?hd (cs := #[.string a1]) (t := 9) ?hr ?_; (case hd => rfl); (case hg => rfl); (case hr => first | (go_simp; done) | (go_simp; rfl)); intro gb102 hg w5 hbox hb; have hx_ := qHX HB hb (by with_reducible repeat (first | refine qbN ?_ _ | refine qbD ?_ | refine qbA ?_ _ | exact Below.refl _ _)); have n0_ := qO (qB BK101.out hx_ hb); have n1_ := qO (below_step (below_step HB.out hx_) hb); have n2_ := qO (hbox); have n3_ := qO ((by rw [hg]; exact (below_size (below_step HB.out hx_)) : w.heap.size ≤ gb102)); have n4_ := n3_; have n5_ := qO ((by rw [hg]; exact Nat.ne_of_lt (blk_lt (g := gb101) (o := .cells #[.slice A0_0 l0_0.length c0_0] 29 (0, 0)) (by (with_reducible repeat (first | refine qkN ?_ _ | refine qkD ?_ | refine qkA ?_ _)); exact BK101.out)) : gb101 ≠ gb102)); have n6_ := qO (Ne.symm n5_.out); clear BK101; clear HB; have BK101 := n0_; have HB := n1_; have BK102 := n2_; have GW102 := n3_; have GE102 := n4_; have NB101_102 := n5_; have NB102_101 := n6_; clear n0_ n1_ n2_ n3_ n4_ n5_ n6_; clear hx_; clear hb hbox hg; have hnb6 := NB101_102.out; have hnc6 := NB102_101.out; have hcz7_0 : w5.cell? ⟨gb101, 0, none⟩ = some (.slice A0_0 l0_0.length c0_0) := (blk_cell BK101.out 0).trans rfl; have hfz7_0 := blk_frozen BK101.out 0; have hcz8_0 : w5.cell? ⟨gb102, 0, none⟩ = some (.string a1) := (blk_cell BK102.out 0).trans rfl; have hfz8_0 := blk_frozen BK102.out 0) | ((with_reducible refine gate_callee (f := 57) rfl ?_); refine goesL_ (some 8) rfl rfl Try.func57 (by kernel_rfl) rfl #[.slice A0_0 l0_0.length c0_0, .func (.func 58) #[] #[.pointer (some ⟨gb102, 0, none⟩)]] rfl (by (try simp only [List.map_toArray, List.map_cons, List.map_nil]); first | done | rfl | (simp only [List.length_drop, List.length_take]; rfl)) ?_; (with_reducible refine (clo57_58.calls _ _ l0_0 a1 t103 _ ?side1 ?side2 A3.out gb102 (by (with_reducible repeat (first | refine qkN ?_ _ | refine qkD ?_ | refine qkA ?_ _)); exact BK102.out)).mono ?_); (case side1 => repeat (first | exact (Kd.C_below HR0_0.out HB.out) | with_reducible first | refine Kd.C_alloc ?_ _ | refine Kd.C_drewN ?_ _ | refine Kd.C_drew ?_)); (case side2 => exact HC0_0.out); rintro e w9 ⟨rfl, hb⟩; have hx_ := qHX HB hb (by with_reducible repeat (first | refine qbN ?_ _ | refine qbD ?_ | refine qbA ?_ _ | exact Below.refl _ _)); refine ⟨_, rfl, ?_⟩; have n0_ := qO (qB BK101.out hx_ hb); have n1_ := qO (qB BK102.out hx_ hb); have n2_ := qO (below_step (below_step HB.out hx_) hb); clear BK101; clear BK102; clear HB; have BK101 := n0_; have BK102 := n1_; have HB := n2_; clear n0_ n1_ n2_; clear hx_; (try clear hb); (try clear hb2); (try clear hk); (try clear hi)))
 go_ret
 exact ⟨by first | rfl | (simp [errW_none, errW_some] <;> rfl) | (simp [*, errW_none, errW_some] <;> rfl), by repeat (first | (with_reducible first | exact HB.out | apply qbA | apply qbN | apply qbD | refine qbS ?_ GE101.out | refine qbS ?_ GE102.out) | exact HB.out)⟩

end Go.Proofs.Ytoogmlghfljeiaa.Q
namespace Go.Proofs.Ytoogmlghfljeiaa.Q
open Go.RowKit Go.Proofs.YtoogmlghfljeiaaW.PrintWords Go.Proofs.YtoogmlghfljeiaaW.PrintLast Go.Proofs.YtoogmlghfljeiaaW.PrintMore
attribute [local go_sem] max2_int min2_int max_two min_two max_three min_three max_four min_four
set_option linter.unusedVariables false
set_option linter.unusedSimpArgs false

def impl_isLetter.f (a0 : Int) : Option (Bool) := if a0 ≥ 97 then (if a0 ≤ 122 then (some true) else (if a0 ≥ 65 then (if a0 ≤ 90 then (some true) else (some (a0 == 95))) else (some (a0 == 95)))) else (if a0 ≥ 65 then (if a0 ≤ 90 then (some true) else (some (a0 == 95))) else (some (a0 == 95)))
set_option maxHeartbeats 8000000 in
set_option maxRecDepth 100000 in
theorem impl_isLetter.calls (a0 : Int) (r : Bool) (w : World) (h : impl_isLetter.f a0 = some r) :
  Calls Try.prog 59 #[.int .u8 a0] w fun e w' => e = .returned (.bool r) ∧ Drawn0 w w' := by
 have H : (if a0 ≥ 97 then (if a0 ≤ 122 then (some true) else (if a0 ≥ 65 then (if a0 ≤ 90 then (some true) else (some (a0 == 95))) else (some (a0 == 95)))) else (if a0 ≥ 65 then (if a0 ≤ 90 then (some true) else (some (a0 == 95))) else (some (a0 == 95)))) = some r := h; clear h
 by_cases c2 : a0 ≥ 97
 ·rw [if_pos c2] at H
  have c2b0 : decide (97 ≤ a0) = true := decide_eq_true c2; clear c2
  by_cases c3 : a0 ≤ 122
  ·rw [if_pos c3] at H
   have c3b0 : decide (a0 ≤ 122) = true := decide_eq_true c3; clear c3; obtain rfl := Option.some.inj H
   go_enter Try.func59, Try.ntmps59
   go_wp2
   go_ret
   exact ⟨by first | rfl | (simp; done) | (simp [*]; done), by repeat (first | exact Drawn0.refl _ | apply Drawn0.step)⟩
  ·rw [if_neg c3] at H
   have c3b0 : decide (a0 ≤ 122) = false := decide_eq_false c3; clear c3
   by_cases c4 : a0 ≥ 65
   ·rw [if_pos c4] at H
    have c4b0 : decide (65 ≤ a0) = true := decide_eq_true c4; clear c4
    by_cases c5 : a0 ≤ 90
    ·rw [if_pos c5] at H
     have c5b0 : decide (a0 ≤ 90) = true := decide_eq_true c5; clear c5; obtain rfl := Option.some.inj H
     go_enter Try.func59, Try.ntmps59
     go_wp2
     go_ret
     exact ⟨by first | rfl | (simp; done) | (simp [*]; done), by repeat (first | exact Drawn0.refl _ | apply Drawn0.step)⟩
    ·rw [if_neg c5] at H
     have c5b0 : decide (a0 ≤ 90) = false := decide_eq_false c5; clear c5; obtain rfl := Option.some.inj H
     go_enter Try.func59, Try.ntmps59
     go_wp2
     go_ret
     exact ⟨by first | rfl | (simp; done) | (simp [*]; done), by repeat (first | exact Drawn0.refl _ | apply Drawn0.step)⟩
   ·rw [if_neg c4] at H
    have c4b0 : decide (65 ≤ a0) = false := decide_eq_false c4; clear c4; obtain rfl := Option.some.inj H
    go_enter Try.func59, Try.ntmps59
    go_wp2
    go_ret
    exact ⟨by first | rfl | (simp; done) | (simp [*]; done), by repeat (first | exact Drawn0.refl _ | apply Drawn0.step)⟩
 ·rw [if_neg c2] at H
  have c2b0 : decide (97 ≤ a0) = false := decide_eq_false c2; clear c2
  by_cases c6 : a0 ≥ 65
  ·rw [if_pos c6] at H
   have c6b0 : decide (65 ≤ a0) = true := decide_eq_true c6; clear c6
   by_cases c7 : a0 ≤ 90
   ·rw [if_pos c7] at H
    have c7b0 : decide (a0 ≤ 90) = true := decide_eq_true c7; clear c7; obtain rfl := Option.some.inj H
    go_enter Try.func59, Try.ntmps59
    go_wp2
    go_ret
    exact ⟨by first | rfl | (simp; done) | (simp [*]; done), by repeat (first | exact Drawn0.refl _ | apply Drawn0.step)⟩
   ·rw [if_neg c7] at H
    have c7b0 : decide (a0 ≤ 90) = false := decide_eq_false c7; clear c7; obtain rfl := Option.some.inj H
    go_enter Try.func59, Try.ntmps59
    go_wp2
    go_ret
    exact ⟨by first | rfl | (simp; done) | (simp [*]; done), by repeat (first | exact Drawn0.refl _ | apply Drawn0.step)⟩
  ·rw [if_neg c6] at H
   have c6b0 : decide (65 ≤ a0) = false := decide_eq_false c6; clear c6; obtain rfl := Option.some.inj H
   go_enter Try.func59, Try.ntmps59
   go_wp2
   go_ret
   exact ⟨by first | rfl | (simp; done) | (simp [*]; done), by repeat (first | exact Drawn0.refl _ | apply Drawn0.step)⟩

end Go.Proofs.Ytoogmlghfljeiaa.Q
