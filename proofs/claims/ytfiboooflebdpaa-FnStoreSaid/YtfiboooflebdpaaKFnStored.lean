/- Texts of the claim on FnStore, gathered by a program of this session: what the program's functions compute (proved by walks), and the plain part. -/
import Derived.Test.YtfiboooflebdpaaKFnStorec
import Derived.RangeFuncNested
import Derived.RangeFuncBound
import Derived.RangeFuncCalls
import Derived.RangeFuncLeaves
import Derived.Shelf.RegionOpen
import Derived.WalkKit
import Derived.OwnWalkIn
import Derived.TacticsInMore
import Derived.LoopNIn
import Derived.LoopIn
namespace Go.Proofs.Ytfiboooflebdpaa.Q
open Go.RowKit Go.Proofs.YtfiboooflebdpaaW.PrintWords Go.Proofs.YtfiboooflebdpaaW.PrintLast Go.Proofs.YtfiboooflebdpaaW.PrintMore
attribute [local go_sem] max2_int min2_int max_two min_two max_three min_three max_four min_four
set_option linter.unusedVariables false
set_option linter.unusedSimpArgs false

def spec_l00Src_store.l0 : Nat → Int → List Int → Int → Int → List (List (S43)) → Int → Option ((List (List (S43))) × Int × Int × Int)
 | 0, _, _, _, _, _, _ => none
 | k + 1, x4, x1000, x1001, x1002, x107000, x107001 => if x4 > 0 then ((spec_l00Src_puts.f k x1000 x1001 x1002).bind fun bt117 => ((spec_l06Write.f k x107000 x107001 bt117.1).bind fun bt122 => ((spec_l00Src_chance.f x1000 bt117.2.1 bt117.2.2 6).bind fun bt126 => (if bt126.1 = true then ((spec_l00Src_next.f x1000 bt126.2.1 bt126.2.2 (wrap64 (bt122.2 + 1))).bind fun bt129 => ((spec_l06Forget.f k bt122.1 bt122.2 bt129.1).bind fun bt132 => (spec_l00Src_store.l0 k (wrap64 (x4 - 1)) x1000 bt129.2.1 bt129.2.2 bt132.1 bt132.2.1))) else (spec_l00Src_store.l0 k (wrap64 (x4 - 1)) x1000 bt126.2.1 bt126.2.2 bt122.1 bt122.2))))) else ((spec_l06Own.f k x107000 x107001).bind fun bt113 => (some (bt113.1, bt113.2, x1001, x1002)))
def spec_l00Src_store.f (k : Nat) (s0_0 : List Int) (s0_1 : Int) (s0_2 : Int) : Option ((List (List (S43))) × Int × Int × Int) := (spec_NewStore.f).bind fun bt102 => ((spec_l00Src_size.f s0_0 s0_1 s0_2 10).bind fun bt107 => ((spec_l00Src_next.f s0_0 bt107.2.1 bt107.2.2 (wrap64 (bt107.1 + 4))).bind fun bt110 => (spec_l00Src_store.l0 k bt110.1 s0_0 bt110.2.1 bt110.2.2 bt102.1 bt102.2)))
def spec_l00Src_store.T7 : Bool × List (List Nat × List Nat) := (true, [([], []), ([], []), ([], []), ([2], [2]), ([3], [3]), ([1, 4], [1, 4]), ([0, 5, 5], [0, 5]), ([6], [6]), ([7], [7]), ([7], [7]), ([], []), ([10, 8, 6, 0, 1, 2, 3, 4, 5, 6, 7, 8, 10], [8, 10]), ([9, 11, 0, 1, 2, 3, 4, 5, 6, 7, 8, 9, 10, 11], [9])])
def spec_l00Src_store.B7 : List Nat := [0, 0, 0, 4, 12, 30, 63, 127, 255, 255, 0, 1535, 4095]
theorem spec_l00Src_store.tab7 : rtab .any (opsOf Try.f63 7) = spec_l00Src_store.T7 := by kernel_rfl
theorem spec_l00Src_store.bits7 : waitsOk spec_l00Src_store.T7.2 spec_l00Src_store.B7 = true := by kernel_rfl
def spec_l00Src_store.y0 := #[qf,qf,qf,qf,qf,qf,qf,qf,qf,qf,qf,qf,qf]
def spec_l00Src_store.y1 := #[qf,qt,qf,qf,qf,qf,qf,qf,qf,qf,qf,qf,qf]
def spec_l00Src_store.y2 := #[qf,qt,qt,qf,qf,qf,qf,qf,qf,qf,qf,qf,qf]
def spec_l00Src_store.y3 := #[qt,qt,qt,qf,qf,qf,qf,qf,qf,qf,qf,qf,qf]
def spec_l00Src_store.y4 := #[qt,qt,qt,qt,qf,qf,qf,qf,qf,qf,qf,qf,qf]
def spec_l00Src_store.y5 := #[qt,qt,qt,qt,qt,qf,qf,qf,qf,qf,qf,qf,qf]
def spec_l00Src_store.y6 := #[qt,qt,qt,qt,qt,qt,qt,qt,qt,qt,qt,qf,qf]
def spec_l00Src_store.y7 := #[qt,qt,qt,qt,qt,qt,qf,qf,qf,qf,qf,qf,qf]
def spec_l00Src_store.y8 := #[qt,qt,qt,qt,qt,qf,qf,qf,qf,qf,qt,qf,qf]
def spec_l00Src_store.y9 := #[qt,qt,qt,qt,qt,qt,qt,qf,qf,qf,qf,qf,qf]
def spec_l00Src_store.y10 := #[qt,qt,qt,qt,qt,qt,qf,qf,qf,qf,qt,qf,qf]
def spec_l00Src_store.y11 := #[qt,qt,qt,qt,qt,qt,qt,qt,qf,qf,qf,qf,qf]
def spec_l00Src_store.y12 := #[qt,qt,qt,qt,qt,qt,qt,qt,qt,qf,qf,qf,qf]
def spec_l00Src_store.y13 := #[qt,qt,qt,qt,qt,qt,qt,qt,qt,qt,qf,qf,qf]
def spec_l00Src_store.y14 := #[qt,qt,qt,qt,qt,qt,qt,qf,qf,qf,qt,qf,qf]
def spec_l00Src_store.y15 := #[qt,qt,qt,qt,qt,qt,qt,qt,qf,qf,qt,qf,qf]
def spec_l00Src_store.y16 := #[qt,qt,qt,qt,qt,qt,qt,qt,qt,qf,qt,qf,qf]
def spec_l00Src_store.y17 := #[qt,qt,qt,qt,qt,qt,qt,qt,qt,qt,qt,qt,qf]
def spec_l00Src_store.y18 := #[qt,qt,qt,qt,qt,qt,qt,qt,qt,qt,qt,qt,qt]
set_option maxHeartbeats 8000000 in
set_option maxRecDepth 100000 in
theorem spec_l00Src_store.calls (k : Nat) (g : Nat) (s0_0 : List Int) (s0_1 : Int) (s0_2 : Int) (r1 : List (List (S43))) (r2 : Int) (r3 : Int) (r4 : Int) (w0 w : World) (hI : IsS128 w0 w g s0_0 s0_1 s0_2) (hB : Below w0.heap.size w0 w) (h : spec_l00Src_store.f k s0_0 s0_1 s0_2 = some (r1, r2, r3, r4)) :
  Calls Try.prog 63 #[.pointer (some ⟨g, 0, none⟩)] w fun e w' => ∃ v0_ : Value, e = .returned (.agg #[v0_, .int .i64 r2]) ∧ Kd.S (Kd.slice 43 k43) 41 w' w.heap.size (fun _ => True) v0_ r1 ∧ IsS128 w0 w' g s0_0 r3 r4 ∧ Below w0.heap.size w0 w' ∧ KeepBut w w' g none := by
 have hu28 := Try.underlying28; have HI0 := qO hI; have HK := qO (KeepBut.refl w g none); have HL := qO hB.size; clear hI; have HW0 := qO hB.size; have HB := qO hB; clear hB; have H : ((spec_NewStore.f).bind fun bt102 => ((spec_l00Src_size.f s0_0 s0_1 s0_2 10).bind fun bt107 => ((spec_l00Src_next.f s0_0 bt107.2.1 bt107.2.2 (wrap64 (bt107.1 + 4))).bind fun bt110 => (spec_l00Src_store.l0 k bt110.1 s0_0 bt110.2.1 bt110.2.2 bt102.1 bt102.2)))) = some (r1, r2, r3, r4) := h; clear h; replace H := Option.bind_eq_some_iff.mp H; obtain ⟨⟨t102, t105⟩, A20, H⟩ := H; replace H : ((spec_l00Src_size.f s0_0 s0_1 s0_2 10).bind fun bt107 => ((spec_l00Src_next.f s0_0 bt107.2.1 bt107.2.2 (wrap64 (bt107.1 + 4))).bind fun bt110 => (spec_l00Src_store.l0 k bt110.1 s0_0 bt110.2.1 bt110.2.2 t102 t105))) = some (r1, r2, r3, r4) := H; have A2 := qO A20; clear A20; replace H := Option.bind_eq_some_iff.mp H; obtain ⟨⟨t107, t108, t109⟩, A30, H⟩ := H; replace H : ((spec_l00Src_next.f s0_0 t108 t109 (wrap64 (t107 + 4))).bind fun bt110 => (spec_l00Src_store.l0 k bt110.1 s0_0 bt110.2.1 bt110.2.2 t102 t105)) = some (r1, r2, r3, r4) := H; have A3 := qO A30; clear A30; replace H := Option.bind_eq_some_iff.mp H; obtain ⟨⟨t110, t111, t112⟩, A40, H⟩ := H; replace H : (spec_l00Src_store.l0 k t110 s0_0 t111 t112 t102 t105) = some (r1, r2, r3, r4) := H; have A4 := qO A40; clear A40; have H' := qO H; clear H
 go_enter Try.func63, Try.ntmps63
 go_wp2_with (first | ((with_reducible refine gate_dst (N := 2) rfl ?_); refine qX 2 #[.slice none 0 0, .int .i64 0] 28 ?_; intro gb101 hg w5 hbox hb; have BK101 := qO (hbox); have GW101 := qO ((qa76 : w.heap.size ≤ gb101)); have GE101 := qO ((Nat.le_trans HW0.out (qa76 : w.heap.size ≤ gb101) : w0.heap.size ≤ gb101)); have NB0_101 := qO ((by rw [hg]; exact Nat.ne_of_lt (IsS128.lt (show IsS128 w0 _ g s0_0 s0_1 s0_2 from by repeat (first | (with_reducible first | exact HI0.out | apply IsS128.alloc | apply IsS128.drewN | apply IsS128.drew | apply IsS128.set_1 | apply IsS128.set_2) | exact HI0.out))) : g ≠ gb101)); have NB101_0 := qO ((by rw [hg]; exact Nat.ne_of_gt (IsS128.lt (show IsS128 w0 _ g s0_0 s0_1 s0_2 from by repeat (first | (with_reducible first | exact HI0.out | apply IsS128.alloc | apply IsS128.drewN | apply IsS128.drew | apply IsS128.set_1 | apply IsS128.set_2) | exact HI0.out))) : gb101 ≠ g)); replace HK := qO (KeepBut.trans qa21 (KeepBut.of_below hb g none) (.inl rfl)); replace HB := qO (below_step qa22 hb); replace HI0 := qO (IsS128.below qa15 hb); clear hb hbox hg) | ((with_reducible refine gate_callee (f := 107) rfl ?_); refine goesL_ (some 7) rfl rfl Try.func107 qa7 rfl #[] rfl qa0 ?_; (with_reducible refine (spec_NewStore.calls  t102 t105 _ A2.out).mono ?_); rintro e w6 ⟨v103, rfl, ho0, hb⟩; refine ⟨_, rfl, ?_⟩; have HO104 := qO (Kd.S_lower ho0 (keep_size (w := w) (g := g) (row := none) qa43)); replace BK101 := qO (blk_below (g := gb101) (o := .cells #[.slice none 0 0, .int .i64 0] 28 (0, 0)) qa4 hb); replace HK := qO (KeepBut.trans qa43 (KeepBut.of_below hb g none) (.inl rfl)); replace HB := qO (below_step qa57 hb); replace HI0 := qO (IsS128.below qa47 hb); (try clear hb); (try clear hb2); (try clear hk); (try clear hi); (try clear ho0)) | ((with_reducible refine gate_dst (N := 3) rfl ?_); refine qX 3 #[.slice none 0 0, .int .i64 0] 28 ?_; intro gb106 hg w7 hbox hb; have BK106 := qO (hbox); have GW106 := qO ((qa152 : w.heap.size ≤ gb106)); have GE106 := qO ((Nat.le_trans HW0.out (qa152 : w.heap.size ≤ gb106) : w0.heap.size ≤ gb106)); have NB101_106 := qO ((qa104 : gb101 ≠ gb106)); have NB106_101 := qO (Ne.symm NB101_106.out); have NB0_106 := qO ((by rw [hg]; exact Nat.ne_of_lt (IsS128.lt (show IsS128 w0 _ g s0_0 s0_1 s0_2 from by repeat (first | (with_reducible first | exact HI0.out | apply IsS128.alloc | apply IsS128.drewN | apply IsS128.drew | apply IsS128.set_1 | apply IsS128.set_2 | refine IsS128.far ?_ NB0_101.out _) | exact HI0.out))) : g ≠ gb106)); have NB106_0 := qO ((by rw [hg]; exact Nat.ne_of_gt (IsS128.lt (show IsS128 w0 _ g s0_0 s0_1 s0_2 from by repeat (first | (with_reducible first | exact HI0.out | apply IsS128.alloc | apply IsS128.drewN | apply IsS128.drew | apply IsS128.set_1 | apply IsS128.set_2 | refine IsS128.far ?_ NB0_101.out _) | exact HI0.out))) : gb106 ≠ g)); replace HO104 := qO (Kd.S_below qa202 hb); replace BK101 := qO (blk_below (g := gb101) (o := .cells #[.slice none 0 0, .int .i64 0] 28 (0, 0)) qa4 hb); replace HK := qO (KeepBut.trans qa43 (KeepBut.of_below hb g none) (.inl rfl)); replace HB := qO (below_step qa57 hb); replace HI0 := qO (IsS128.below qa47 hb); clear hb hbox hg; obtain ⟨Ao8, co8, eo8⟩ := Kd.S_slice HO104.out; subst eo8; have hnb9 := NB106_101.out; have hnc9 := NB101_106.out; have hnb10 := NB106_0.out; have hnc10 := NB0_106.out; obtain ⟨hcz11_0, hcz11_1, hfz11_0, hfz11_1⟩ := qb2 BK106.out) | ((with_reducible refine gate_callee (f := 109) rfl ?_); refine goesL_ (some 10) rfl rfl Try.func109 qa7 rfl #[.pointer (some ⟨g, 0, none⟩), .int .i64 10] rfl qa0 ?_; (with_reducible refine (spec_l00Src_size.calls g s0_0 s0_1 s0_2 10 t107 t108 t109 w0 _ ?side1 ?side2 A3.out).mono ?_); (case side1 => exact qa14); (case side2 => exact qa25); rintro e w12 ⟨rfl, hi, hb, hk⟩; refine ⟨_, rfl, ?_⟩; replace BK101 := qO (KeepBut.blk hk (g' := gb101) (o := .cells #[.slice none 0 0, .int .i64 0] 28 (0, 0)) qa23 NB101_0.out qa120); replace HO104 := qO (Kd.S_mono (Kd.S_keep (IsS128.apartS (show IsS128 w0 _ g s0_0 s0_1 s0_2 from by repeat (first | (with_reducible first | exact HI0.out | apply IsS128.alloc | apply IsS128.drewN | apply IsS128.drew | apply IsS128.set_1 | apply IsS128.set_2 | refine IsS128.far ?_ NB0_101.out _ | refine IsS128.far ?_ NB0_106.out _) | exact HI0.out)) (by (with_reducible repeat (first | apply Kd.S_alloc | apply Kd.S_drewN | apply Kd.S_drew)); exact (Kd.S_mono (Kd.S_far (p := ⟨gb106, 1, none⟩) (Kd.S_far (p := ⟨gb106, 0, none⟩) (Kd.S_types HO104.out BK106.out (by decide)) (fun _ hk => hk.2) (.slice Ao8 t102.length co8)) (fun _ hk => hk.2) (.int .i64 t105)) (fun _ h_ => h_.1))) qa69) hk (fun _ h => h.2)) (fun _ h => h.1)); replace BK106 := qO (KeepBut.blk hk (g' := gb106) (o := .cells #[.slice Ao8 t102.length co8, .int .i64 t105] 28 (0, 0)) (by (with_reducible repeat (first | refine qkN ?_ _ | refine qkD ?_ | refine qkA ?_ _)); refine blk_put (cs := #[.slice Ao8 t102.length co8, .int .i64 0]) ?_ 1 _ rfl; (with_reducible repeat (first | refine qkN ?_ _ | refine qkD ?_ | refine qkA ?_ _)); refine blk_put (cs := #[.slice none 0 0, .int .i64 0]) ?_ 0 _ rfl; (with_reducible repeat (first | refine qkN ?_ _ | refine qkD ?_ | refine qkA ?_ _)); exact BK106.out) NB106_0.out qa120); replace HK := qO (KeepBut.trans qa13 hk (.inl rfl)); replace HB := qO (hb); replace HI0 := qO (hi); (try clear hb); (try clear hb2); (try clear hk); (try clear hi)) | ((with_reducible refine gate_callee (f := 108) rfl ?_); refine goesL_ (some 12) rfl rfl Try.func108 qa7 rfl #[.pointer (some ⟨g, 0, none⟩), .int .i64 (wrap64 (t107 + 4))] rfl qa0 ?_; (with_reducible refine (spec_l00Src_next.calls g s0_0 t108 t109 (wrap64 (t107 + 4)) t110 t111 t112 w0 _ ?side1 ?side2 A4.out).mono ?_); (case side1 => exact qa14); (case side2 => exact qa25); rintro e w13 ⟨rfl, hi, hb, hk⟩; refine ⟨_, rfl, ?_⟩; replace BK101 := qO (KeepBut.blk hk (g' := gb101) (o := .cells #[.slice none 0 0, .int .i64 0] 28 (0, 0)) qa4 NB101_0.out qa120); replace HO104 := qO (Kd.S_mono (Kd.S_keep (IsS128.apartS (show IsS128 w0 _ g s0_0 t108 t109 from by repeat (first | (with_reducible first | exact HI0.out | apply IsS128.alloc | apply IsS128.drewN | apply IsS128.drew | apply IsS128.set_1 | apply IsS128.set_2 | refine IsS128.far ?_ NB0_101.out _ | refine IsS128.far ?_ NB0_106.out _) | exact HI0.out)) qa202 qa69) hk (fun _ h => h.2)) (fun _ h => h.1)); replace BK106 := qO (KeepBut.blk hk (g' := gb106) (o := .cells #[.slice Ao8 t102.length co8, .int .i64 t105] 28 (0, 0)) qa31 NB106_0.out qa120); replace HK := qO (KeepBut.trans qa13 hk (.inl rfl)); replace HB := qO (hb); replace HI0 := qO (hi); (try clear hb); (try clear hb2); (try clear hk); (try clear hi)))
 go_loopg [4] k (fun kq v4 w' => ∃ (x4_1 : Int) (x1001_1 : Int) (x1002_1 : Int) (x107000_1 : List (List (S43))) (x107001_1 : Int) (u107000 : Value), v4 = .int .i64 x4_1 ∧ Aside0 (spec_l00Src_store.l0 kq x4_1 s0_0 x1001_1 x1002_1 x107000_1 x107001_1 = some (r1, r2, r3, r4)) ∧ Aside0 (kq ≤ k) ∧ Aside0 (Kd.V (Kd.slice 43 k43) 41 w' w.heap.size (fun k_ => k_ ≠ gb101 ∧ k_ ≠ gb106 ∧ k_ ≠ g) u107000 x107000_1) ∧ Aside0 (w'.heap[gb101]? = some (.cells #[(.slice none 0 0), .int .i64 0] 28 (0, 0))) ∧ Aside0 (w'.heap[gb106]? = some (.cells #[u107000, .int .i64 x107001_1] 28 (0, 0))) ∧ Aside0 (IsS128 w0 w' g s0_0 x1001_1 x1002_1) ∧ Aside0 (KeepBut w w' g none) ∧ Aside0 (Below w0.heap.size w0 w'))
 case atStart => exact ⟨(t110), (t111), (t112), (t102), (t105), (.slice Ao8 t102.length co8), qa18, H', ⟨Nat.le_refl _⟩, ⟨Kd.S_V (by (with_reducible repeat (first | apply Kd.S_alloc | apply Kd.S_drewN | apply Kd.S_drew)); exact Kd.S_mono (IsS128.apartS HI0.out (Kd.S_types (Kd.S_types HO104.out BK101.out (by decide)) BK106.out (by decide)) (by decide)) (fun _ hk => ⟨hk.1.1.2, ⟨hk.1.2, hk.2⟩⟩))⟩, ⟨qa4⟩, ⟨qa31⟩, ⟨qa14⟩, ⟨qa13⟩, ⟨qa25⟩⟩
 case round =>
  clear H'
  try clear c1
  try clear p2
  try clear c6
  try clear p6
  try clear c9
  try clear c10
  try clear hcz11_0
  try clear hcz11_1
  try clear hfz11_0
  try clear hfz11_1
  obtain ⟨x4_1, x1001_1, x1002_1, x107000_1, x107001_1, u107000, rfl, HA, HK1, HO_107000, BK101, BK106, HI0, HK, HB⟩ := hrel
  cases gk with
  | zero => exact absurd HA.out (by simp [spec_l00Src_store.l0])
  | succ k1 =>
   have H := HA.out; clear HA; simp only [spec_l00Src_store.l0] at H
   by_cases c14 : x4_1 > 0
   ·rw [if_pos c14] at H
    have c14b0 : decide (0 < x4_1) = true := decide_eq_true c14; clear c14; replace H := Option.bind_eq_some_iff.mp H; obtain ⟨⟨t117, t120, t121⟩, A150, H⟩ := H; replace H : ((spec_l06Write.f k1 x107000_1 x107001_1 t117).bind fun bt122 => ((spec_l00Src_chance.f s0_0 t120 t121 6).bind fun bt126 => (if bt126.1 = true then ((spec_l00Src_next.f s0_0 bt126.2.1 bt126.2.2 (wrap64 (bt122.2 + 1))).bind fun bt129 => ((spec_l06Forget.f k1 bt122.1 bt122.2 bt129.1).bind fun bt132 => (spec_l00Src_store.l0 k1 (wrap64 (x4_1 - 1)) s0_0 bt129.2.1 bt129.2.2 bt132.1 bt132.2.1))) else (spec_l00Src_store.l0 k1 (wrap64 (x4_1 - 1)) s0_0 bt126.2.1 bt126.2.2 bt122.1 bt122.2)))) = some (r1, r2, r3, r4) := H; have A15 := qO A150; clear A150; replace H := Option.bind_eq_some_iff.mp H; obtain ⟨⟨t122, t125⟩, A160, H⟩ := H; replace H : ((spec_l00Src_chance.f s0_0 t120 t121 6).bind fun bt126 => (if bt126.1 = true then ((spec_l00Src_next.f s0_0 bt126.2.1 bt126.2.2 (wrap64 (t125 + 1))).bind fun bt129 => ((spec_l06Forget.f k1 t122 t125 bt129.1).bind fun bt132 => (spec_l00Src_store.l0 k1 (wrap64 (x4_1 - 1)) s0_0 bt129.2.1 bt129.2.2 bt132.1 bt132.2.1))) else (spec_l00Src_store.l0 k1 (wrap64 (x4_1 - 1)) s0_0 bt126.2.1 bt126.2.2 t122 t125))) = some (r1, r2, r3, r4) := H; have A16 := qO A160; clear A160; replace H := Option.bind_eq_some_iff.mp H; obtain ⟨⟨t126, t127, t128⟩, A170, H⟩ := H; replace H : (if t126 = true then ((spec_l00Src_next.f s0_0 t127 t128 (wrap64 (t125 + 1))).bind fun bt129 => ((spec_l06Forget.f k1 t122 t125 bt129.1).bind fun bt132 => (spec_l00Src_store.l0 k1 (wrap64 (x4_1 - 1)) s0_0 bt129.2.1 bt129.2.2 bt132.1 bt132.2.1))) else (spec_l00Src_store.l0 k1 (wrap64 (x4_1 - 1)) s0_0 t127 t128 t122 t125)) = some (r1, r2, r3, r4) := H; have A17 := qO A170; clear A170
    by_cases c18 : t126 = true
    ·subst c18
     have H1 : ((spec_l00Src_next.f s0_0 t127 t128 (wrap64 (t125 + 1))).bind fun bt129 => ((spec_l06Forget.f k1 t122 t125 bt129.1).bind fun bt132 => (spec_l00Src_store.l0 k1 (wrap64 (x4_1 - 1)) s0_0 bt129.2.1 bt129.2.2 bt132.1 bt132.2.1))) = some (r1, r2, r3, r4) := by rw [if_pos rfl] at H; exact H
     clear H; have H := H1; clear H1; replace H := Option.bind_eq_some_iff.mp H; obtain ⟨⟨t129, t130, t131⟩, A190, H⟩ := H; replace H : ((spec_l06Forget.f k1 t122 t125 t129).bind fun bt132 => (spec_l00Src_store.l0 k1 (wrap64 (x4_1 - 1)) s0_0 t130 t131 bt132.1 bt132.2.1)) = some (r1, r2, r3, r4) := H; have A19 := qO A190; clear A190; replace H := Option.bind_eq_some_iff.mp H; obtain ⟨⟨t132, t135, t136⟩, A200, H⟩ := H; replace H : (spec_l00Src_store.l0 k1 (wrap64 (x4_1 - 1)) s0_0 t130 t131 t132 t135) = some (r1, r2, r3, r4) := H; have A20 := qO A200; clear A200; have H' := qO H; clear H
     try go_wp2
     replace HO_107000 := qO (Kd.V_drew HO_107000.out); replace BK101 := qO (qkD BK101.out); replace BK106 := qO (qkD BK106.out); replace HI0 := qO (IsS128.drew HI0.out); replace HK := qO (keep_drew HK.out); replace HB := qO (qbD HB.out); refine start_ (n := 5) (S := fun w' => w'.cell? ⟨gb106, 0, none⟩ = some (u107000) ∧ w'.cell? ⟨gb106, 1, none⟩ = some (.int .i64 x107001_1)) (ds := [4]) #[qf,qf,qf,qf,qf] qa7 rfl rfl ⟨qc0 BK106.out, qc1 BK106.out⟩ (fun hHeld => ?_); generalize wr.drew = w21 at HO_107000 BK101 BK106 HI0 HK HB hHeld ⊢; refine qPu 1 18 #[qf,qt,qf,qf,qf] rfl rfl qa7 qa10 qa3 ?_; refine qTk 0 17 #[qt,qt,qf,qf,qf] rfl rfl qa7 qa111 hHeld qa3 ?_; refine one_ (i := 2) (N := some 19) #[qt,qt,qt,qf,qf] rfl rfl qa7 qa69 (fun K hK => ?_); refine goes_ Try.func78 qa7 rfl #[.pointer (some ⟨g, 0, none⟩)] (by rfl) rfl rfl qa0 ?_; (with_reducible refine (spec_l00Src_puts.calls k1 g s0_0 x1001_1 x1002_1 t117 t120 t121 w0 _ ?side1 ?side2 A15.out).mono ?_); (case side1 => exact qa14); (case side2 => exact qa25); rintro e w22 ⟨v118, rfl, ho0, hi, hb, hk⟩; refine ⟨_, rfl, ?_⟩; have HO119 := qO (Kd.R_lower ho0 (keep_size (w := w) (g := g) (row := none) qa13)); replace HO_107000 := qO (Kd.V_mono (Kd.V_told (Kd.V_oldK (Kd.V_mono (ok := fun k_ => (k_ ≠ gb101 ∧ (k_ ≠ gb106 ∧ k_ ≠ g))) qa65 (fun k_ hk_ => (⟨hk_, hk_.2.2⟩ : _ ∧ k_ ≠ g))) hk) (Kd.R_base ho0)) (fun _ h_ => h_.1)); replace BK101 := qO (KeepBut.blk hk (g' := gb101) (o := .cells #[.slice none 0 0, .int .i64 0] 28 (0, 0)) qa4 NB101_0.out qa120); replace BK106 := qO (KeepBut.blk hk (g' := gb106) (o := .cells #[u107000, .int .i64 x107001_1] 28 (0, 0)) qa31 NB106_0.out qa120); replace HK := qO (KeepBut.trans qa13 hk (.inl rfl)); replace HB := qO (hb); replace HI0 := qO (hi); (try clear hb); (try clear hb2); (try clear hk); (try clear hi); (try clear ho0); obtain ⟨Ao23, co23, eo23⟩ := Kd.V_slice HO_107000.out; (first | subst eo23 | (injection eo23 with f1_ f2_ f3_; have f4_ := f1_.symm; have f5_ := f3_.symm; clear f1_ f2_ f3_; subst f4_; subst f5_)); obtain ⟨Ao24, co24, eo24⟩ := Kd.R_slice HO119.out; (first | subst eo24 | (injection eo24 with f1_ f2_ f3_; have f4_ := f1_.symm; have f5_ := f3_.symm; clear f1_ f2_ f3_; subst f4_; subst f5_)); refine hK.out _ _ ⟨qc0 BK106.out, qc1 BK106.out⟩ (fun hHeld => ?_); clear hK K; refine norm_ (a' := ?_) ?_ ?_; rotate_left
     ·exact qa20
     refine one_ (i := 3) (N := some 20) #[qt,qt,qt,qt,qf] rfl rfl qa7 qa69 (fun K hK => ?_); refine goes_ Try.func73 qa7 rfl #[.agg #[.slice Ao23 x107000_1.length co23, .int .i64 x107001_1], .slice Ao24 t117.length co24] (by rfl) rfl rfl qa0 ?_; (with_reducible refine (spec_l06Write.calls k1 (fun k_ => ((k_ ≠ gb101 ∧ (k_ ≠ gb106 ∧ k_ ≠ g)) ∧ some k_ ≠ (.slice Ao24 t117.length co24 : Value).ownBlock)) _ _ x107000_1 x107001_1 _ _ t117 t122 t125 _ ?side1 ?side2 ?side3 A16.out).mono ?_); (case side1 => exact HO_107000.out); (case side2 => exact qa188); (case side3 => exact (Kd.R_reads' HO119.out).2.1); rintro e w25 ⟨v123, rfl, ho0, hb⟩; refine ⟨_, rfl, ?_⟩; have HO124 := qO (Kd.V_lower (Kd.V_mono (ok' := fun k_ => some k_ ≠ (.slice Ao24 t117.length co24 : Value).ownBlock ∧ k_ ≠ gb101 ∧ k_ ≠ gb106 ∧ k_ ≠ g) ho0 (fun k_ hk_ => ⟨Or.elim hk_ (fun hs_ => hs_.2) (fun hn_ => (Kd.fresh' (Kd.R_lt qa77) k_ hn_)), Or.elim hk_ (fun hs_ => hs_.1.1) (fun hn_ => (Kd.freshB (g := gb101) (o := .cells #[.slice none 0 0, .int .i64 0] 28 (0, 0)) qa4 k_ hn_)), Or.elim hk_ (fun hs_ => hs_.1.2.1) (fun hn_ => (Kd.freshB (g := gb106) (o := .cells #[.slice Ao23 x107000_1.length co23, .int .i64 x107001_1] 28 (0, 0)) qa31 k_ hn_)), Or.elim hk_ (fun hs_ => hs_.1.2.2) (fun hn_ => (IsS128.fresh qa14 k_ hn_))⟩)) (keep_size (w := w) (g := g) (row := none) qa13)); replace HO_107000 := qO (Kd.V_below qa65 hb); replace HO119 := qO (Kd.R_below qa77 hb); replace BK101 := qO (blk_below (g := gb101) (o := .cells #[.slice none 0 0, .int .i64 0] 28 (0, 0)) qa4 hb); replace BK106 := qO (blk_below (g := gb106) (o := .cells #[.slice Ao23 x107000_1.length co23, .int .i64 x107001_1] 28 (0, 0)) qa31 hb); replace HK := qO (KeepBut.trans qa13 (KeepBut.of_below hb g none) (.inl rfl)); replace HB := qO (below_step qa25 hb); replace HI0 := qO (IsS128.below qa14 hb); (try clear hb); (try clear hb2); (try clear hk); (try clear hi); (try clear ho0); obtain ⟨Ao26, co26, eo26⟩ := Kd.V_slice HO124.out; (first | subst eo26 | (injection eo26 with f1_ f2_ f3_; have f4_ := f1_.symm; have f5_ := f3_.symm; clear f1_ f2_ f3_; subst f4_; subst f5_)); refine hK.out _ _ ⟨qc0 BK106.out, qc1 BK106.out⟩ (fun hHeld => ?_); clear hK K; refine norm_ (a' := ?_) ?_ ?_; rotate_left
     ·exact qa20
     refine last_ (i := 4) (N := none) #[qt,qt,qt,qt,qt] rfl rfl qa7 qa69 (fun K hK => ?_); have hs27 := qc0 BK106.out; have hfs27 := blk_frozen BK106.out 0; have hns27_0 := NB101_106.out; have hms27_0 := NB106_101.out; have hs28 := qc1 BK106.out; have hfs28 := blk_frozen BK106.out 1; have hns28_0 := NB101_106.out; have hms28_0 := NB106_101.out; refine skip_ (w1 := ?_) (by rfl) rfl ?_ ?_; rotate_left
     ·go_simp
      rfl
     refine hK.out _ _ ?_; clear hK K; refine done_ qa7 ?_
     try go_wp2_with (first | ((with_reducible refine gate_callee (f := 110) rfl ?_); refine goesL_ (some 22) rfl rfl Try.func110 qa7 rfl #[.pointer (some ⟨g, 0, none⟩), .int .i64 6] rfl qa0 ?_; (with_reducible refine (spec_l00Src_chance.calls g s0_0 t120 t121 6 true t127 t128 w0 _ ?side1 ?side2 A17.out).mono ?_); (case side1 => exact qa14); (case side2 => exact qa25); rintro e w29 ⟨rfl, hi, hb, hk⟩; refine ⟨_, rfl, ?_⟩; replace HO_107000 := qO (Kd.V_mono (Kd.V_keep (Kd.V_mono (ok := fun k_ => ((k_ ≠ gb101 ∧ (k_ ≠ gb106 ∧ k_ ≠ g)) ∧ some k_ ≠ (.slice Ao24 t117.length co24 : Value).ownBlock)) (by (with_reducible repeat (first | apply Kd.V_alloc | apply Kd.V_drewN | apply Kd.V_drew)); exact (Kd.V_mono (Kd.V_far (p := ⟨gb106, 1, none⟩) (Kd.V_far (p := ⟨gb106, 0, none⟩) (Kd.V_mono HO_107000.out (fun k_ hk => (⟨hk, hk.1.2.1⟩ : _ ∧ k_ ≠ gb106))) (fun _ hk => hk.2) (.slice Ao26 t122.length co26)) (fun _ hk => hk.2) (.int .i64 t125)) (fun _ h_ => h_.1))) (fun k_ hk_ => (⟨hk_, hk_.1.2.2⟩ : _ ∧ k_ ≠ g))) hk (fun _ h => h.2)) (fun _ h => h.1)); replace BK101 := qO (KeepBut.blk hk (g' := gb101) (o := .cells #[.slice none 0 0, .int .i64 0] 28 (0, 0)) qa23 NB101_0.out qa120); replace HO119 := qO (Kd.R_mono (Kd.R_keep (IsS128.apart (show IsS128 w0 _ g s0_0 t120 t121 from by repeat (first | (with_reducible first | exact HI0.out | apply IsS128.alloc | apply IsS128.drewN | apply IsS128.drew | apply IsS128.set_1 | apply IsS128.set_2 | refine IsS128.far ?_ NB0_101.out _ | refine IsS128.far ?_ NB0_106.out _) | exact HI0.out)) (by (with_reducible repeat (first | apply Kd.R_alloc | apply Kd.R_drewN | apply Kd.R_drew)); exact (Kd.R_mono (Kd.R_far (p := ⟨gb106, 1, none⟩) (Kd.R_far (p := ⟨gb106, 0, none⟩) (Kd.R_types HO119.out BK106.out (by decide)) (fun _ hk => hk.2) (.slice Ao26 t122.length co26)) (fun _ hk => hk.2) (.int .i64 t125)) (fun _ h_ => h_.1))) qa69) hk (fun _ h => h.2)) (fun _ h => h.1)); replace BK106 := qO (KeepBut.blk hk (g' := gb106) (o := .cells #[.slice Ao26 t122.length co26, .int .i64 t125] 28 (0, 0)) (by (with_reducible repeat (first | refine qkN ?_ _ | refine qkD ?_ | refine qkA ?_ _)); refine blk_put (cs := #[.slice Ao26 t122.length co26, .int .i64 x107001_1]) ?_ 1 _ rfl; (with_reducible repeat (first | refine qkN ?_ _ | refine qkD ?_ | refine qkA ?_ _)); refine blk_put (cs := #[.slice Ao23 x107000_1.length co23, .int .i64 x107001_1]) ?_ 0 _ rfl; (with_reducible repeat (first | refine qkN ?_ _ | refine qkD ?_ | refine qkA ?_ _)); exact BK106.out) NB106_0.out qa120); replace HO124 := qO (Kd.V_mono (Kd.V_keep (Kd.V_mono (ok := fun k_ => (some k_ ≠ (.slice Ao24 t117.length co24 : Value).ownBlock ∧ (k_ ≠ gb101 ∧ (k_ ≠ gb106 ∧ k_ ≠ g)))) (by (with_reducible repeat (first | apply Kd.V_alloc | apply Kd.V_drewN | apply Kd.V_drew)); exact (Kd.V_mono (Kd.V_far (p := ⟨gb106, 1, none⟩) (Kd.V_far (p := ⟨gb106, 0, none⟩) (Kd.V_mono HO124.out (fun k_ hk => (⟨hk, hk.2.2.1⟩ : _ ∧ k_ ≠ gb106))) (fun _ hk => hk.2) (.slice Ao26 t122.length co26)) (fun _ hk => hk.2) (.int .i64 t125)) (fun _ h_ => h_.1))) (fun k_ hk_ => (⟨hk_, hk_.2.2.2⟩ : _ ∧ k_ ≠ g))) hk (fun _ h => h.2)) (fun _ h => h.1)); replace HK := qO (KeepBut.trans qa13 hk (.inl rfl)); replace HB := qO (hb); replace HI0 := qO (hi); (try clear hb); (try clear hb2); (try clear hk); (try clear hi)))
     replace HO_107000 := qO (Kd.V_drew HO_107000.out); replace HO119 := qO (Kd.R_drew HO119.out); replace HO124 := qO (Kd.V_drew HO124.out); replace BK101 := qO (qkD BK101.out); replace BK106 := qO (qkD BK106.out); replace HI0 := qO (IsS128.drew HI0.out); replace HK := qO (keep_drew HK.out); replace HB := qO (qbD HB.out); refine start_ (n := 13) (S := fun w' => w'.cell? ⟨gb106, 0, none⟩ = some (.slice Ao26 t122.length co26) ∧ w'.cell? ⟨gb106, 1, none⟩ = some (.int .i64 t125)) (ds := []) spec_l00Src_store.y0 qa7 rfl rfl ⟨qc0 BK106.out, qc1 BK106.out⟩ (fun hHeld => ?_); refine with_tabW spec_l00Src_store.tab7 spec_l00Src_store.bits7 (fun HT_ HW_ => ?_); generalize w29.drew = w30 at HO_107000 HO119 HO124 BK101 BK106 HI0 HK HB hHeld ⊢; refine qPu 1 25 spec_l00Src_store.y1 rfl rfl (any_of HT_.out qa7) qa10 qa3 ?_; refine qPu 2 26 spec_l00Src_store.y2 rfl rfl (any_of HT_.out qa7) qa10 qa3 ?_; refine qTk 0 24 spec_l00Src_store.y3 rfl rfl (take_ofW HT_.out HW_.out qa7) qa111 hHeld qa3 ?_; refine qTk 3 27 spec_l00Src_store.y4 rfl rfl (take_ofW HT_.out HW_.out qa7) qa111 hHeld qa3 ?_; refine qPu 4 28 spec_l00Src_store.y5 rfl rfl (any_of HT_.out qa7) qa10 qa3 ?_; refine join_ (σ := Value × Nat) 2 spec_l00Src_store.y6 (fun s_ => [(29, .int .i64 t129), (30, .tuple #[.agg #[s_.1, .int .i64 t135], .int .i64 t136]), (5, .pointer (some ⟨s_.2, 0, none⟩)), (23, .tuple #[.agg #[s_.1, .int .i64 t135], .int .i64 t136]), (31, .agg #[s_.1, .int .i64 t135]), (32, .int .i64 t136)]) (fun s_ w' => (w'.cell? ⟨gb106, 0, none⟩ = some (.slice Ao26 t122.length co26) ∧ w'.cell? ⟨gb106, 1, none⟩ = some (.int .i64 t125)) ∧ (Kd.R k58 58 w' w.heap.size (fun _ => True) (.slice Ao24 t117.length co24) t117) ∧ (Kd.V (Kd.slice 43 k43) 41 w' w.heap.size (fun k_ => some k_ ≠ (.slice Ao24 t117.length co24 : Value).ownBlock ∧ some k_ ≠ (s_.1 : Value).ownBlock ∧ k_ ≠ g ∧ k_ ≠ gb101 ∧ k_ ≠ gb106 ∧ k_ ≠ s_.2) (.slice Ao26 t122.length co26) t122) ∧ (Kd.S (Kd.slice 43 k43) 41 w' w.heap.size (fun _ => True) s_.1 t132) ∧ (Kd.V (Kd.slice 43 k43) 41 w' w.heap.size (fun k_ => some k_ ≠ (.slice Ao24 t117.length co24 : Value).ownBlock ∧ some k_ ≠ (s_.1 : Value).ownBlock ∧ k_ ≠ g ∧ k_ ≠ gb101 ∧ k_ ≠ gb106 ∧ k_ ≠ s_.2) (.slice Ao23 x107000_1.length co23) x107000_1) ∧ (w'.heap[gb101]? = some (.cells #[.slice none 0 0, .int .i64 0] 28 (0, 0))) ∧ (w'.heap[gb106]? = some (.cells #[.slice Ao26 t122.length co26, .int .i64 t125] 28 (0, 0))) ∧ (w'.heap[s_.2]? = some (.cells #[.slice none 0 0, .int .i64 0] 28 (0, 0))) ∧ (w.heap.size ≤ s_.2) ∧ (w0.heap.size ≤ s_.2) ∧ (g ≠ s_.2) ∧ (s_.2 ≠ g) ∧ (gb101 ≠ s_.2) ∧ (s_.2 ≠ gb101) ∧ (gb106 ≠ s_.2) ∧ (s_.2 ≠ gb106) ∧ (IsS128 w0 w' g s0_0 t130 t131) ∧ (KeepBut w w' g none) ∧ (Below w0.heap.size w0 w')) ?_ ?_; rotate_left
     ·intro hCont
      refine two_ (i := 5) (j := 10) (Ni := some 29) (Nj := some 5) spec_l00Src_store.y7 spec_l00Src_store.y8 rfl rfl rfl rfl (two_of HT_.out qa7) qa69 qa69 (fun K hK => ?_) (fun K hK => ?_)
      ·skip
       refine goes_ Try.func108 qa7 rfl #[.pointer (some ⟨g, 0, none⟩), .int .i64 (wrap64 (t125 + 1))] (by rfl) rfl rfl qa0 ?_; (with_reducible refine (spec_l00Src_next.calls g s0_0 t127 t128 (wrap64 (t125 + 1)) t129 t130 t131 w0 _ ?side1 ?side2 A19.out).mono ?_); (case side1 => exact qa14); (case side2 => exact qa25); rintro e w31 ⟨rfl, hi, hb, hk⟩; refine ⟨_, rfl, ?_⟩; replace HO_107000 := qO (Kd.V_mono (Kd.V_keep (Kd.V_mono (ok := fun k_ => ((k_ ≠ gb101 ∧ (k_ ≠ gb106 ∧ k_ ≠ g)) ∧ some k_ ≠ (.slice Ao24 t117.length co24 : Value).ownBlock)) qa65 (fun k_ hk_ => (⟨hk_, hk_.1.2.2⟩ : _ ∧ k_ ≠ g))) hk (fun _ h => h.2)) (fun _ h => h.1)); replace BK101 := qO (KeepBut.blk hk (g' := gb101) (o := .cells #[.slice none 0 0, .int .i64 0] 28 (0, 0)) qa4 NB101_0.out qa120); replace BK106 := qO (KeepBut.blk hk (g' := gb106) (o := .cells #[.slice Ao26 t122.length co26, .int .i64 t125] 28 (0, 0)) qa31 NB106_0.out qa120); replace HO119 := qO (Kd.R_mono (Kd.R_keep (IsS128.apart (show IsS128 w0 _ g s0_0 t127 t128 from by repeat (first | (with_reducible first | exact HI0.out | apply IsS128.alloc | apply IsS128.drewN | apply IsS128.drew | apply IsS128.set_1 | apply IsS128.set_2 | refine IsS128.far ?_ NB0_101.out _ | refine IsS128.far ?_ NB0_106.out _) | exact HI0.out)) qa77 qa69) hk (fun _ h => h.2)) (fun _ h => h.1)); replace HO124 := qO (Kd.V_mono (Kd.V_keep (Kd.V_mono (ok := fun k_ => (some k_ ≠ (.slice Ao24 t117.length co24 : Value).ownBlock ∧ (k_ ≠ gb101 ∧ (k_ ≠ gb106 ∧ k_ ≠ g)))) qa105 (fun k_ hk_ => (⟨hk_, hk_.2.2.2⟩ : _ ∧ k_ ≠ g))) hk (fun _ h => h.2)) (fun _ h => h.1)); replace HK := qO (KeepBut.trans qa13 hk (.inl rfl)); replace HB := qO (hb); replace HI0 := qO (hi); (try clear hb); (try clear hb2); (try clear hk); (try clear hi); refine hK.out _ _ ⟨qc0 BK106.out, qc1 BK106.out⟩ (fun hHeld => ?_); clear hK K; refine norm_ (a' := ?_) ?_ ?_; rotate_left
       ·exact qa20
       refine two_ (i := 6) (j := 10) (Ni := some 30) (Nj := some 5) spec_l00Src_store.y9 spec_l00Src_store.y10 rfl rfl rfl rfl (two_of HT_.out qa7) qa69 qa69 (fun K hK => ?_) (fun K hK => ?_)
       ·skip
        refine goes_ Try.func55 qa7 rfl #[.agg #[.slice Ao26 t122.length co26, .int .i64 t125], .int .i64 t129] (by rfl) rfl rfl qa0 ?_; (with_reducible refine (spec_l06Forget.calls k1 _ _ t122 t125 t129 t132 t135 t136 _ ?side1 ?side2 A20.out).mono ?_); (case side1 => exact qa163); (case side2 => exact (Kd.V_reads' HO124.out).2.1); rintro e w32 ⟨v133, rfl, ho0, hb⟩; refine ⟨_, rfl, ?_⟩; have HO134 := qO (Kd.S_lower ho0 (keep_size (w := w) (g := g) (row := none) qa13)); replace HO_107000 := qO (Kd.V_elder' qa65 (Kd.S_base ho0) hb); replace HO119 := qO (Kd.R_below qa77 hb); replace HO124 := qO (Kd.V_elder' qa105 (Kd.S_base ho0) hb); replace BK101 := qO (blk_below (g := gb101) (o := .cells #[.slice none 0 0, .int .i64 0] 28 (0, 0)) qa4 hb); replace BK106 := qO (blk_below (g := gb106) (o := .cells #[.slice Ao26 t122.length co26, .int .i64 t125] 28 (0, 0)) qa31 hb); replace HK := qO (KeepBut.trans qa13 (KeepBut.of_below hb g none) (.inl rfl)); replace HB := qO (below_step qa25 hb); replace HI0 := qO (IsS128.below qa14 hb); (try clear hb); (try clear hb2); (try clear hk); (try clear hi); (try clear ho0); refine hK.out _ _ ⟨qc0 BK106.out, qc1 BK106.out⟩ (fun hHeld => ?_); clear hK K; refine norm_ (a' := ?_) ?_ ?_; rotate_left
        ·exact qa20
        refine qPu 7 23 spec_l00Src_store.y11 rfl rfl (any_of HT_.out qa7) qa10 qa3 ?_; refine qPu 8 31 spec_l00Src_store.y12 rfl rfl (any_of HT_.out qa7) qa10 qa3 ?_; refine qPu 9 32 spec_l00Src_store.y13 rfl rfl (any_of HT_.out qa7) qa10 qa3 ?_; refine one_ (i := 10) (N := some 5) spec_l00Src_store.y6 rfl rfl (one_of HT_.out qa7) qa69 (fun K hK => ?_); refine box_step ?hg (N := 5) ?hd (cs := #[.slice none 0 0, .int .i64 0]) (t := 28) ?hr ?_; (case hd => rfl); (case hg => rfl); (case hr => exact qa16); intro gb137 hg w33 hbox hb; have BK137 := qO (hbox); have GW137 := qO ((qa56 : w.heap.size ≤ gb137)); have GE137 := qO ((Nat.le_trans HW0.out (qa56 : w.heap.size ≤ gb137) : w0.heap.size ≤ gb137)); have NB101_137 := qO ((qa104 : gb101 ≠ gb137)); have NB137_101 := qO (Ne.symm NB101_137.out); have NB106_137 := qO ((qa118 : gb106 ≠ gb137)); have NB137_106 := qO (Ne.symm NB106_137.out); have NB0_137 := qO ((by rw [hg]; exact Nat.ne_of_lt (IsS128.lt (show IsS128 w0 _ g s0_0 t130 t131 from by repeat (first | (with_reducible first | exact HI0.out | apply IsS128.alloc | apply IsS128.drewN | apply IsS128.drew | apply IsS128.set_1 | apply IsS128.set_2 | refine IsS128.far ?_ NB0_101.out _ | refine IsS128.far ?_ NB0_106.out _) | exact HI0.out))) : g ≠ gb137)); have NB137_0 := qO ((by rw [hg]; exact Nat.ne_of_gt (IsS128.lt (show IsS128 w0 _ g s0_0 t130 t131 from by repeat (first | (with_reducible first | exact HI0.out | apply IsS128.alloc | apply IsS128.drewN | apply IsS128.drew | apply IsS128.set_1 | apply IsS128.set_2 | refine IsS128.far ?_ NB0_101.out _ | refine IsS128.far ?_ NB0_106.out _) | exact HI0.out))) : gb137 ≠ g)); replace HO_107000 := qO (Kd.V_below (Kd.V_elderB qa65 gb137 (Nat.le_of_eq hg.symm)) hb); replace HO119 := qO (Kd.R_below qa77 hb); replace HO124 := qO (Kd.V_below (Kd.V_elderB qa105 gb137 (Nat.le_of_eq hg.symm)) hb); replace HO134 := qO (Kd.S_below (by (with_reducible repeat (first | apply Kd.S_alloc | apply Kd.S_drewN | apply Kd.S_drew)); exact HO134.out) hb); replace BK101 := qO (blk_below (g := gb101) (o := .cells #[.slice none 0 0, .int .i64 0] 28 (0, 0)) qa4 hb); replace BK106 := qO (blk_below (g := gb106) (o := .cells #[.slice Ao26 t122.length co26, .int .i64 t125] 28 (0, 0)) qa31 hb); replace HK := qO (KeepBut.trans qa13 (KeepBut.of_below hb g none) (.inl rfl)); replace HB := qO (below_step qa25 hb); replace HI0 := qO (IsS128.below qa14 hb); clear hb hbox hg; refine hK.out _ _ ⟨qc0 BK106.out, qc1 BK106.out⟩ (fun hHeld => ?_); clear hK K; refine norm_ (a' := ?_) ?_ ?_; rotate_left
        ·exact qa20
        exact norm_ (by simp only [putAll, Act.put, qzA, qzB, qzC]) (hCont (v133, gb137) _ ⟨hHeld, (by (with_reducible repeat (first | apply Kd.R_alloc | apply Kd.R_drewN | apply Kd.R_drew)); exact HO119.out), (by (with_reducible repeat (first | apply Kd.V_alloc | apply Kd.V_drewN | apply Kd.V_drew)); exact Kd.V_mono HO124.out (fun _ hk => ⟨hk.1.1.1, ⟨hk.1.2, ⟨hk.1.1.2.2.2, ⟨hk.1.1.2.1, ⟨hk.1.1.2.2.1, hk.2⟩⟩⟩⟩⟩)), (by (with_reducible repeat (first | apply Kd.S_alloc | apply Kd.S_drewN | apply Kd.S_drew)); exact HO134.out), (by (with_reducible repeat (first | apply Kd.V_alloc | apply Kd.V_drewN | apply Kd.V_drew)); exact Kd.V_mono HO_107000.out (fun _ hk => ⟨hk.1.1.2, ⟨hk.1.2, ⟨hk.1.1.1.2.2, ⟨hk.1.1.1.1, ⟨hk.1.1.1.2.1, hk.2⟩⟩⟩⟩⟩)), (by (with_reducible repeat (first | refine qkN ?_ _ | refine qkD ?_ | refine qkA ?_ _)); exact BK101.out), (by (with_reducible repeat (first | refine qkN ?_ _ | refine qkD ?_ | refine qkA ?_ _)); exact BK106.out), (by (with_reducible repeat (first | refine qkN ?_ _ | refine qkD ?_ | refine qkA ?_ _)); exact BK137.out), GW137.out, GE137.out, NB0_137.out, NB137_0.out, NB101_137.out, NB137_101.out, NB106_137.out, NB137_106.out, (by repeat (first | (with_reducible first | exact HI0.out | apply IsS128.alloc | apply IsS128.drewN | apply IsS128.drew | apply IsS128.set_1 | apply IsS128.set_2 | refine IsS128.far ?_ NB0_101.out _ | refine IsS128.far ?_ NB0_106.out _ | refine IsS128.far ?_ NB0_137.out _) | exact HI0.out)), (by repeat (first | (with_reducible first | exact HK.out | apply KeepBut.set_ | apply keep_drewN | apply keep_drew | apply keep_alloc | refine keep_far ?_ GW101.out _ | refine keep_far ?_ GW106.out _ | refine keep_far ?_ GW137.out _) | exact HK.out)), (by repeat (first | (with_reducible first | exact HB.out | apply qbA | apply qbN | apply qbD | refine qbS ?_ (IsS128.ge HI0.out) | refine qbS ?_ GE101.out | refine qbS ?_ GE106.out | refine qbS ?_ GE137.out) | exact HB.out))⟩)
       ·skip
        refine box_step ?hg (N := 5) ?hd (cs := #[.slice none 0 0, .int .i64 0]) (t := 28) ?hr ?_; (case hd => rfl); (case hg => rfl); (case hr => exact qa16); intro gb137 hg w32 hbox hb; have BK137 := qO (hbox); have GW137 := qO ((qa56 : w.heap.size ≤ gb137)); have GE137 := qO ((Nat.le_trans HW0.out (qa56 : w.heap.size ≤ gb137) : w0.heap.size ≤ gb137)); have NB101_137 := qO ((qa104 : gb101 ≠ gb137)); have NB137_101 := qO (Ne.symm NB101_137.out); have NB106_137 := qO ((qa118 : gb106 ≠ gb137)); have NB137_106 := qO (Ne.symm NB106_137.out); have NB0_137 := qO ((by rw [hg]; exact Nat.ne_of_lt (IsS128.lt (show IsS128 w0 _ g s0_0 t130 t131 from by repeat (first | (with_reducible first | exact HI0.out | apply IsS128.alloc | apply IsS128.drewN | apply IsS128.drew | apply IsS128.set_1 | apply IsS128.set_2 | refine IsS128.far ?_ NB0_101.out _ | refine IsS128.far ?_ NB0_106.out _) | exact HI0.out))) : g ≠ gb137)); have NB137_0 := qO ((by rw [hg]; exact Nat.ne_of_gt (IsS128.lt (show IsS128 w0 _ g s0_0 t130 t131 from by repeat (first | (with_reducible first | exact HI0.out | apply IsS128.alloc | apply IsS128.drewN | apply IsS128.drew | apply IsS128.set_1 | apply IsS128.set_2 | refine IsS128.far ?_ NB0_101.out _ | refine IsS128.far ?_ NB0_106.out _) | exact HI0.out))) : gb137 ≠ g)); replace HO_107000 := qO (Kd.V_below (Kd.V_elderB qa65 gb137 (Nat.le_of_eq hg.symm)) hb); replace HO119 := qO (Kd.R_below qa77 hb); replace HO124 := qO (Kd.V_below (Kd.V_elderB qa105 gb137 (Nat.le_of_eq hg.symm)) hb); replace BK101 := qO (blk_below (g := gb101) (o := .cells #[.slice none 0 0, .int .i64 0] 28 (0, 0)) qa4 hb); replace BK106 := qO (blk_below (g := gb106) (o := .cells #[.slice Ao26 t122.length co26, .int .i64 t125] 28 (0, 0)) qa31 hb); replace HK := qO (KeepBut.trans qa13 (KeepBut.of_below hb g none) (.inl rfl)); replace HB := qO (below_step qa25 hb); replace HI0 := qO (IsS128.below qa14 hb); clear hb hbox hg; refine hK.out _ _ ⟨qc0 BK106.out, qc1 BK106.out⟩ (fun hHeld => ?_); clear hK K; refine norm_ (a' := ?_) ?_ ?_; rotate_left
        ·exact qa20
        refine one_ (i := 6) (N := some 30) spec_l00Src_store.y14 rfl rfl (one_of HT_.out qa7) qa69 (fun K hK => ?_); refine goes_ Try.func55 qa7 rfl #[.agg #[.slice Ao26 t122.length co26, .int .i64 t125], .int .i64 t129] (by rfl) rfl rfl qa0 ?_; (with_reducible refine (spec_l06Forget.calls k1 _ _ t122 t125 t129 t132 t135 t136 _ ?side1 ?side2 A20.out).mono ?_); (case side1 => exact qa163); (case side2 => exact (Kd.V_reads' HO124.out).2.1); rintro e w33 ⟨v133, rfl, ho0, hb⟩; refine ⟨_, rfl, ?_⟩; have HO134 := qO (Kd.S_lower ho0 (keep_size (w := w) (g := g) (row := none) qa64)); replace HO_107000 := qO (Kd.V_elder' qa65 (Kd.S_base ho0) hb); replace HO119 := qO (Kd.R_below qa77 hb); replace HO124 := qO (Kd.V_elder' qa105 (Kd.S_base ho0) hb); replace BK101 := qO (blk_below (g := gb101) (o := .cells #[.slice none 0 0, .int .i64 0] 28 (0, 0)) qa4 hb); replace BK106 := qO (blk_below (g := gb106) (o := .cells #[.slice Ao26 t122.length co26, .int .i64 t125] 28 (0, 0)) qa31 hb); replace BK137 := qO (blk_below (g := gb137) (o := .cells #[.slice none 0 0, .int .i64 0] 28 (0, 0)) qa173 hb); replace HK := qO (KeepBut.trans qa64 (KeepBut.of_below hb g none) (.inl rfl)); replace HB := qO (below_step qa100 hb); replace HI0 := qO (IsS128.below qa82 hb); (try clear hb); (try clear hb2); (try clear hk); (try clear hi); (try clear ho0); refine hK.out _ _ ⟨qc0 BK106.out, qc1 BK106.out⟩ (fun hHeld => ?_); clear hK K; refine norm_ (a' := ?_) ?_ ?_; rotate_left
        ·exact qa20
        refine qPu 7 23 spec_l00Src_store.y15 rfl rfl (any_of HT_.out qa7) qa10 qa3 ?_; refine qPu 8 31 spec_l00Src_store.y16 rfl rfl (any_of HT_.out qa7) qa10 qa3 ?_; refine qPu 9 32 spec_l00Src_store.y6 rfl rfl (any_of HT_.out qa7) qa10 qa3 ?_
        exact norm_ (by simp only [putAll, Act.put, qzA, qzB, qzC]) (hCont (v133, gb137) _ ⟨hHeld, (by (with_reducible repeat (first | apply Kd.R_alloc | apply Kd.R_drewN | apply Kd.R_drew)); exact HO119.out), (by (with_reducible repeat (first | apply Kd.V_alloc | apply Kd.V_drewN | apply Kd.V_drew)); exact Kd.V_mono HO124.out (fun _ hk => ⟨hk.1.1.1, ⟨hk.2, ⟨hk.1.1.2.2.2, ⟨hk.1.1.2.1, ⟨hk.1.1.2.2.1, hk.1.2⟩⟩⟩⟩⟩)), (by (with_reducible repeat (first | apply Kd.S_alloc | apply Kd.S_drewN | apply Kd.S_drew)); exact HO134.out), (by (with_reducible repeat (first | apply Kd.V_alloc | apply Kd.V_drewN | apply Kd.V_drew)); exact Kd.V_mono HO_107000.out (fun _ hk => ⟨hk.1.1.2, ⟨hk.2, ⟨hk.1.1.1.2.2, ⟨hk.1.1.1.1, ⟨hk.1.1.1.2.1, hk.1.2⟩⟩⟩⟩⟩)), (by (with_reducible repeat (first | refine qkN ?_ _ | refine qkD ?_ | refine qkA ?_ _)); exact BK101.out), (by (with_reducible repeat (first | refine qkN ?_ _ | refine qkD ?_ | refine qkA ?_ _)); exact BK106.out), (by (with_reducible repeat (first | refine qkN ?_ _ | refine qkD ?_ | refine qkA ?_ _)); exact BK137.out), GW137.out, GE137.out, NB0_137.out, NB137_0.out, NB101_137.out, NB137_101.out, NB106_137.out, NB137_106.out, (by repeat (first | (with_reducible first | exact HI0.out | apply IsS128.alloc | apply IsS128.drewN | apply IsS128.drew | apply IsS128.set_1 | apply IsS128.set_2 | refine IsS128.far ?_ NB0_101.out _ | refine IsS128.far ?_ NB0_106.out _ | refine IsS128.far ?_ NB0_137.out _) | exact HI0.out)), (by repeat (first | (with_reducible first | exact HK.out | apply KeepBut.set_ | apply keep_drewN | apply keep_drew | apply keep_alloc | refine keep_far ?_ GW101.out _ | refine keep_far ?_ GW106.out _ | refine keep_far ?_ GW137.out _) | exact HK.out)), (by repeat (first | (with_reducible first | exact HB.out | apply qbA | apply qbN | apply qbD | refine qbS ?_ (IsS128.ge HI0.out) | refine qbS ?_ GE101.out | refine qbS ?_ GE106.out | refine qbS ?_ GE137.out) | exact HB.out))⟩)
      ·skip
       refine box_step ?hg (N := 5) ?hd (cs := #[.slice none 0 0, .int .i64 0]) (t := 28) ?hr ?_; (case hd => rfl); (case hg => rfl); (case hr => exact qa16); intro gb137 hg w31 hbox hb; have BK137 := qO (hbox); have GW137 := qO ((qa56 : w.heap.size ≤ gb137)); have GE137 := qO ((Nat.le_trans HW0.out (qa56 : w.heap.size ≤ gb137) : w0.heap.size ≤ gb137)); have NB101_137 := qO ((qa104 : gb101 ≠ gb137)); have NB137_101 := qO (Ne.symm NB101_137.out); have NB106_137 := qO ((qa118 : gb106 ≠ gb137)); have NB137_106 := qO (Ne.symm NB106_137.out); have NB0_137 := qO ((by rw [hg]; exact Nat.ne_of_lt (IsS128.lt (show IsS128 w0 _ g s0_0 t127 t128 from by repeat (first | (with_reducible first | exact HI0.out | apply IsS128.alloc | apply IsS128.drewN | apply IsS128.drew | apply IsS128.set_1 | apply IsS128.set_2 | refine IsS128.far ?_ NB0_101.out _ | refine IsS128.far ?_ NB0_106.out _) | exact HI0.out))) : g ≠ gb137)); have NB137_0 := qO ((by rw [hg]; exact Nat.ne_of_gt (IsS128.lt (show IsS128 w0 _ g s0_0 t127 t128 from by repeat (first | (with_reducible first | exact HI0.out | apply IsS128.alloc | apply IsS128.drewN | apply IsS128.drew | apply IsS128.set_1 | apply IsS128.set_2 | refine IsS128.far ?_ NB0_101.out _ | refine IsS128.far ?_ NB0_106.out _) | exact HI0.out))) : gb137 ≠ g)); replace HO_107000 := qO (Kd.V_below (Kd.V_elderB qa65 gb137 (Nat.le_of_eq hg.symm)) hb); replace HO119 := qO (Kd.R_below qa77 hb); replace HO124 := qO (Kd.V_below (Kd.V_elderB qa105 gb137 (Nat.le_of_eq hg.symm)) hb); replace BK101 := qO (blk_below (g := gb101) (o := .cells #[.slice none 0 0, .int .i64 0] 28 (0, 0)) qa4 hb); replace BK106 := qO (blk_below (g := gb106) (o := .cells #[.slice Ao26 t122.length co26, .int .i64 t125] 28 (0, 0)) qa31 hb); replace HK := qO (KeepBut.trans qa13 (KeepBut.of_below hb g none) (.inl rfl)); replace HB := qO (below_step qa25 hb); replace HI0 := qO (IsS128.below qa14 hb); clear hb hbox hg; refine hK.out _ _ ⟨qc0 BK106.out, qc1 BK106.out⟩ (fun hHeld => ?_); clear hK K; refine norm_ (a' := ?_) ?_ ?_; rotate_left
       ·exact qa20
       refine one_ (i := 5) (N := some 29) spec_l00Src_store.y10 rfl rfl (one_of HT_.out qa7) qa69 (fun K hK => ?_); refine goes_ Try.func108 qa7 rfl #[.pointer (some ⟨g, 0, none⟩), .int .i64 (wrap64 (t125 + 1))] (by rfl) rfl rfl qa0 ?_; (with_reducible refine (spec_l00Src_next.calls g s0_0 t127 t128 (wrap64 (t125 + 1)) t129 t130 t131 w0 _ ?side1 ?side2 A19.out).mono ?_); (case side1 => exact qa82); (case side2 => exact qa100); rintro e w32 ⟨rfl, hi, hb, hk⟩; refine ⟨_, rfl, ?_⟩; replace HO_107000 := qO (Kd.V_mono (Kd.V_keep (Kd.V_mono (ok := fun k_ => (((k_ ≠ gb101 ∧ (k_ ≠ gb106 ∧ k_ ≠ g)) ∧ some k_ ≠ (.slice Ao24 t117.length co24 : Value).ownBlock) ∧ k_ ≠ gb137)) qa65 (fun k_ hk_ => (⟨hk_, hk_.1.1.2.2⟩ : _ ∧ k_ ≠ g))) hk (fun _ h => h.2)) (fun _ h => h.1)); replace BK101 := qO (KeepBut.blk hk (g' := gb101) (o := .cells #[.slice none 0 0, .int .i64 0] 28 (0, 0)) qa4 NB101_0.out qa120); replace BK106 := qO (KeepBut.blk hk (g' := gb106) (o := .cells #[.slice Ao26 t122.length co26, .int .i64 t125] 28 (0, 0)) qa31 NB106_0.out qa120); replace HO119 := qO (Kd.R_mono (Kd.R_keep (IsS128.apart (show IsS128 w0 _ g s0_0 t127 t128 from by repeat (first | (with_reducible first | exact HI0.out | apply IsS128.alloc | apply IsS128.drewN | apply IsS128.drew | apply IsS128.set_1 | apply IsS128.set_2 | refine IsS128.far ?_ NB0_101.out _ | refine IsS128.far ?_ NB0_106.out _ | refine IsS128.far ?_ NB0_137.out _) | exact HI0.out)) qa77 qa69) hk (fun _ h => h.2)) (fun _ h => h.1)); replace HO124 := qO (Kd.V_mono (Kd.V_keep (Kd.V_mono (ok := fun k_ => ((some k_ ≠ (.slice Ao24 t117.length co24 : Value).ownBlock ∧ (k_ ≠ gb101 ∧ (k_ ≠ gb106 ∧ k_ ≠ g))) ∧ k_ ≠ gb137)) qa105 (fun k_ hk_ => (⟨hk_, hk_.1.2.2.2⟩ : _ ∧ k_ ≠ g))) hk (fun _ h => h.2)) (fun _ h => h.1)); replace BK137 := qO (KeepBut.blk hk (g' := gb137) (o := .cells #[.slice none 0 0, .int .i64 0] 28 (0, 0)) qa173 NB137_0.out qa120); replace HK := qO (KeepBut.trans qa64 hk (.inl rfl)); replace HB := qO (hb); replace HI0 := qO (hi); (try clear hb); (try clear hb2); (try clear hk); (try clear hi); refine hK.out _ _ ⟨qc0 BK106.out, qc1 BK106.out⟩ (fun hHeld => ?_); clear hK K; refine norm_ (a' := ?_) ?_ ?_; rotate_left
       ·exact qa20
       refine one_ (i := 6) (N := some 30) spec_l00Src_store.y14 rfl rfl (one_of HT_.out qa7) qa69 (fun K hK => ?_); refine goes_ Try.func55 qa7 rfl #[.agg #[.slice Ao26 t122.length co26, .int .i64 t125], .int .i64 t129] (by rfl) rfl rfl qa0 ?_; (with_reducible refine (spec_l06Forget.calls k1 _ _ t122 t125 t129 t132 t135 t136 _ ?side1 ?side2 A20.out).mono ?_); (case side1 => exact qa163); (case side2 => exact (Kd.V_reads' HO124.out).2.1); rintro e w33 ⟨v133, rfl, ho0, hb⟩; refine ⟨_, rfl, ?_⟩; have HO134 := qO (Kd.S_lower ho0 (keep_size (w := w) (g := g) (row := none) qa64)); replace HO_107000 := qO (Kd.V_elder' qa65 (Kd.S_base ho0) hb); replace HO119 := qO (Kd.R_below qa77 hb); replace HO124 := qO (Kd.V_elder' qa105 (Kd.S_base ho0) hb); replace BK101 := qO (blk_below (g := gb101) (o := .cells #[.slice none 0 0, .int .i64 0] 28 (0, 0)) qa4 hb); replace BK106 := qO (blk_below (g := gb106) (o := .cells #[.slice Ao26 t122.length co26, .int .i64 t125] 28 (0, 0)) qa31 hb); replace BK137 := qO (blk_below (g := gb137) (o := .cells #[.slice none 0 0, .int .i64 0] 28 (0, 0)) qa173 hb); replace HK := qO (KeepBut.trans qa64 (KeepBut.of_below hb g none) (.inl rfl)); replace HB := qO (below_step qa100 hb); replace HI0 := qO (IsS128.below qa82 hb); (try clear hb); (try clear hb2); (try clear hk); (try clear hi); (try clear ho0); refine hK.out _ _ ⟨qc0 BK106.out, qc1 BK106.out⟩ (fun hHeld => ?_); clear hK K; refine norm_ (a' := ?_) ?_ ?_; rotate_left
       ·exact qa20
       refine qPu 7 23 spec_l00Src_store.y15 rfl rfl (any_of HT_.out qa7) qa10 qa3 ?_; refine qPu 8 31 spec_l00Src_store.y16 rfl rfl (any_of HT_.out qa7) qa10 qa3 ?_; refine qPu 9 32 spec_l00Src_store.y6 rfl rfl (any_of HT_.out qa7) qa10 qa3 ?_
       exact norm_ (by simp only [putAll, Act.put, qzA, qzB, qzC]) (hCont (v133, gb137) _ ⟨hHeld, (by (with_reducible repeat (first | apply Kd.R_alloc | apply Kd.R_drewN | apply Kd.R_drew)); exact HO119.out), (by (with_reducible repeat (first | apply Kd.V_alloc | apply Kd.V_drewN | apply Kd.V_drew)); exact Kd.V_mono HO124.out (fun _ hk => ⟨hk.1.1.1, ⟨hk.2, ⟨hk.1.1.2.2.2, ⟨hk.1.1.2.1, ⟨hk.1.1.2.2.1, hk.1.2⟩⟩⟩⟩⟩)), (by (with_reducible repeat (first | apply Kd.S_alloc | apply Kd.S_drewN | apply Kd.S_drew)); exact HO134.out), (by (with_reducible repeat (first | apply Kd.V_alloc | apply Kd.V_drewN | apply Kd.V_drew)); exact Kd.V_mono HO_107000.out (fun _ hk => ⟨hk.1.1.2, ⟨hk.2, ⟨hk.1.1.1.2.2, ⟨hk.1.1.1.1, ⟨hk.1.1.1.2.1, hk.1.2⟩⟩⟩⟩⟩)), (by (with_reducible repeat (first | refine qkN ?_ _ | refine qkD ?_ | refine qkA ?_ _)); exact BK101.out), (by (with_reducible repeat (first | refine qkN ?_ _ | refine qkD ?_ | refine qkA ?_ _)); exact BK106.out), (by (with_reducible repeat (first | refine qkN ?_ _ | refine qkD ?_ | refine qkA ?_ _)); exact BK137.out), GW137.out, GE137.out, NB0_137.out, NB137_0.out, NB101_137.out, NB137_101.out, NB106_137.out, NB137_106.out, (by repeat (first | (with_reducible first | exact HI0.out | apply IsS128.alloc | apply IsS128.drewN | apply IsS128.drew | apply IsS128.set_1 | apply IsS128.set_2 | refine IsS128.far ?_ NB0_101.out _ | refine IsS128.far ?_ NB0_106.out _ | refine IsS128.far ?_ NB0_137.out _) | exact HI0.out)), (by repeat (first | (with_reducible first | exact HK.out | apply KeepBut.set_ | apply keep_drewN | apply keep_drew | apply keep_alloc | refine keep_far ?_ GW101.out _ | refine keep_far ?_ GW106.out _ | refine keep_far ?_ GW137.out _) | exact HK.out)), (by repeat (first | (with_reducible first | exact HB.out | apply qbA | apply qbN | apply qbD | refine qbS ?_ (IsS128.ge HI0.out) | refine qbS ?_ GE101.out | refine qbS ?_ GE106.out | refine qbS ?_ GE137.out) | exact HB.out))⟩)
     rintro ⟨v133, gb137⟩ w34 ⟨hS_, h0_, h1_, h2_, h3_, h4_, h5_, h6_, h7_, h8_, h9_, h10_, h11_, h12_, h13_, h14_, h15_, h16_, h17_⟩; have n0_ : Aside0 (Kd.R k58 58 w34 w.heap.size (fun _ => True) (.slice Ao24 t117.length co24) t117) := ⟨h0_⟩; have n1_ : Aside0 (Kd.V (Kd.slice 43 k43) 41 w34 w.heap.size (fun k_ => some k_ ≠ (.slice Ao24 t117.length co24 : Value).ownBlock ∧ some k_ ≠ (v133 : Value).ownBlock ∧ k_ ≠ g ∧ k_ ≠ gb101 ∧ k_ ≠ gb106 ∧ k_ ≠ gb137) (.slice Ao26 t122.length co26) t122) := ⟨h1_⟩; have n2_ : Aside0 (Kd.S (Kd.slice 43 k43) 41 w34 w.heap.size (fun _ => True) v133 t132) := ⟨h2_⟩; have n3_ : Aside0 (Kd.V (Kd.slice 43 k43) 41 w34 w.heap.size (fun k_ => some k_ ≠ (.slice Ao24 t117.length co24 : Value).ownBlock ∧ some k_ ≠ (v133 : Value).ownBlock ∧ k_ ≠ g ∧ k_ ≠ gb101 ∧ k_ ≠ gb106 ∧ k_ ≠ gb137) (.slice Ao23 x107000_1.length co23) x107000_1) := ⟨h3_⟩; have n4_ : Aside0 (w34.heap[gb101]? = some (.cells #[.slice none 0 0, .int .i64 0] 28 (0, 0))) := ⟨h4_⟩; have n5_ : Aside0 (w34.heap[gb106]? = some (.cells #[.slice Ao26 t122.length co26, .int .i64 t125] 28 (0, 0))) := ⟨h5_⟩; have n6_ : Aside0 (w34.heap[gb137]? = some (.cells #[.slice none 0 0, .int .i64 0] 28 (0, 0))) := ⟨h6_⟩; have n7_ : Aside0 (w.heap.size ≤ gb137) := ⟨h7_⟩; have n8_ : Aside0 (w0.heap.size ≤ gb137) := ⟨h8_⟩; have n9_ : Aside0 (g ≠ gb137) := ⟨h9_⟩; have n10_ : Aside0 (gb137 ≠ g) := ⟨h10_⟩; have n11_ : Aside0 (gb101 ≠ gb137) := ⟨h11_⟩; have n12_ : Aside0 (gb137 ≠ gb101) := ⟨h12_⟩; have n13_ : Aside0 (gb106 ≠ gb137) := ⟨h13_⟩; have n14_ : Aside0 (gb137 ≠ gb106) := ⟨h14_⟩; have n15_ : Aside0 (IsS128 w0 w34 g s0_0 t130 t131) := ⟨h15_⟩; have n16_ : Aside0 (KeepBut w w34 g none) := ⟨h16_⟩; have n17_ : Aside0 (Below w0.heap.size w0 w34) := ⟨h17_⟩; clear HO_107000 HO119 HO124 BK101 BK106 HI0 HK HB h0_ h1_ h2_ h3_ h4_ h5_ h6_ h7_ h8_ h9_ h10_ h11_ h12_ h13_ h14_ h15_ h16_ h17_; have HO119 := n0_; have HO124 := n1_; have HO134 := n2_; have HO_107000 := n3_; have BK101 := n4_; have BK106 := n5_; have BK137 := n6_; have GW137 := n7_; have GE137 := n8_; have NB0_137 := n9_; have NB137_0 := n10_; have NB101_137 := n11_; have NB137_101 := n12_; have NB106_137 := n13_; have NB137_106 := n14_; have HI0 := n15_; have HK := n16_; have HB := n17_; clear n0_ n1_ n2_ n3_ n4_ n5_ n6_ n7_ n8_ n9_ n10_ n11_ n12_ n13_ n14_ n15_ n16_ n17_; have hHeld : w34.cell? ⟨gb106, 0, none⟩ = some (.slice Ao26 t122.length co26) ∧ w34.cell? ⟨gb106, 1, none⟩ = some (.int .i64 t125) := hS_; obtain ⟨Ao35, co35, eo35⟩ := Kd.S_slice HO134.out; (first | subst eo35 | (injection eo35 with f1_ f2_ f3_; have f4_ := f1_.symm; have f5_ := f3_.symm; clear f1_ f2_ f3_; subst f4_; subst f5_)); refine norm_ (a' := ?_) ?_ ?_; rotate_left
     ·simp only [putAll, Act.put, qzA, qzB, qzC]
      rfl
     refine one_ (i := 11) (N := none) spec_l00Src_store.y17 rfl rfl (one_of HT_.out qa7) qa69 (fun K hK => ?_); have hs36 := qc0 BK137.out; have hfs36 := blk_frozen BK137.out 0; have hns36_0 := NB101_137.out; have hns36_1 := NB106_137.out; have hms36_0 := NB137_101.out; have hms36_1 := NB137_106.out; have hs37 := qc1 BK137.out; have hfs37 := blk_frozen BK137.out 1; have hns37_0 := NB101_137.out; have hns37_1 := NB106_137.out; have hms37_0 := NB137_101.out; have hms37_1 := NB137_106.out; refine skip_ (w1 := ?_) (by rfl) rfl ?_ ?_; rotate_left
     ·go_simp
      rfl
     refine hK.out _ _ ⟨((cell_far (p := ⟨gb137, _, none⟩) NB106_137.out _).trans (((cell_far (p := ⟨gb137, _, none⟩) NB106_137.out _).trans (hHeld.1)))), ((cell_far (p := ⟨gb137, _, none⟩) NB106_137.out _).trans (((cell_far (p := ⟨gb137, _, none⟩) NB106_137.out _).trans (hHeld.2))))⟩ (fun hHeld => ?_); clear hK K; refine qPu 12 6 spec_l00Src_store.y18 rfl rfl (any_of HT_.out qa7) qa10 qa3 ?_; refine done_ (done_of HT_.out qa7) ?_; have hnb38 := NB137_101.out; have hnc38 := NB101_137.out; have hnb39 := NB137_106.out; have hnc39 := NB106_137.out; have hnb40 := NB137_0.out; have hnc40 := NB0_137.out; obtain ⟨hcz41_0, hcz41_1, hfz41_0, hfz41_1⟩ := qb2 BK137.out; have hnb42 := NB106_101.out; have hnc42 := NB101_106.out; have hnb43 := NB106_0.out; have hnc43 := NB0_106.out; obtain ⟨hcz44_0, hcz44_1, hfz44_0, hfz44_1⟩ := qb2 BK106.out
     try go_wp2
     go_roundg k1
     case measure => have := HK1.out; omega
     case rel => exact ⟨(wrap64 (x4_1 - 1)), (t130), (t131), (t132), (t135), (.slice Ao35 t132.length co35), qa18, H', ⟨qa164⟩, ⟨Kd.S_V (by (with_reducible repeat (first | apply Kd.S_alloc | apply Kd.S_drewN | apply Kd.S_drew)); exact Kd.S_mono (Kd.S_far (p := ⟨gb106, 1, none⟩) (Kd.S_far (p := ⟨gb106, 0, none⟩) (Kd.S_far (p := ⟨gb137, 1, none⟩) (Kd.S_far (p := ⟨gb137, 0, none⟩) (Kd.S_types (Kd.S_types (IsS128.apartS HI0.out (Kd.S_types (Kd.S_types HO134.out BK101.out (by decide)) BK106.out (by decide)) (by decide)) BK137.out (by decide)) BK106.out (by decide)) (fun _ hk => hk.1.2) (.slice Ao35 t132.length co35)) (fun _ hk => hk.1.2) (.int .i64 t135)) (fun _ hk => hk.2) (.slice Ao35 t132.length co35)) (fun _ hk => hk.2) (.int .i64 t135)) (fun _ hk => ⟨hk.1.1.1.1.2, ⟨hk.1.1.1.2, hk.1.1.2⟩⟩))⟩, ⟨by (with_reducible repeat (first | refine qkN ?_ _ | refine qkD ?_ | refine qkA ?_ _)); refine blk_far ?_ NB101_106.out _; (with_reducible repeat (first | refine qkN ?_ _ | refine qkD ?_ | refine qkA ?_ _)); refine blk_far ?_ NB101_106.out _; (with_reducible repeat (first | refine qkN ?_ _ | refine qkD ?_ | refine qkA ?_ _)); refine blk_far ?_ NB101_137.out _; (with_reducible repeat (first | refine qkN ?_ _ | refine qkD ?_ | refine qkA ?_ _)); refine blk_far ?_ NB101_137.out _; (with_reducible repeat (first | refine qkN ?_ _ | refine qkD ?_ | refine qkA ?_ _)); exact BK101.out⟩, ⟨by (with_reducible repeat (first | refine qkN ?_ _ | refine qkD ?_ | refine qkA ?_ _)); refine blk_put (cs := #[.slice Ao35 t132.length co35, .int .i64 t125]) ?_ 1 _ rfl; (with_reducible repeat (first | refine qkN ?_ _ | refine qkD ?_ | refine qkA ?_ _)); refine blk_put (cs := #[.slice Ao26 t122.length co26, .int .i64 t125]) ?_ 0 _ rfl; (with_reducible repeat (first | refine qkN ?_ _ | refine qkD ?_ | refine qkA ?_ _)); refine blk_far ?_ NB106_137.out _; (with_reducible repeat (first | refine qkN ?_ _ | refine qkD ?_ | refine qkA ?_ _)); refine blk_far ?_ NB106_137.out _; (with_reducible repeat (first | refine qkN ?_ _ | refine qkD ?_ | refine qkA ?_ _)); exact BK106.out⟩, ⟨qa82⟩, ⟨qa64⟩, ⟨qa100⟩⟩
    ·replace c18 := Bool.eq_false_iff.mpr c18
     subst c18; have H1 : (spec_l00Src_store.l0 k1 (wrap64 (x4_1 - 1)) s0_0 t127 t128 t122 t125) = some (r1, r2, r3, r4) := by rw [if_neg (show ¬ (false = true) by decide)] at H; exact H
     clear H; have H := H1; clear H1; have H' := qO H; clear H
     try go_wp2
     replace HO_107000 := qO (Kd.V_drew HO_107000.out); replace BK101 := qO (qkD BK101.out); replace BK106 := qO (qkD BK106.out); replace HI0 := qO (IsS128.drew HI0.out); replace HK := qO (keep_drew HK.out); replace HB := qO (qbD HB.out); refine start_ (n := 5) (S := fun w' => w'.cell? ⟨gb106, 0, none⟩ = some (u107000) ∧ w'.cell? ⟨gb106, 1, none⟩ = some (.int .i64 x107001_1)) (ds := [4]) #[qf,qf,qf,qf,qf] qa7 rfl rfl ⟨qc0 BK106.out, qc1 BK106.out⟩ (fun hHeld => ?_); generalize wr.drew = w45 at HO_107000 BK101 BK106 HI0 HK HB hHeld ⊢; refine qPu 1 18 #[qf,qt,qf,qf,qf] rfl rfl qa7 qa10 qa3 ?_; refine qTk 0 17 #[qt,qt,qf,qf,qf] rfl rfl qa7 qa111 hHeld qa3 ?_; refine one_ (i := 2) (N := some 19) #[qt,qt,qt,qf,qf] rfl rfl qa7 qa69 (fun K hK => ?_); refine goes_ Try.func78 qa7 rfl #[.pointer (some ⟨g, 0, none⟩)] (by rfl) rfl rfl qa0 ?_; (with_reducible refine (spec_l00Src_puts.calls k1 g s0_0 x1001_1 x1002_1 t117 t120 t121 w0 _ ?side1 ?side2 A15.out).mono ?_); (case side1 => exact qa14); (case side2 => exact qa25); rintro e w46 ⟨v118, rfl, ho0, hi, hb, hk⟩; refine ⟨_, rfl, ?_⟩; have HO119 := qO (Kd.R_lower ho0 (keep_size (w := w) (g := g) (row := none) qa13)); replace HO_107000 := qO (Kd.V_mono (Kd.V_told (Kd.V_oldK (Kd.V_mono (ok := fun k_ => (k_ ≠ gb101 ∧ (k_ ≠ gb106 ∧ k_ ≠ g))) qa65 (fun k_ hk_ => (⟨hk_, hk_.2.2⟩ : _ ∧ k_ ≠ g))) hk) (Kd.R_base ho0)) (fun _ h_ => h_.1)); replace BK101 := qO (KeepBut.blk hk (g' := gb101) (o := .cells #[.slice none 0 0, .int .i64 0] 28 (0, 0)) qa4 NB101_0.out qa120); replace BK106 := qO (KeepBut.blk hk (g' := gb106) (o := .cells #[u107000, .int .i64 x107001_1] 28 (0, 0)) qa31 NB106_0.out qa120); replace HK := qO (KeepBut.trans qa13 hk (.inl rfl)); replace HB := qO (hb); replace HI0 := qO (hi); (try clear hb); (try clear hb2); (try clear hk); (try clear hi); (try clear ho0); obtain ⟨Ao47, co47, eo47⟩ := Kd.V_slice HO_107000.out; (first | subst eo47 | (injection eo47 with f1_ f2_ f3_; have f4_ := f1_.symm; have f5_ := f3_.symm; clear f1_ f2_ f3_; subst f4_; subst f5_)); obtain ⟨Ao48, co48, eo48⟩ := Kd.R_slice HO119.out; (first | subst eo48 | (injection eo48 with f1_ f2_ f3_; have f4_ := f1_.symm; have f5_ := f3_.symm; clear f1_ f2_ f3_; subst f4_; subst f5_)); refine hK.out _ _ ⟨qc0 BK106.out, qc1 BK106.out⟩ (fun hHeld => ?_); clear hK K; refine norm_ (a' := ?_) ?_ ?_; rotate_left
     ·exact qa20
     refine one_ (i := 3) (N := some 20) #[qt,qt,qt,qt,qf] rfl rfl qa7 qa69 (fun K hK => ?_); refine goes_ Try.func73 qa7 rfl #[.agg #[.slice Ao47 x107000_1.length co47, .int .i64 x107001_1], .slice Ao48 t117.length co48] (by rfl) rfl rfl qa0 ?_; (with_reducible refine (spec_l06Write.calls k1 (fun k_ => ((k_ ≠ gb101 ∧ (k_ ≠ gb106 ∧ k_ ≠ g)) ∧ some k_ ≠ (.slice Ao48 t117.length co48 : Value).ownBlock)) _ _ x107000_1 x107001_1 _ _ t117 t122 t125 _ ?side1 ?side2 ?side3 A16.out).mono ?_); (case side1 => exact HO_107000.out); (case side2 => exact qa188); (case side3 => exact (Kd.R_reads' HO119.out).2.1); rintro e w49 ⟨v123, rfl, ho0, hb⟩; refine ⟨_, rfl, ?_⟩; have HO124 := qO (Kd.V_lower (Kd.V_mono (ok' := fun k_ => some k_ ≠ (.slice Ao48 t117.length co48 : Value).ownBlock ∧ k_ ≠ gb101 ∧ k_ ≠ gb106 ∧ k_ ≠ g) ho0 (fun k_ hk_ => ⟨Or.elim hk_ (fun hs_ => hs_.2) (fun hn_ => (Kd.fresh' (Kd.R_lt qa77) k_ hn_)), Or.elim hk_ (fun hs_ => hs_.1.1) (fun hn_ => (Kd.freshB (g := gb101) (o := .cells #[.slice none 0 0, .int .i64 0] 28 (0, 0)) qa4 k_ hn_)), Or.elim hk_ (fun hs_ => hs_.1.2.1) (fun hn_ => (Kd.freshB (g := gb106) (o := .cells #[.slice Ao47 x107000_1.length co47, .int .i64 x107001_1] 28 (0, 0)) qa31 k_ hn_)), Or.elim hk_ (fun hs_ => hs_.1.2.2) (fun hn_ => (IsS128.fresh qa14 k_ hn_))⟩)) (keep_size (w := w) (g := g) (row := none) qa13)); replace HO_107000 := qO (Kd.V_below qa65 hb); replace HO119 := qO (Kd.R_below qa77 hb); replace BK101 := qO (blk_below (g := gb101) (o := .cells #[.slice none 0 0, .int .i64 0] 28 (0, 0)) qa4 hb); replace BK106 := qO (blk_below (g := gb106) (o := .cells #[.slice Ao47 x107000_1.length co47, .int .i64 x107001_1] 28 (0, 0)) qa31 hb); replace HK := qO (KeepBut.trans qa13 (KeepBut.of_below hb g none) (.inl rfl)); replace HB := qO (below_step qa25 hb); replace HI0 := qO (IsS128.below qa14 hb); (try clear hb); (try clear hb2); (try clear hk); (try clear hi); (try clear ho0); obtain ⟨Ao50, co50, eo50⟩ := Kd.V_slice HO124.out; (first | subst eo50 | (injection eo50 with f1_ f2_ f3_; have f4_ := f1_.symm; have f5_ := f3_.symm; clear f1_ f2_ f3_; subst f4_; subst f5_)); refine hK.out _ _ ⟨qc0 BK106.out, qc1 BK106.out⟩ (fun hHeld => ?_); clear hK K; refine norm_ (a' := ?_) ?_ ?_; rotate_left
     ·exact qa20
     refine last_ (i := 4) (N := none) #[qt,qt,qt,qt,qt] rfl rfl qa7 qa69 (fun K hK => ?_); have hs51 := qc0 BK106.out; have hfs51 := blk_frozen BK106.out 0; have hns51_0 := NB101_106.out; have hms51_0 := NB106_101.out; have hs52 := qc1 BK106.out; have hfs52 := blk_frozen BK106.out 1; have hns52_0 := NB101_106.out; have hms52_0 := NB106_101.out; refine skip_ (w1 := ?_) (by rfl) rfl ?_ ?_; rotate_left
     ·go_simp
      rfl
     refine hK.out _ _ ?_; clear hK K; refine done_ qa7 ?_
     try go_wp2_with (first | ((with_reducible refine gate_callee (f := 110) rfl ?_); refine goesL_ (some 22) rfl rfl Try.func110 qa7 rfl #[.pointer (some ⟨g, 0, none⟩), .int .i64 6] rfl qa0 ?_; (with_reducible refine (spec_l00Src_chance.calls g s0_0 t120 t121 6 false t127 t128 w0 _ ?side1 ?side2 A17.out).mono ?_); (case side1 => exact qa14); (case side2 => exact qa25); rintro e w53 ⟨rfl, hi, hb, hk⟩; refine ⟨_, rfl, ?_⟩; replace HO_107000 := qO (Kd.V_mono (Kd.V_keep (Kd.V_mono (ok := fun k_ => ((k_ ≠ gb101 ∧ (k_ ≠ gb106 ∧ k_ ≠ g)) ∧ some k_ ≠ (.slice Ao48 t117.length co48 : Value).ownBlock)) (by (with_reducible repeat (first | apply Kd.V_alloc | apply Kd.V_drewN | apply Kd.V_drew)); exact (Kd.V_mono (Kd.V_far (p := ⟨gb106, 1, none⟩) (Kd.V_far (p := ⟨gb106, 0, none⟩) (Kd.V_mono HO_107000.out (fun k_ hk => (⟨hk, hk.1.2.1⟩ : _ ∧ k_ ≠ gb106))) (fun _ hk => hk.2) (.slice Ao50 t122.length co50)) (fun _ hk => hk.2) (.int .i64 t125)) (fun _ h_ => h_.1))) (fun k_ hk_ => (⟨hk_, hk_.1.2.2⟩ : _ ∧ k_ ≠ g))) hk (fun _ h => h.2)) (fun _ h => h.1)); replace BK101 := qO (KeepBut.blk hk (g' := gb101) (o := .cells #[.slice none 0 0, .int .i64 0] 28 (0, 0)) qa23 NB101_0.out qa120); replace HO119 := qO (Kd.R_mono (Kd.R_keep (IsS128.apart (show IsS128 w0 _ g s0_0 t120 t121 from by repeat (first | (with_reducible first | exact HI0.out | apply IsS128.alloc | apply IsS128.drewN | apply IsS128.drew | apply IsS128.set_1 | apply IsS128.set_2 | refine IsS128.far ?_ NB0_101.out _ | refine IsS128.far ?_ NB0_106.out _) | exact HI0.out)) (by (with_reducible repeat (first | apply Kd.R_alloc | apply Kd.R_drewN | apply Kd.R_drew)); exact (Kd.R_mono (Kd.R_far (p := ⟨gb106, 1, none⟩) (Kd.R_far (p := ⟨gb106, 0, none⟩) (Kd.R_types HO119.out BK106.out (by decide)) (fun _ hk => hk.2) (.slice Ao50 t122.length co50)) (fun _ hk => hk.2) (.int .i64 t125)) (fun _ h_ => h_.1))) qa69) hk (fun _ h => h.2)) (fun _ h => h.1)); replace BK106 := qO (KeepBut.blk hk (g' := gb106) (o := .cells #[.slice Ao50 t122.length co50, .int .i64 t125] 28 (0, 0)) (by (with_reducible repeat (first | refine qkN ?_ _ | refine qkD ?_ | refine qkA ?_ _)); refine blk_put (cs := #[.slice Ao50 t122.length co50, .int .i64 x107001_1]) ?_ 1 _ rfl; (with_reducible repeat (first | refine qkN ?_ _ | refine qkD ?_ | refine qkA ?_ _)); refine blk_put (cs := #[.slice Ao47 x107000_1.length co47, .int .i64 x107001_1]) ?_ 0 _ rfl; (with_reducible repeat (first | refine qkN ?_ _ | refine qkD ?_ | refine qkA ?_ _)); exact BK106.out) NB106_0.out qa120); replace HO124 := qO (Kd.V_mono (Kd.V_keep (Kd.V_mono (ok := fun k_ => (some k_ ≠ (.slice Ao48 t117.length co48 : Value).ownBlock ∧ (k_ ≠ gb101 ∧ (k_ ≠ gb106 ∧ k_ ≠ g)))) (by (with_reducible repeat (first | apply Kd.V_alloc | apply Kd.V_drewN | apply Kd.V_drew)); exact (Kd.V_mono (Kd.V_far (p := ⟨gb106, 1, none⟩) (Kd.V_far (p := ⟨gb106, 0, none⟩) (Kd.V_mono HO124.out (fun k_ hk => (⟨hk, hk.2.2.1⟩ : _ ∧ k_ ≠ gb106))) (fun _ hk => hk.2) (.slice Ao50 t122.length co50)) (fun _ hk => hk.2) (.int .i64 t125)) (fun _ h_ => h_.1))) (fun k_ hk_ => (⟨hk_, hk_.2.2.2⟩ : _ ∧ k_ ≠ g))) hk (fun _ h => h.2)) (fun _ h => h.1)); replace HK := qO (KeepBut.trans qa13 hk (.inl rfl)); replace HB := qO (hb); replace HI0 := qO (hi); (try clear hb); (try clear hb2); (try clear hk); (try clear hi)))
     go_roundg k1
     case measure => have := HK1.out; omega
     case rel => exact ⟨(wrap64 (x4_1 - 1)), (t127), (t128), (t122), (t125), (.slice Ao50 t122.length co50), qa18, H', ⟨qa164⟩, ⟨by (with_reducible repeat (first | apply Kd.V_alloc | apply Kd.V_drewN | apply Kd.V_drew)); exact Kd.V_mono HO124.out (fun _ hk => ⟨hk.2.1, ⟨hk.2.2.1, hk.2.2.2⟩⟩)⟩, ⟨qa4⟩, ⟨qa31⟩, ⟨qa14⟩, ⟨qa13⟩, ⟨qa25⟩⟩
   ·rw [if_neg c14] at H
    have c14b0 : decide (0 < x4_1) = false := decide_eq_false c14; clear c14; replace H := Option.bind_eq_some_iff.mp H; obtain ⟨⟨t113, t116⟩, A540, H⟩ := H; replace H : (some (t113, t116, x1001_1, x1002_1)) = some (r1, r2, r3, r4) := H; have A54 := qO A540; clear A540; simp only [Option.some.injEq, Prod.mk.injEq] at H; obtain ⟨rfl, rfl, rfl, rfl⟩ := H; have hnb55 := NB106_101.out; have hnc55 := NB101_106.out; have hnb56 := NB106_0.out; have hnc56 := NB0_106.out; obtain ⟨hcz57_0, hcz57_1, hfz57_0, hfz57_1⟩ := qb2 BK106.out; obtain ⟨Ao58, co58, eo58⟩ := Kd.V_slice HO_107000.out; subst eo58
    go_wp2_with (first | ((with_reducible refine gate_callee (f := 72) rfl ?_); refine goesL_ (some 35) rfl rfl Try.func72 qa7 rfl #[.agg #[.slice Ao58 x107000_1.length co58, .int .i64 x107001_1]] rfl qa0 ?_; (with_reducible refine (spec_l06Own.calls k1 _ _ x107000_1 x107001_1 t113 t116 _ ?side1 ?side2 A54.out).mono ?_); (case side1 => repeat (first | exact (Kd.V_reads' HO_107000.out).2.2 | with_reducible first | refine Kd.C_alloc ?_ _ | refine Kd.C_drewN ?_ _ | refine Kd.C_drew ?_)); (case side2 => exact (Kd.V_reads' HO_107000.out).2.1); rintro e w59 ⟨v114, rfl, ho0, hb⟩; refine ⟨_, rfl, ?_⟩; have HO115 := qO (Kd.S_lower ho0 (keep_size (w := w) (g := g) (row := none) qa13)); replace HO_107000 := qO (Kd.V_elder' qa65 (Kd.S_base ho0) hb); replace BK101 := qO (blk_below (g := gb101) (o := .cells #[.slice none 0 0, .int .i64 0] 28 (0, 0)) qa4 hb); replace BK106 := qO (blk_below (g := gb106) (o := .cells #[.slice Ao58 x107000_1.length co58, .int .i64 x107001_1] 28 (0, 0)) qa31 hb); replace HK := qO (KeepBut.trans qa13 (KeepBut.of_below hb g none) (.inl rfl)); replace HB := qO (below_step qa25 hb); replace HI0 := qO (IsS128.below qa14 hb); (try clear hb); (try clear hb2); (try clear hk); (try clear hi); (try clear ho0); obtain ⟨Ao60, co60, eo60⟩ := Kd.S_slice HO115.out; subst eo60; have hnb61 := NB101_0.out; have hnc61 := NB0_101.out; obtain ⟨hcz62_0, hcz62_1, hfz62_0, hfz62_1⟩ := qb2 BK101.out))
    refine bodyPost_ret (results_cell_row rfl _ _ gb101 28 #[.slice Ao60 t113.length co60, .int .i64 t116] (0, 0) _ rfl (by (with_reducible repeat (first | refine qkN ?_ _ | refine qkD ?_ | refine qkA ?_ _)); refine blk_put (cs := #[.slice Ao60 t113.length co60, .int .i64 0]) ?_ 1 _ rfl; (with_reducible repeat (first | refine qkN ?_ _ | refine qkD ?_ | refine qkA ?_ _)); refine blk_put (cs := #[.slice none 0 0, .int .i64 0]) ?_ 0 _ rfl; (with_reducible repeat (first | refine qkN ?_ _ | refine qkD ?_ | refine qkA ?_ _)); exact BK101.out) Try.underlying28 rfl qa7) rfl ?_
    exact ⟨_, qa9, by (with_reducible repeat (first | apply Kd.S_alloc | apply Kd.S_drewN | apply Kd.S_drew)); exact Kd.S_mono (Kd.S_far (p := ⟨gb101, 1, none⟩) (Kd.S_far (p := ⟨gb101, 0, none⟩) (Kd.S_types HO115.out BK101.out (by decide)) (fun _ hk => hk.2) (.slice Ao60 t113.length co60)) (fun _ hk => hk.2) (.int .i64 t116)) (fun _ hk => trivial), qa14, qa25, qa13⟩


def spec_StoreOf.f (k : Nat) (l0 : List Int) : Option ((List (List (S43))) × Int) := (spec_l00Source.f l0).bind fun bt102 => ((spec_l00Src_store.f k bt102.1 bt102.2.1 bt102.2.2).bind fun bt106 => (some (bt106.1, bt106.2.1)))
set_option maxHeartbeats 8000000 in
set_option maxRecDepth 100000 in
theorem spec_StoreOf.calls (k : Nat) (A0 : Option Addr) (c0 : Nat) (l0 : List Int) (r1 : List (List (S43))) (r2 : Int) (w : World) (hr0 : Kd.C (Kd.int .u8) w A0 l0.length l0) (hc0 : l0.length ≤ c0) (h : spec_StoreOf.f k l0 = some (r1, r2)) :
  Calls Try.prog 18 #[.slice A0 l0.length c0] w fun e w' => ∃ v0_ : Value, e = .returned (.agg #[v0_, .int .i64 r2]) ∧ Kd.S (Kd.slice 43 k43) 41 w' w.heap.size (fun _ => True) v0_ r1 ∧ Below w.heap.size w w' := by
 have hu28 := Try.underlying28
 have HR0 := Aside0.mk hr0
 have HC0 := Aside0.mk hc0
 clear hr0 hc0
 have HB := Aside0.mk (Below.refl w.heap.size w)
 have H : ((spec_l00Source.f l0).bind fun bt102 => ((spec_l00Src_store.f k bt102.1 bt102.2.1 bt102.2.2).bind fun bt106 => (some (bt106.1, bt106.2.1)))) = some (r1, r2) := h
 clear h
 replace H := Option.bind_eq_some_iff.mp H
 obtain ⟨⟨t102, t103, t104⟩, A20, H⟩ := H
 replace H : ((spec_l00Src_store.f k t102 t103 t104).bind fun bt106 => (some (bt106.1, bt106.2.1))) = some (r1, r2) := H
 have A2 := Aside0.mk A20
 clear A20
 replace H := Option.bind_eq_some_iff.mp H
 obtain ⟨⟨t106, t109, t110, t111⟩, A30, H⟩ := H
 replace H : (some (t106, t109)) = some (r1, r2) := H
 have A3 := Aside0.mk A30
 clear A30
 simp only [Option.some.injEq, Prod.mk.injEq] at H
 obtain ⟨rfl, rfl⟩ := H
 go_enter Try.func18, Try.ntmps18
 go_wp2_with (first | ((with_reducible refine gate_dst (N := 2) rfl ?_); refine box_event ?hg (N := 2) ?hd (cs := #[.slice none 0 0, .int .i64 0]) (t := 28) ?hr ?_; (case hd => rfl); (case hg => rfl); (case hr => first | (go_simp; done) | (go_simp; rfl)); intro gb101 hg w4 hbox hb; have BK101 := Aside0.mk (hbox); have GW101 := Aside0.mk ((by rw [hg]; exact (below_size (by repeat (first | (with_reducible first | exact HB.out | apply below_alloc | apply pw_below_drewN | apply below_drew1) | exact HB.out))) : w.heap.size ≤ gb101)); have GE101 := Aside0.mk ((by rw [hg]; exact (below_size (by repeat (first | (with_reducible first | exact HB.out | apply below_alloc | apply pw_below_drewN | apply below_drew1) | exact HB.out))) : w.heap.size ≤ gb101)); replace HB := Aside0.mk (below_step (by repeat (first | (with_reducible first | exact HB.out | apply below_alloc | apply pw_below_drewN | apply below_drew1) | exact HB.out)) hb); clear hb hbox hg) | ((with_reducible refine gate_callee (f := 62) rfl ?_); refine goesL_ (some 4) rfl rfl Try.func62 (by kernel_rfl) rfl #[.slice A0 l0.length c0] rfl (by (try simp only [List.map_toArray, List.map_cons, List.map_nil]); first | done | rfl | (simp only [List.length_drop, List.length_take]; rfl)) ?_; (with_reducible refine (spec_l00Source.calls _ _ l0 t102 t103 t104 w _ ?side1 ?side2 ?side3 A2.out).mono ?_); (case side1 => repeat (first | (with_reducible first | exact HB.out | apply below_alloc | apply pw_below_drewN | apply below_drew1 | refine below_set ?_ GE101.out) | exact HB.out)); (case side2 => exact HR0.out); (case side3 => exact HC0.out); rintro e w5 ⟨g105, rfl, hi, hb, hb2⟩; refine ⟨_, rfl, ?_⟩; have HI105 := Aside0.mk (hi); have NB105_101 := Aside0.mk (IsS128.ne_blk hi (blk_below (g := gb101) (o := .cells #[.slice none 0 0, .int .i64 0] 28 (0, 0)) (by (with_reducible repeat (first | refine blk_drewN ?_ _ | refine blk_drew ?_ | refine blk_alloc ?_ _)); exact BK101.out) hb2) (by decide)); have NB101_105 := Aside0.mk (Ne.symm (IsS128.ne_blk hi (blk_below (g := gb101) (o := .cells #[.slice none 0 0, .int .i64 0] 28 (0, 0)) (by (with_reducible repeat (first | refine blk_drewN ?_ _ | refine blk_drew ?_ | refine blk_alloc ?_ _)); exact BK101.out) hb2) (by decide))); replace BK101 := Aside0.mk (blk_below (g := gb101) (o := .cells #[.slice none 0 0, .int .i64 0] 28 (0, 0)) (by (with_reducible repeat (first | refine blk_drewN ?_ _ | refine blk_drew ?_ | refine blk_alloc ?_ _)); exact BK101.out) hb2); replace HB := Aside0.mk (hb); (try clear hb); (try clear hb2); (try clear hk); (try clear hi)) | ((with_reducible refine gate_callee (f := 63) rfl ?_); refine goesL_ (some 5) rfl rfl Try.func63 (by kernel_rfl) rfl #[.pointer (some ⟨g105, 0, none⟩)] rfl (by (try simp only [List.map_toArray, List.map_cons, List.map_nil]); first | done | rfl | (simp only [List.length_drop, List.length_take]; rfl)) ?_; (with_reducible refine (spec_l00Src_store.calls k g105 t102 t103 t104 t106 t109 t110 t111 w _ ?side1 ?side2 A3.out).mono ?_); (case side1 => repeat (first | (with_reducible first | exact HI105.out | apply IsS128.alloc | apply IsS128.drewN | apply IsS128.drew | apply IsS128.set_1 | apply IsS128.set_2 | refine IsS128.far ?_ NB105_101.out _) | exact HI105.out)); (case side2 => repeat (first | (with_reducible first | exact HB.out | apply below_alloc | apply pw_below_drewN | apply below_drew1 | refine below_set ?_ (IsS128.ge HI105.out) | refine below_set ?_ GE101.out) | exact HB.out)); rintro e w6 ⟨v107, rfl, ho0, hi, hb, hk⟩; refine ⟨_, rfl, ?_⟩; have HO108 := Aside0.mk (Kd.S_lower ho0 (below_size (by repeat (first | (with_reducible first | exact HB.out | apply below_alloc | apply pw_below_drewN | apply below_drew1 | refine below_set ?_ (IsS128.ge HI105.out) | refine below_set ?_ GE101.out) | exact HB.out)))); replace BK101 := Aside0.mk (KeepBut.blk hk (g' := gb101) (o := .cells #[.slice none 0 0, .int .i64 0] 28 (0, 0)) (by (with_reducible repeat (first | refine blk_drewN ?_ _ | refine blk_drew ?_ | refine blk_alloc ?_ _)); exact BK101.out) NB101_105.out (by simp)); replace HB := Aside0.mk (hb); replace HI105 := Aside0.mk (hi); (try clear hb); (try clear hb2); (try clear hk); (try clear hi); (try clear ho0); obtain ⟨Ao7, co7, eo7⟩ := Kd.S_slice HO108.out; subst eo7; have hnb8 := NB101_105.out; have hnc8 := NB105_101.out; obtain ⟨hcz9_0, hcz9_1, hfz9_0, hfz9_1⟩ := qb2 BK101.out))
 refine bodyPost_ret (results_cell_row rfl _ _ gb101 28 #[.slice Ao7 t106.length co7, .int .i64 t109] (0, 0) _ rfl (by (with_reducible repeat (first | refine blk_drewN ?_ _ | refine blk_drew ?_ | refine blk_alloc ?_ _)); refine blk_put (cs := #[.slice Ao7 t106.length co7, .int .i64 0]) ?_ 1 _ rfl; (with_reducible repeat (first | refine blk_drewN ?_ _ | refine blk_drew ?_ | refine blk_alloc ?_ _)); refine blk_put (cs := #[.slice none 0 0, .int .i64 0]) ?_ 0 _ rfl; (with_reducible repeat (first | refine blk_drewN ?_ _ | refine blk_drew ?_ | refine blk_alloc ?_ _)); exact BK101.out) Try.underlying28 rfl (by kernel_rfl)) rfl ?_
 exact ⟨_, by first | rfl | (simp [errW_none, errW_some] <;> rfl) | (simp [*, errW_none, errW_some] <;> rfl), by (with_reducible repeat (first | apply Kd.S_alloc | apply Kd.S_drewN | apply Kd.S_drew)); exact Kd.S_mono (Kd.S_far (p := ⟨gb101, 1, none⟩) (Kd.S_far (p := ⟨gb101, 0, none⟩) (Kd.S_types HO108.out BK101.out (by decide)) (fun _ hk => hk.2) (.slice Ao7 t106.length co7)) (fun _ hk => hk.2) (.int .i64 t109)) (fun _ hk => trivial), by repeat (first | (with_reducible first | exact HB.out | apply below_alloc | apply pw_below_drewN | apply below_drew1 | refine below_set ?_ (IsS128.ge HI105.out) | refine below_set ?_ GE101.out) | exact HB.out)⟩


theorem eqA43 (d : Nat) (w : World) (x0 y0 : Int) (x1 y1 : Int) :
  (Op.equalIn (d + 2) 43 (.agg #[.int .i64 x0, .int .i64 x1]) (.agg #[.int .i64 y0, .int .i64 y1])).run Try.prog w = .ok (x0 == y0 && (x1 == y1)) w := by
 refine eqA_of Try.underlying43 qa7 ?_; refine eqf_cons (by rfl) (by go_simp; rfl) (by go_simp; rfl) (by go_simp) ?_
 exact eqf_last (by rfl) (by go_simp; rfl) (by go_simp; rfl) (by go_simp)

attribute [local go_sem high] eqA43
mutual
def laws_sameStore.j0 : Nat → Bool → List (List (S43)) → Int → List (List (S43)) → Int → Option (Bool)
 | 0, _, _, _, _, _ => none
 | k + 1, x20, x102000, x102001, x103000, x103001 => if x20 = true then (some false) else (laws_sameStore.l0 k 0 x102000 x102001 x103000 x103001)
def laws_sameStore.l0 : Nat → Int → List (List (S43)) → Int → List (List (S43)) → Int → Option (Bool)
 | 0, _, _, _, _, _ => none
 | k + 1, x5, x102000, x102001, x103000, x103001 => if x5 < (x102000.length : Int) then (if 0 ≤ x5 then (if x5 < (x103000.length : Int) then (if ((rd_L4 x102000 x5).length : Int) = ((rd_L4 x103000 x5).length : Int) then (laws_sameStore.l1 k x5 0 x102000 x102001 x103000 x103001) else (some false)) else (none)) else (none)) else (some true)
def laws_sameStore.l1 : Nat → Int → Int → List (List (S43)) → Int → List (List (S43)) → Int → Option (Bool)
 | 0, _, _, _, _, _, _ => none
 | k + 1, x5, x6, x102000, x102001, x103000, x103001 => if 0 ≤ x5 then (if x5 < (x102000.length : Int) then (if x6 < ((rd_L4 x102000 x5).length : Int) then (if 0 ≤ x6 then (if x5 < (x103000.length : Int) then (if x6 < ((rd_L4 x103000 x5).length : Int) then (if (!(((rd_T43 (rd_L4 x102000 x5) x6).f0) == ((rd_T43 (rd_L4 x103000 x5) x6).f0)) || (!(((rd_T43 (rd_L4 x102000 x5) x6).f1) == ((rd_T43 (rd_L4 x103000 x5) x6).f1)))) = true then (some false) else (laws_sameStore.l1 k x5 (wrap64 (x6 + 1)) x102000 x102001 x103000 x103001)) else (none)) else (none)) else (none)) else (laws_sameStore.l0 k (wrap64 (x5 + 1)) x102000 x102001 x103000 x103001)) else (none)) else (none)
end
def laws_sameStore.f (k : Nat) (l0_0 : List (List (S43))) (a0_1 : Int) (l1_0 : List (List (S43))) (a1_1 : Int) : Option (Bool) := if a0_1 = a1_1 then (laws_sameStore.j0 k ((l0_0.length : Int) != (l1_0.length : Int)) l0_0 a0_1 l1_0 a1_1) else (laws_sameStore.j0 k true l0_0 a0_1 l1_0 a1_1)
set_option maxHeartbeats 8000000 in
set_option maxRecDepth 100000 in
theorem laws_sameStore.calls (k : Nat) (A0_0 : Option Addr) (c0_0 : Nat) (l0_0 : List (List (S43))) (a0_1 : Int) (A1_0 : Option Addr) (c1_0 : Nat) (l1_0 : List (List (S43))) (a1_1 : Int) (r : Bool) (w : World) (hr0_0 : Kd.C (Kd.slice 43 k43) w A0_0 l0_0.length l0_0) (hc0_0 : l0_0.length ≤ c0_0) (hr1_0 : Kd.C (Kd.slice 43 k43) w A1_0 l1_0.length l1_0) (hc1_0 : l1_0.length ≤ c1_0) (h : laws_sameStore.f k l0_0 a0_1 l1_0 a1_1 = some r) :
  Calls Try.prog 21 #[.agg #[.slice A0_0 l0_0.length c0_0, .int .i64 a0_1], .agg #[.slice A1_0 l1_0.length c1_0, .int .i64 a1_1]] w fun e w' => e = .returned (.bool r) ∧ Below w.heap.size w w' := by
 have hu28 := Try.underlying28; have hu43 := Try.underlying43; have HR0_0 := qO hr0_0; have HC0_0 := qO hc0_0; clear hr0_0 hc0_0; have HR1_0 := qO hr1_0; have HC1_0 := qO hc1_0; clear hr1_0 hc1_0; have HB := qO (Below.refl w.heap.size w); have H : (if a0_1 = a1_1 then (laws_sameStore.j0 k ((l0_0.length : Int) != (l1_0.length : Int)) l0_0 a0_1 l1_0 a1_1) else (laws_sameStore.j0 k true l0_0 a0_1 l1_0 a1_1)) = some r := h; clear h; have HC3 := qO H; clear H
 go_enter Try.func21, Try.ntmps21
 go_upto_region 1 with (first | ((with_reducible refine gate_dst (N := 2) rfl ?_); (try (refine gate_guard (by rfl) ?_; dsimp only)); refine qX 2 #[.slice A0_0 l0_0.length c0_0, .int .i64 a0_1] 28 ?_; intro gb101 hg w4 hbox hb; have BK101 := qO (hbox); have GW101 := qO ((qa38 : w.heap.size ≤ gb101)); have GE101 := qO ((qa38 : w.heap.size ≤ gb101)); replace HB := qO (below_step qa67 hb); clear hb hbox hg) | ((with_reducible refine gate_dst (N := 3) rfl ?_); (try (refine gate_guard (by rfl) ?_; dsimp only)); refine qX 3 #[.slice A1_0 l1_0.length c1_0, .int .i64 a1_1] 28 ?_; intro gb102 hg w5 hbox hb; have BK102 := qO (hbox); have GW102 := qO ((qa29 : w.heap.size ≤ gb102)); have GE102 := qO ((qa29 : w.heap.size ≤ gb102)); have NB101_102 := qO ((qa8 : gb101 ≠ gb102)); have NB102_101 := qO ((qa119 : gb102 ≠ gb101)); replace BK101 := qO (blk_below (g := gb101) (o := .cells #[.slice A0_0 l0_0.length c0_0, .int .i64 a0_1] 28 (0, 0)) qa4 hb); replace HB := qO (below_step qa5 hb); clear hb hbox hg))
 repeat (go_quiet (first | ((with_reducible refine gate_dst (N := 2) rfl ?_); (try (refine gate_guard (by rfl) ?_; dsimp only)); refine qX 2 #[.slice A0_0 l0_0.length c0_0, .int .i64 a0_1] 28 ?_; intro gb101 hg w4 hbox hb; have BK101 := qO (hbox); have GW101 := qO ((qa38 : w.heap.size ≤ gb101)); have GE101 := qO ((qa38 : w.heap.size ≤ gb101)); replace HB := qO (below_step qa67 hb); clear hb hbox hg) | ((with_reducible refine gate_dst (N := 3) rfl ?_); (try (refine gate_guard (by rfl) ?_; dsimp only)); refine qX 3 #[.slice A1_0 l1_0.length c1_0, .int .i64 a1_1] 28 ?_; intro gb102 hg w5 hbox hb; have BK102 := qO (hbox); have GW102 := qO ((qa29 : w.heap.size ≤ gb102)); have GE102 := qO ((qa29 : w.heap.size ≤ gb102)); have NB101_102 := qO ((qa8 : gb101 ≠ gb102)); have NB102_101 := qO ((qa119 : gb102 ≠ gb101)); replace BK101 := qO (blk_below (g := gb101) (o := .cells #[.slice A0_0 l0_0.length c0_0, .int .i64 a0_1] 28 (0, 0)) qa4 hb); replace HB := qO (below_step qa5 hb); clear hb hbox hg)); go_upto_region 1 with (first | ((with_reducible refine gate_dst (N := 2) rfl ?_); (try (refine gate_guard (by rfl) ?_; dsimp only)); refine qX 2 #[.slice A0_0 l0_0.length c0_0, .int .i64 a0_1] 28 ?_; intro gb101 hg w4 hbox hb; have BK101 := qO (hbox); have GW101 := qO ((qa38 : w.heap.size ≤ gb101)); have GE101 := qO ((qa38 : w.heap.size ≤ gb101)); replace HB := qO (below_step qa67 hb); clear hb hbox hg) | ((with_reducible refine gate_dst (N := 3) rfl ?_); (try (refine gate_guard (by rfl) ?_; dsimp only)); refine qX 3 #[.slice A1_0 l1_0.length c1_0, .int .i64 a1_1] 28 ?_; intro gb102 hg w5 hbox hb; have BK102 := qO (hbox); have GW102 := qO ((qa29 : w.heap.size ≤ gb102)); have GE102 := qO ((qa29 : w.heap.size ≤ gb102)); have NB101_102 := qO ((qa8 : gb101 ≠ gb102)); have NB102_101 := qO ((qa119 : gb102 ≠ gb101)); replace BK101 := qO (blk_below (g := gb101) (o := .cells #[.slice A0_0 l0_0.length c0_0, .int .i64 a0_1] 28 (0, 0)) qa4 hb); replace HB := qO (below_step qa5 hb); clear hb hbox hg)))
 (try simp only [Act.put, qzA, qzB, qzC])
 go_cut [20] (fun v20 wc => ∃ (kq : Nat) (x20_2 : Bool), v20 = .bool x20_2 ∧ Aside0 (laws_sameStore.j0 kq x20_2 l0_0 a0_1 l1_0 a1_1 = some r) ∧ Aside0 (kq ≤ k) ∧ Aside0 (wc.heap[gb101]? = some (.cells #[(.slice A0_0 l0_0.length c0_0), .int .i64 a0_1] 28 (0, 0))) ∧ Aside0 (wc.heap[gb102]? = some (.cells #[(.slice A1_0 l1_0.length c1_0), .int .i64 a1_1] 28 (0, 0))) ∧ Aside0 (Below w.heap.size w wc))
 case first =>
  have H := HC3.out; clear HC3
  by_cases c6 : a0_1 = a1_1
  ·rw [if_pos c6] at H
   have c6b0 : (a0_1 == a1_1) = true := beq_iff_eq.mpr c6; have c6b1 : (a0_1 != a1_1) = false := bne_eq_false_iff_eq.mpr c6; clear c6; (first | rw [c6b0] | (simp only [i64_w, i32_w]; rw [c6b0]) | skip); have H' := qO H; clear H; have hnb7 := NB101_102.out; have hnc7 := NB102_101.out; obtain ⟨hcz8_0, hcz8_1, hfz8_0, hfz8_1⟩ := qb2 BK101.out; obtain ⟨hcz9_0, hcz9_1, hfz9_0, hfz9_1⟩ := qb2 BK102.out; go_wp2
   repeat (go_quiet (fail); try go_wp2)
   go_meet
   case rel => exact ⟨_, (((l0_0.length : Int) != (l1_0.length : Int))), qa18, H', ⟨qa191⟩, ⟨qa4⟩, ⟨qa26⟩, ⟨qa19⟩⟩
  ·rw [if_neg c6] at H
   have c6b0 : (a0_1 == a1_1) = false := beq_eq_false_iff_ne.mpr c6; have c6b1 : (a0_1 != a1_1) = true := bne_iff_ne.mpr c6; (first | rw [c6b0] | (simp only [i64_w, i32_w]; rw [c6b0]) | skip); have H' := qO H; clear H; have hnb10 := NB101_102.out; have hnc10 := NB102_101.out; obtain ⟨hcz11_0, hcz11_1, hfz11_0, hfz11_1⟩ := qb2 BK101.out; obtain ⟨hcz12_0, hcz12_1, hfz12_0, hfz12_1⟩ := qb2 BK102.out; go_wp2
   repeat (go_quiet (fail); try go_wp2)
   go_meet
   case rel => exact ⟨_, (true), qa18, H', ⟨qa191⟩, ⟨qa4⟩, ⟨qa26⟩, ⟨qa19⟩⟩
 case rest =>
  clear HC3
  try clear c1
  try clear c2
  try clear p2
  try clear c6
  try clear c6b0
  try clear c6b1
  try clear c7
  try clear c10
  try clear hcz11_0
  try clear hcz11_1
  try clear hcz12_0
  try clear hcz12_1
  try clear hcz8_0
  try clear hcz8_1
  try clear hcz9_0
  try clear hcz9_1
  try clear hfz11_0
  try clear hfz11_1
  try clear hfz12_0
  try clear hfz12_1
  try clear hfz8_0
  try clear hfz8_1
  try clear hfz9_0
  try clear hfz9_1
  obtain ⟨kq, x20_2, rfl, HA, HJ2, BK101, BK102, HB⟩ := hcut
  cases kq with
  | zero => exact absurd HA.out (by simp [laws_sameStore.j0])
  | succ kj2 =>
   have H := HA.out; clear HA; simp only [laws_sameStore.j0] at H
   by_cases c13 : x20_2 = true
   ·subst c13
    have H1 : (some false) = some r := by rw [if_pos rfl] at H; exact H
    clear H; have H := H1; clear H1; obtain rfl := Option.some.inj H; go_wp2
    repeat (go_quiet (fail); try go_wp2)
    go_ret
    exact ⟨qa9, qa19⟩
   ·replace c13 := Bool.eq_false_iff.mpr c13
    subst c13; have H1 : (laws_sameStore.l0 kj2 0 l0_0 a0_1 l1_0 a1_1) = some r := by rw [if_neg (show ¬ (false = true) by decide)] at H; exact H
    clear H; have H := H1; clear H1; have H' := qO H; clear H; go_wp2
    repeat (go_quiet (fail); try go_wp2)
    go_loopg [5] kj2 (fun kq v5 w' => ∃ (x5_2 : Int), v5 = .int .i64 x5_2 ∧ Aside0 (laws_sameStore.l0 kq x5_2 l0_0 a0_1 l1_0 a1_1 = some r) ∧ Aside0 (kq ≤ kj2) ∧ Aside0 (w'.heap[gb101]? = some (.cells #[(.slice A0_0 l0_0.length c0_0), .int .i64 a0_1] 28 (0, 0))) ∧ Aside0 (w'.heap[gb102]? = some (.cells #[(.slice A1_0 l1_0.length c1_0), .int .i64 a1_1] 28 (0, 0))) ∧ Aside0 (Below w.heap.size w w'))
    case atStart => exact ⟨(0), qa18, H', ⟨Nat.le_refl _⟩, ⟨qa4⟩, ⟨qa26⟩, ⟨qa19⟩⟩
    case round =>
     clear H'
     try clear c1
     try clear c2
     try clear p2
     try clear c6
     try clear c6b0
     try clear c6b1
     try clear c7
     try clear c10
     try clear c13
     try clear hcz11_0
     try clear hcz11_1
     try clear hcz12_0
     try clear hcz12_1
     try clear hcz8_0
     try clear hcz8_1
     try clear hcz9_0
     try clear hcz9_1
     try clear hfz11_0
     try clear hfz11_1
     try clear hfz12_0
     try clear hfz12_1
     try clear hfz8_0
     try clear hfz8_1
     try clear hfz9_0
     try clear hfz9_1
     try clear p2
     obtain ⟨x5_2, rfl, HA, HK2, BK101, BK102, HB⟩ := hrel
     cases gk with
     | zero => exact absurd HA.out (by simp [laws_sameStore.l0])
     | succ k2 =>
      have H := HA.out; clear HA; simp only [laws_sameStore.l0] at H
      by_cases c14 : x5_2 < (l0_0.length : Int)
      ·rw [if_pos c14] at H
       have c14b0 : decide (x5_2 < (l0_0.length : Int)) = true := decide_eq_true c14; clear c14
       by_cases c15 : 0 ≤ x5_2
       ·rw [if_pos c15] at H
        have c15b0 : decide (0 ≤ x5_2) = true := decide_eq_true c15; clear c15
        by_cases c16 : x5_2 < (l1_0.length : Int)
        ·rw [if_pos c16] at H
         have c16b0 : decide (x5_2 < (l1_0.length : Int)) = true := decide_eq_true c16; clear c16
         by_cases c17 : ((rd_L4 l0_0 x5_2).length : Int) = ((rd_L4 l1_0 x5_2).length : Int)
         ·rw [if_pos c17] at H
          have c17b0 : (((rd_L4 l0_0 x5_2).length : Int) == ((rd_L4 l1_0 x5_2).length : Int)) = true := beq_iff_eq.mpr c17; have c17b1 : (((rd_L4 l0_0 x5_2).length : Int) != ((rd_L4 l1_0 x5_2).length : Int)) = false := bne_eq_false_iff_eq.mpr c17; have c17b2 : ((rd_L4 l0_0 x5_2).length == (rd_L4 l1_0 x5_2).length) = true := by first | simpa using c17 | (simp at c17 ⊢; omega)
          clear c17; have H' := qO H; clear H; have hnb18 := NB101_102.out; have hnc18 := NB102_101.out; obtain ⟨hcz19_0, hcz19_1, hfz19_0, hfz19_1⟩ := qb2 BK101.out; have p103 : 0 ≤ (x5_2 : Int) := qT qa2; have q103 : x5_2 < (l0_0.length : Int) := qT qa2; obtain ⟨ad103, A103_0, c103_0, e103, hx103_0, hl103_0, hi103_0⟩ := at_L4 HR0_0.out x5_2 p103 q103
          cases e103
          replace hx103_0 := (HB.out.cell (qL w _ hx103_0)).trans hx103_0; have HR103_0 := qO hi103_0; have HC103_0 := qO hl103_0; clear hi103_0 hl103_0; replace p103 := eq_true p103; replace q103 := eq_true q103; obtain ⟨hcz20_0, hcz20_1, hfz20_0, hfz20_1⟩ := qb2 BK102.out; have p104 : 0 ≤ (x5_2 : Int) := qT qa2; have q104 : x5_2 < (l1_0.length : Int) := qT qa2; obtain ⟨ad104, A104_0, c104_0, e104, hx104_0, hl104_0, hi104_0⟩ := at_L4 HR1_0.out x5_2 p104 q104
          cases e104
          replace hx104_0 := (HB.out.cell (qL w _ hx104_0)).trans hx104_0; have HR104_0 := qO hi104_0; have HC104_0 := qO hl104_0; clear hi104_0 hl104_0; replace p104 := eq_true p104; replace q104 := eq_true q104; go_wp2
          repeat (go_quiet (fail); try go_wp2)
          go_loopg [6] k2 (fun kq v6 w' => ∃ (x6_3 : Int), v6 = .int .i64 x6_3 ∧ Aside0 (laws_sameStore.l1 kq x5_2 x6_3 l0_0 a0_1 l1_0 a1_1 = some r) ∧ Aside0 (kq ≤ k2) ∧ Aside0 (w'.heap[gb101]? = some (.cells #[(.slice (some ad103) l0_0.length c0_0), .int .i64 a0_1] 28 (0, 0))) ∧ Aside0 (w'.heap[gb102]? = some (.cells #[(.slice (some ad104) l1_0.length c1_0), .int .i64 a1_1] 28 (0, 0))) ∧ Aside0 (Below w.heap.size w w'))
          case atStart => exact ⟨(0), qa18, H', ⟨Nat.le_refl _⟩, ⟨qa4⟩, ⟨qa26⟩, ⟨qa19⟩⟩
          case round =>
           clear H'
           try clear c1
           try clear p1
           try clear q1
           try clear hx1
           try clear c2
           try clear p2
           try clear c6
           try clear c6b0
           try clear c6b1
           try clear c7
           try clear c10
           try clear p10
           try clear q10
           try clear hx10
           try clear c13
           try clear c14
           try clear c14b0
           try clear c15
           try clear c15b0
           try clear c16
           try clear c16b0
           try clear c17
           try clear c17b0
           try clear c17b1
           try clear c17b2
           try clear c18
           try clear hcz11_0
           try clear hcz11_1
           try clear hcz12_0
           try clear hcz12_1
           try clear hcz19_0
           try clear hcz19_1
           try clear hcz20_0
           try clear hcz20_1
           try clear hcz8_0
           try clear hcz8_1
           try clear hcz9_0
           try clear hcz9_1
           try clear hfz11_0
           try clear hfz11_1
           try clear hfz12_0
           try clear hfz12_1
           try clear hfz19_0
           try clear hfz19_1
           try clear hfz20_0
           try clear hfz20_1
           try clear hfz8_0
           try clear hfz8_1
           try clear hfz9_0
           try clear hfz9_1
           try clear hx103_0
           try clear hx104_0
           try clear p103
           try clear p104
           try clear p2
           try clear q103
           try clear q104
           obtain ⟨x6_3, rfl, HA, HK3, BK101, BK102, HB⟩ := hrel
           cases gk with
           | zero => exact absurd HA.out (by simp [laws_sameStore.l1])
           | succ k3 =>
            have H := HA.out; clear HA; simp only [laws_sameStore.l1] at H
            by_cases c21 : 0 ≤ x5_2
            ·rw [if_pos c21] at H
             have c21b0 : decide (0 ≤ x5_2) = true := decide_eq_true c21; clear c21
             by_cases c22 : x5_2 < (l0_0.length : Int)
             ·rw [if_pos c22] at H
              have c22b0 : decide (x5_2 < (l0_0.length : Int)) = true := decide_eq_true c22; clear c22
              by_cases c23 : x6_3 < ((rd_L4 l0_0 x5_2).length : Int)
              ·rw [if_pos c23] at H
               have c23b0 : decide (x6_3 < ((rd_L4 l0_0 x5_2).length : Int)) = true := decide_eq_true c23; clear c23
               by_cases c24 : 0 ≤ x6_3
               ·rw [if_pos c24] at H
                have c24b0 : decide (0 ≤ x6_3) = true := decide_eq_true c24; clear c24
                by_cases c25 : x5_2 < (l1_0.length : Int)
                ·rw [if_pos c25] at H
                 have c25b0 : decide (x5_2 < (l1_0.length : Int)) = true := decide_eq_true c25; clear c25
                 by_cases c26 : x6_3 < ((rd_L4 l1_0 x5_2).length : Int)
                 ·rw [if_pos c26] at H
                  have c26b0 : decide (x6_3 < ((rd_L4 l1_0 x5_2).length : Int)) = true := decide_eq_true c26; clear c26
                  by_cases c27 : (!(((rd_T43 (rd_L4 l0_0 x5_2) x6_3).f0) == ((rd_T43 (rd_L4 l1_0 x5_2) x6_3).f0)) || (!(((rd_T43 (rd_L4 l0_0 x5_2) x6_3).f1) == ((rd_T43 (rd_L4 l1_0 x5_2) x6_3).f1)))) = true
                  ·rw [if_pos c27] at H
                   have c27b0 : (!(((rd_T43 (rd_L4 l0_0 x5_2) x6_3).f0) == ((rd_T43 (rd_L4 l1_0 x5_2) x6_3).f0)) || (!(((rd_T43 (rd_L4 l0_0 x5_2) x6_3).f1) == ((rd_T43 (rd_L4 l1_0 x5_2) x6_3).f1)))) = true := c27; clear c27; obtain rfl := Option.some.inj H; have hnb28 := NB101_102.out; have hnc28 := NB102_101.out; obtain ⟨hcz29_0, hcz29_1, hfz29_0, hfz29_1⟩ := qb2 BK101.out; have p105 : 0 ≤ (x5_2 : Int) := qT qa2; have q105 : x5_2 < (l0_0.length : Int) := qT qa2; obtain ⟨ad105, A105_0, c105_0, e105, hx105_0, hl105_0, hi105_0⟩ := at_L4 HR0_0.out x5_2 p105 q105; obtain rfl : ad103 = ad105 := (by injection e105); replace hx105_0 := (HB.out.cell (qL w _ hx105_0)).trans hx105_0; have HR105_0 := qO hi105_0; have HC105_0 := qO hl105_0; clear hi105_0 hl105_0; replace p105 := eq_true p105; replace q105 := eq_true q105; have p106 : 0 ≤ (x5_2 : Int) := qT qa2; have q106 : x5_2 < (l0_0.length : Int) := qT qa2; obtain ⟨ad106, A106_0, c106_0, e106, hx106_0, hl106_0, hi106_0⟩ := at_L4 HR0_0.out x5_2 p106 q106; obtain rfl : ad103 = ad106 := (by injection e106); replace hx106_0 := (HB.out.cell (qL w _ hx106_0)).trans hx106_0; have HR106_0 := qO hi106_0; have HC106_0 := qO hl106_0; clear hi106_0 hl106_0; replace p106 := eq_true p106; replace q106 := eq_true q106; have ea_ := Option.some.inj (hx105_0.symm.trans hx106_0); injection ea_ with ea_ en_ ec_; subst ea_; subst ec_; clear en_; have p107 : 0 ≤ (x6_3 : Int) := qT qa2; have q107 : x6_3 < ((rd_L4 l0_0 x5_2).length : Int) := qT qa2; obtain ⟨ad107, e107, hx107_0, hx107_1⟩ := at_T43 HR106_0.out x6_3 p107 q107
                   cases e107
                   replace hx107_0 := (HB.out.cell (qL w _ hx107_0)).trans hx107_0; replace hx107_1 := (HB.out.cell (qL w _ hx107_1)).trans hx107_1; replace p107 := eq_true p107; replace q107 := eq_true q107; obtain ⟨hcz30_0, hcz30_1, hfz30_0, hfz30_1⟩ := qb2 BK102.out; have p108 : 0 ≤ (x5_2 : Int) := qT qa2; have q108 : x5_2 < (l1_0.length : Int) := qT qa2; obtain ⟨ad108, A108_0, c108_0, e108, hx108_0, hl108_0, hi108_0⟩ := at_L4 HR1_0.out x5_2 p108 q108; obtain rfl : ad104 = ad108 := (by injection e108); replace hx108_0 := (HB.out.cell (qL w _ hx108_0)).trans hx108_0; have HR108_0 := qO hi108_0; have HC108_0 := qO hl108_0; clear hi108_0 hl108_0; replace p108 := eq_true p108; replace q108 := eq_true q108; have p109 : 0 ≤ (x6_3 : Int) := qT qa2; have q109 : x6_3 < ((rd_L4 l1_0 x5_2).length : Int) := qT qa2; obtain ⟨ad109, e109, hx109_0, hx109_1⟩ := at_T43 HR108_0.out x6_3 p109 q109
                   cases e109
                   replace hx109_0 := (HB.out.cell (qL w _ hx109_0)).trans hx109_0; replace hx109_1 := (HB.out.cell (qL w _ hx109_1)).trans hx109_1; replace p109 := eq_true p109; replace q109 := eq_true q109; go_wp2
                   repeat (go_quiet (fail); try go_wp2)
                   go_ret
                   exact ⟨qa9, qa19⟩
                  ·rw [if_neg c27] at H
                   have c27b0 : (!(((rd_T43 (rd_L4 l0_0 x5_2) x6_3).f0) == ((rd_T43 (rd_L4 l1_0 x5_2) x6_3).f0)) || (!(((rd_T43 (rd_L4 l0_0 x5_2) x6_3).f1) == ((rd_T43 (rd_L4 l1_0 x5_2) x6_3).f1)))) = false := by simpa using c27
                   clear c27; have H' := qO H; clear H; have hnb31 := NB101_102.out; have hnc31 := NB102_101.out; obtain ⟨hcz32_0, hcz32_1, hfz32_0, hfz32_1⟩ := qb2 BK101.out; have p105 : 0 ≤ (x5_2 : Int) := qT qa2; have q105 : x5_2 < (l0_0.length : Int) := qT qa2; obtain ⟨ad105, A105_0, c105_0, e105, hx105_0, hl105_0, hi105_0⟩ := at_L4 HR0_0.out x5_2 p105 q105; obtain rfl : ad103 = ad105 := (by injection e105); replace hx105_0 := (HB.out.cell (qL w _ hx105_0)).trans hx105_0; have HR105_0 := qO hi105_0; have HC105_0 := qO hl105_0; clear hi105_0 hl105_0; replace p105 := eq_true p105; replace q105 := eq_true q105; have p106 : 0 ≤ (x5_2 : Int) := qT qa2; have q106 : x5_2 < (l0_0.length : Int) := qT qa2; obtain ⟨ad106, A106_0, c106_0, e106, hx106_0, hl106_0, hi106_0⟩ := at_L4 HR0_0.out x5_2 p106 q106; obtain rfl : ad103 = ad106 := (by injection e106); replace hx106_0 := (HB.out.cell (qL w _ hx106_0)).trans hx106_0; have HR106_0 := qO hi106_0; have HC106_0 := qO hl106_0; clear hi106_0 hl106_0; replace p106 := eq_true p106; replace q106 := eq_true q106; have ea_ := Option.some.inj (hx105_0.symm.trans hx106_0); injection ea_ with ea_ en_ ec_; subst ea_; subst ec_; clear en_; have p107 : 0 ≤ (x6_3 : Int) := qT qa2; have q107 : x6_3 < ((rd_L4 l0_0 x5_2).length : Int) := qT qa2; obtain ⟨ad107, e107, hx107_0, hx107_1⟩ := at_T43 HR106_0.out x6_3 p107 q107
                   cases e107
                   replace hx107_0 := (HB.out.cell (qL w _ hx107_0)).trans hx107_0; replace hx107_1 := (HB.out.cell (qL w _ hx107_1)).trans hx107_1; replace p107 := eq_true p107; replace q107 := eq_true q107; obtain ⟨hcz33_0, hcz33_1, hfz33_0, hfz33_1⟩ := qb2 BK102.out; have p108 : 0 ≤ (x5_2 : Int) := qT qa2; have q108 : x5_2 < (l1_0.length : Int) := qT qa2; obtain ⟨ad108, A108_0, c108_0, e108, hx108_0, hl108_0, hi108_0⟩ := at_L4 HR1_0.out x5_2 p108 q108; obtain rfl : ad104 = ad108 := (by injection e108); replace hx108_0 := (HB.out.cell (qL w _ hx108_0)).trans hx108_0; have HR108_0 := qO hi108_0; have HC108_0 := qO hl108_0; clear hi108_0 hl108_0; replace p108 := eq_true p108; replace q108 := eq_true q108; have p109 : 0 ≤ (x6_3 : Int) := qT qa2; have q109 : x6_3 < ((rd_L4 l1_0 x5_2).length : Int) := qT qa2; obtain ⟨ad109, e109, hx109_0, hx109_1⟩ := at_T43 HR108_0.out x6_3 p109 q109
                   cases e109
                   replace hx109_0 := (HB.out.cell (qL w _ hx109_0)).trans hx109_0; replace hx109_1 := (HB.out.cell (qL w _ hx109_1)).trans hx109_1; replace p109 := eq_true p109; replace q109 := eq_true q109; go_wp2
                   repeat (go_quiet (fail); try go_wp2)
                   go_roundg k3
                   case measure => have := HJ2.out; have := HK2.out; have := HK3.out; omega
                   case rel => exact ⟨(wrap64 (x6_3 + 1)), qa18, H', ⟨by have := HJ2.out; have := HK2.out; have := HK3.out; omega⟩, ⟨qa4⟩, ⟨qa26⟩, ⟨qa19⟩⟩
                 ·rw [if_neg c26] at H
                  exact absurd H qa120
                ·rw [if_neg c25] at H
                 exact absurd H qa120
               ·rw [if_neg c24] at H
                exact absurd H qa120
              ·rw [if_neg c23] at H
               have c23b0 : decide (x6_3 < ((rd_L4 l0_0 x5_2).length : Int)) = false := decide_eq_false c23; clear c23; have H' := qO H; clear H; have hnb34 := NB101_102.out; have hnc34 := NB102_101.out; obtain ⟨hcz35_0, hcz35_1, hfz35_0, hfz35_1⟩ := qb2 BK101.out; have p105 : 0 ≤ (x5_2 : Int) := qT qa2; have q105 : x5_2 < (l0_0.length : Int) := qT qa2; obtain ⟨ad105, A105_0, c105_0, e105, hx105_0, hl105_0, hi105_0⟩ := at_L4 HR0_0.out x5_2 p105 q105; obtain rfl : ad103 = ad105 := (by injection e105); replace hx105_0 := (HB.out.cell (qL w _ hx105_0)).trans hx105_0; have HR105_0 := qO hi105_0; have HC105_0 := qO hl105_0; clear hi105_0 hl105_0; replace p105 := eq_true p105; replace q105 := eq_true q105; go_wp2
               repeat (go_quiet (fail); try go_wp2)
               go_roundg k3
               case measure => have := HJ2.out; have := HK2.out; have := HK3.out; omega
               case rel => exact ⟨(wrap64 (x5_2 + 1)), qa18, H', ⟨by have := HJ2.out; have := HK2.out; have := HK3.out; omega⟩, ⟨qa4⟩, ⟨qa26⟩, ⟨qa19⟩⟩
             ·rw [if_neg c22] at H
              exact absurd H qa120
            ·rw [if_neg c21] at H
             exact absurd H qa120
         ·rw [if_neg c17] at H
          have c17b0 : (((rd_L4 l0_0 x5_2).length : Int) == ((rd_L4 l1_0 x5_2).length : Int)) = false := beq_eq_false_iff_ne.mpr c17; have c17b1 : (((rd_L4 l0_0 x5_2).length : Int) != ((rd_L4 l1_0 x5_2).length : Int)) = true := bne_iff_ne.mpr c17; have c17b2 : ((rd_L4 l0_0 x5_2).length == (rd_L4 l1_0 x5_2).length) = false := by first | simpa using c17 | (simp at c17 ⊢; omega)
          obtain rfl := Option.some.inj H; have hnb36 := NB101_102.out; have hnc36 := NB102_101.out; obtain ⟨hcz37_0, hcz37_1, hfz37_0, hfz37_1⟩ := qb2 BK101.out; have p103 : 0 ≤ (x5_2 : Int) := qT qa2; have q103 : x5_2 < (l0_0.length : Int) := qT qa2; obtain ⟨ad103, A103_0, c103_0, e103, hx103_0, hl103_0, hi103_0⟩ := at_L4 HR0_0.out x5_2 p103 q103
          cases e103
          replace hx103_0 := (HB.out.cell (qL w _ hx103_0)).trans hx103_0; have HR103_0 := qO hi103_0; have HC103_0 := qO hl103_0; clear hi103_0 hl103_0; replace p103 := eq_true p103; replace q103 := eq_true q103; obtain ⟨hcz38_0, hcz38_1, hfz38_0, hfz38_1⟩ := qb2 BK102.out; have p104 : 0 ≤ (x5_2 : Int) := qT qa2; have q104 : x5_2 < (l1_0.length : Int) := qT qa2; obtain ⟨ad104, A104_0, c104_0, e104, hx104_0, hl104_0, hi104_0⟩ := at_L4 HR1_0.out x5_2 p104 q104
          cases e104
          replace hx104_0 := (HB.out.cell (qL w _ hx104_0)).trans hx104_0; have HR104_0 := qO hi104_0; have HC104_0 := qO hl104_0; clear hi104_0 hl104_0; replace p104 := eq_true p104; replace q104 := eq_true q104; go_wp2
          repeat (go_quiet (fail); try go_wp2)
          go_ret
          exact ⟨qa9, qa19⟩
        ·rw [if_neg c16] at H
         exact absurd H qa120
       ·rw [if_neg c15] at H
        exact absurd H qa120
      ·rw [if_neg c14] at H
       have c14b0 : decide (x5_2 < (l0_0.length : Int)) = false := decide_eq_false c14; clear c14; obtain rfl := Option.some.inj H; have hnb39 := NB101_102.out; have hnc39 := NB102_101.out; obtain ⟨hcz40_0, hcz40_1, hfz40_0, hfz40_1⟩ := qb2 BK101.out; go_wp2
       repeat (go_quiet (fail); try go_wp2)
       go_ret
       exact ⟨qa9, qa19⟩


def impl_Store_isHour.f (l0_0 : List (List (S43))) (a0_1 : Int) (a1 : Int) : Option (Bool) := (impl_within.f a1 0 a0_1).bind fun t102 => (some t102)
set_option maxHeartbeats 8000000 in
set_option maxRecDepth 100000 in
theorem impl_Store_isHour.calls (A0_0 : Option Addr) (c0_0 : Nat) (l0_0 : List (List (S43))) (a0_1 : Int) (a1 : Int) (r : Bool) (w : World) (hr0_0 : Kd.C (Kd.slice 43 k43) w A0_0 l0_0.length l0_0) (hc0_0 : l0_0.length ≤ c0_0) (h : impl_Store_isHour.f l0_0 a0_1 a1 = some r) :
  Calls Try.prog 57 #[.agg #[.slice A0_0 l0_0.length c0_0, .int .i64 a0_1], .int .i64 a1] w fun e w' => e = .returned (.bool r) ∧ Below w.heap.size w w' := by
 have hu28 := Try.underlying28; have HR0_0 := qO hr0_0; have HC0_0 := qO hc0_0; clear hr0_0 hc0_0; have HB := qO (Below.refl w.heap.size w); have H : ((impl_within.f a1 0 a0_1).bind fun t102 => (some t102)) = some r := h; clear h; replace H := Option.bind_eq_some_iff.mp H; obtain ⟨t102, A30, H⟩ := H; replace H : (some t102) = some r := H; have A3 := qO A30; clear A30; obtain rfl := Option.some.inj H
 go_enter Try.func57, Try.ntmps57
 go_wp2_with (first | ((with_reducible refine gate_dst (N := 2) rfl ?_); refine qX 2 #[.slice A0_0 l0_0.length c0_0, .int .i64 a0_1] 28 ?_; intro gb101 hg w4 hbox hb; have hx_ := qHX HB hb qa1; have BK101 := qO (hbox); have GW101 := qO ((qa17 : w.heap.size ≤ gb101)); have GE101 := GW101; replace HB := qO (below_step (below_step HB.out hx_) hb); clear hx_ hb hbox hg; obtain ⟨hcz5_0, hcz5_1, hfz5_0, hfz5_1⟩ := qb2 BK101.out) | ((with_reducible refine gate_callee (f := 65) rfl ?_); refine goesL_ (some 8) rfl rfl Try.func65 qa7 rfl #[.int .i64 a1, .int .i64 0, .int .i64 a0_1] rfl qa0 ?_; (with_reducible refine (impl_within.calls a1 0 a0_1 t102 _ A3.out).mono ?_); rintro e w' ⟨rfl, ⟨nd, rfl⟩⟩; refine ⟨_, rfl, ?_⟩))
 go_ret
 exact ⟨qa9, qa5⟩


section
open Go.Shelf
attribute [local go_sem] Oper.semAt_some
def bw.upto {α : Type} (f : Nat → α) (k : Nat) : List α := (List.range k).map f
theorem bw.upto_succ {α : Type} (f : Nat → α) (k : Nat) : bw.upto f (k + 1) = bw.upto f k ++ [f k] := by simp [bw.upto, List.range_succ]
theorem bw.upto_length {α : Type} (f : Nat → α) (k : Nat) : (bw.upto f k).length = k := by simp [bw.upto]
def bw.g (zs : List S43) (k : Nat) : Int × S43 := (((zs.length - 1 - k : Nat) : Int), zs.getD (zs.length - 1 - k) z43)
def bw.Cells (W : World) (ad : Addr) (zs : List S43) : Prop := ∀ j, j < zs.length → W.cell? (ad.add (j * 2)) = some (.int .i64 (zs.getD j z43).f0) ∧ W.cell? ⟨(ad.add (j * 2)).block, (ad.add (j * 2)).off + 1, none⟩ = some (.int .i64 (zs.getD j z43).f1)
set_option maxRecDepth 100000 in
set_option maxHeartbeats 2000000 in
theorem bw.one_in (F : Fence) (n : Nat) (hf : F.fn 130) (hro : F.round = none) (hn : 1 ≤ n) (l Bs n₀ : Nat) (ad : Addr) (cap : Nat) (zs : List S43) (hb : ad.block < n₀) (hBsn : Bs < n₀) (hreach : zs.length ≤ 9223372036854775807) (J Jx : List (Int × S43) → World → Prop)
    (hY : ∀ pre x W, J pre W → pre.length < zs.length → YieldAt F (n - 1) Try.prog l #[.int .i64 x.1, .agg #[.int .i64 x.2.f0, .int .i64 x.2.f1]] W fun e W' =>
      (e = .returned (.bool true) ∧ J (pre ++ [x]) W' ∧ Below n₀ W W') ∨ (e = .returned (.bool false) ∧ Jx (pre ++ [x]) W'))
    (W : World) (hBs : W.cell? ⟨Bs, 0, none⟩ = some (.slice (some ad) zs.length cap)) (hc : bw.Cells W ad zs) (h0 : J [] W) :
    CallsIn F n Try.prog 130 #[.func (.yield l) #[] #[], .pointer (some ⟨Bs, 0, none⟩)] W fun e W' => (∃ v, e = .returned v) ∧
      ((∃ ys, ys = bw.upto (bw.g zs) zs.length ∧ J ys W') ∨ (∃ pre, (∃ k, k ≤ zs.length ∧ pre = bw.upto (bw.g zs) k) ∧ Jx pre W')) := by
  refine callsIn_of_wp Try.func130 rfl hf ?_ hro
  simp only [Try.ntmps130, List.size_toArray, List.length_cons, List.length_nil, Nat.reduceAdd, Nat.reduceSub, Array.replicate_succ, Array.replicate_zero, List.push_toArray, List.append_toArray, List.nil_append, List.cons_append]
  have hw1 : IntKind.i64.wrap ((zs.length : Int) - 1) = (zs.length : Int) - 1 := by rw [i64_w]; unfold wrap64; omega
  gi_wp2
  gi_loopw [3] (fun i wr => ∃ (k : Nat) (m : Int), k ≤ zs.length ∧ i = .int .i64 m ∧ m = (zs.length : Int) - 1 - (k : Int) ∧ J (bw.upto (bw.g zs) k) wr ∧ Below n₀ W wr)
    (fun i _ => (intOf i + 1).toNat)
  case atStart => exact ⟨0, _, Nat.zero_le _, rfl, by first | omega | (rw [hw1]; omega), h0, Below.refl _ _⟩
  case round =>
    obtain ⟨k, m, hk, rfl, hm, hJs, hnx⟩ := hrel
    have hBs' : wr.cell? ⟨Bs, 0, none⟩ = some (.slice (some ad) zs.length cap) := (hnx.cell (p := ⟨Bs, 0, none⟩) hBsn).trans hBs
    by_cases hlt : k < zs.length
    · obtain ⟨j, hj, rfl⟩ : ∃ j : Nat, j = zs.length - 1 - k ∧ m = (j : Int) := ⟨zs.length - 1 - k, rfl, by omega⟩
      obtain ⟨hx0, hx1⟩ := hc j (by omega)
      replace hx0 := (hnx.cell (p := ad.add (j * 2)) (by rw [add_block]; exact hb)).trans hx0
      replace hx1 := (hnx.cell (p := ⟨(ad.add (j * 2)).block, (ad.add (j * 2)).off + 1, none⟩) (by show (ad.add (j * 2)).block < n₀; rw [add_block]; exact hb)).trans hx1
      obtain ⟨fn, tmps, assign, body, hy, hR⟩ := hY _ (bw.g zs k) wr hJs (by rw [bw.upto_length]; exact hlt)
      have hg : bw.g zs k = ((j : Int), zs.getD j z43) := by rw [hj]; rfl
      rw [hg] at hy hR
      dsimp only at hy
      generalize hzj : zs.getD j z43 = z at hx0 hx1 hy hR hg
      have p1 : (0 : Int) ≤ (j : Int) := by omega
      have p2 : (j : Int) < (zs.length : Int) := by omega
      have p3 : j < zs.length := by omega
      have HJ := Aside0.mk hj
      clear hj hm
      gi_wp2
      refine hR.mono ?_
      rintro e W3 (⟨rfl, hJ3, hk3⟩ | ⟨rfl, hJx3⟩)
      · gi_wp2
        go_roundw
        case rel => exact ⟨k + 1, _, by omega, rfl, by have h_ := HJ.out; first | omega | (rw [i64_w]; unfold wrap64; omega), by rw [bw.upto_succ, hg]; exact hJ3, hnx.trans hk3⟩
        case measure => (simp only [intOf, i64_w]; first | omega | (unfold wrap64; omega))
      · gi_wp2
        refine bodyPost_ret (results_none rfl _ _ _) rfl ?_
        exact ⟨⟨_, rfl⟩, .inr ⟨_, ⟨k + 1, by omega, by rw [bw.upto_succ, hg]⟩, hJx3⟩⟩
    · obtain rfl : k = zs.length := by omega
      obtain rfl : m = -1 := by omega
      gi_wp2
      go_end0
      exact ⟨⟨_, rfl⟩, .inl ⟨_, rfl, hJs⟩⟩
set_option maxRecDepth 100000 in
set_option maxHeartbeats 1000000 in
theorem bw.nil_in (F : Fence) (n : Nat) (hf : F.fn 130) (hro : F.round = none) (l Bs : Nat) (A : Option Addr) (cap : Nat) (J : List (Int × S43) → World → Prop) (W : World) (hBs : W.cell? ⟨Bs, 0, none⟩ = some (.slice A 0 cap)) (h0 : J [] W) :
    CallsIn F n Try.prog 130 #[.func (.yield l) #[] #[], .pointer (some ⟨Bs, 0, none⟩)] W fun e W' => (∃ v, e = .returned v) ∧ J [] W' := by
  refine callsIn_of_wp Try.func130 rfl hf ?_ hro
  simp only [Try.ntmps130, List.size_toArray, List.length_cons, List.length_nil, Nat.reduceAdd, Nat.reduceSub, Array.replicate_succ, Array.replicate_zero, List.push_toArray, List.append_toArray, List.nil_append, List.cons_append]
  gi_wp2
  gi_loopw [3] (fun i wr => i = .int .i64 (-1) ∧ J [] wr) (fun _ _ => 0)
  case atStart => exact ⟨by first | rfl | (simp; done) | (simp [i64_w, wrap64]; done), h0⟩
  case round =>
    obtain ⟨rfl, hJs⟩ := hrel
    gi_wp2
    go_end0
    exact ⟨⟨_, rfl⟩, hJs⟩
set_option maxHeartbeats 1000000 in
theorem bw.make_in (F : Fence) (n : Nat) (hf : F.fn 112) (hro : F.round = none) (a : Option Addr) (len cap : Nat) (w : World) :
    CallsIn F n Try.prog 112 #[.slice a len cap] w fun e w' => e = .returned (.func (.func 130) #[] #[.pointer (some ⟨w.heap.size, 0, none⟩)]) ∧ w' = w.alloc (.cells #[.slice a len cap] 41) := by
  refine callsIn_of_wp Try.func112 rfl hf ?_ hro
  simp only [Try.ntmps112, List.size_toArray, List.length_cons, List.length_nil, Nat.reduceAdd, Nat.reduceSub, Array.replicate_succ, Array.replicate_zero, List.push_toArray, List.append_toArray, List.nil_append, List.cons_append]
  gi_wp2
  go_ret
  exact ⟨rfl, rfl⟩
theorem bw.Cells_of {W : World} {A : Option Addr} {zs : List S43} (h : Kd.C k43 W A zs.length zs) (hz : 0 < zs.length) : ∃ ad, A = some ad ∧ ad.block < W.heap.size ∧ bw.Cells W ad zs := by
  obtain ⟨ad, e, h0, _⟩ := at_T43 h 0 (by omega) (by omega)
  refine ⟨ad, e, ?_, fun j hj => ?_⟩
  · have := World.block_lt_of_cell? W _ h0
    rwa [add_block] at this
  · obtain ⟨ad', e', h1, h2⟩ := at_T43 h (j : Int) (by omega) (by omega)
    rw [e] at e'
    cases e'
    simp only [Int.toNat_natCast] at h1 h2
    exact ⟨h1, h2⟩
theorem bw.stops (F : Fence) (n : Nat) (hf : F.fn 130) (hro : F.round = none) (hn : 1 ≤ n) (Bs n₀ : Nat) (A : Option Addr) (cap : Nat) (zs : List S43) (hreach : zs.length ≤ 9223372036854775807) (w w1 : World) (hBs : Bs < n₀) (hn₀ : n₀ ≤ w.heap.size) (hw1 : w1.heap.size ≤ n₀) (hb1 : Below w1.heap.size w1 w)
    (hc : w.cell? ⟨Bs, 0, none⟩ = some (.slice A zs.length cap)) (hI : Kd.C k43 w1 A zs.length zs) :
    SeqStopsK F n Try.prog 130 #[.pointer (some ⟨Bs, 0, none⟩)] (fun x : Int × S43 => #[Value.int .i64 x.1, .agg #[.int .i64 x.2.f0, .int .i64 x.2.f1]]) (Below n₀) (fun ys => ys = bw.upto (bw.g zs) zs.length) (fun pre => ∃ k, k ≤ zs.length ∧ pre = bw.upto (bw.g zs) k) zs.length w := fun l J Jx W hW _ _ hY h0 => by
  have hc' := (hW.cell (p := ⟨Bs, 0, none⟩) (Nat.lt_of_lt_of_le hBs hn₀)).trans hc
  by_cases hz : 0 < zs.length
  · obtain ⟨ad, rfl, hbl, hcs⟩ := bw.Cells_of hI hz
    have hcW : bw.Cells W ad zs := fun j hj => by
      obtain ⟨h1, h2⟩ := hcs j hj
      have b1 : (ad.add (j * 2)).block < w1.heap.size := by rw [add_block]; exact hbl
      exact ⟨(hW.cell (p := ad.add (j * 2)) (by omega)).trans ((hb1.cell b1).trans h1), (hW.cell (p := ⟨(ad.add (j * 2)).block, (ad.add (j * 2)).off + 1, none⟩) (by show (ad.add (j * 2)).block < _; omega)).trans ((hb1.cell (p := ⟨(ad.add (j * 2)).block, (ad.add (j * 2)).off + 1, none⟩) b1).trans h2)⟩
    exact bw.one_in F n hf hro hn l Bs n₀ ad cap zs (by omega) hBs hreach J Jx hY W hc' hcW h0
  · have hz0 : zs.length = 0 := by omega
    rw [hz0] at hc' ⊢
    exact (bw.nil_in F n hf hro l Bs A cap J W hc' h0).mono fun e W' ⟨he, hj⟩ => ⟨he, .inl ⟨_, rfl, hj⟩⟩
def bw.val (zs : List S43) (ts : Int) : Int := match (bw.upto (bw.g zs) zs.length).find? (fun p => decide (p.2.f0 ≤ ts)) with | some p => p.2.f1 | none => 0
theorem bw.val_none {zs : List S43} {ts : Int} (h : ∀ p ∈ bw.upto (bw.g zs) zs.length, ¬ p.2.f0 ≤ ts) : bw.val zs ts = 0 := by
  unfold bw.val
  rw [List.find?_eq_none.2 (fun p hp => by simpa using h p hp)]
theorem bw.val_some {zs : List S43} {ts : Int} {k : Nat} {q : List (Int × S43)} {x : Int × S43} (hk : k ≤ zs.length) (e : bw.upto (bw.g zs) k = q ++ [x]) (h : ∀ p ∈ q, ¬ p.2.f0 ≤ ts) (hx : x.2.f0 ≤ ts) : bw.val zs ts = x.2.f1 := by
  have hpre : bw.upto (bw.g zs) zs.length = bw.upto (bw.g zs) k ++ ((List.range (zs.length - k)).map (k + ·)).map (bw.g zs) := by
    unfold bw.upto
    rw [← List.map_append, ← List.range_add]
    congr 2
    omega
  unfold bw.val
  rw [hpre, e, List.append_assoc, List.find?_append, List.find?_eq_none.2 (fun p hp => by simpa using h p hp)]
  simp [hx]
def bw.No (pre : List (Int × S43)) (ts : Int) : Prop := ∀ p ∈ pre, ¬ p.2.f0 ≤ ts
def bw.Hit (pre : List (Int × S43)) (ts : Int) : Prop := ∃ q x, pre = q ++ [x] ∧ bw.No q ts ∧ x.2.f0 ≤ ts
theorem bw.No_nil (ts : Int) : bw.No [] ts := fun p hp => by cases hp
theorem bw.No_snoc {pre : List (Int × S43)} {x : Int × S43} {ts : Int} (h : bw.No pre ts) (hx : ¬ x.2.f0 ≤ ts) : bw.No (pre ++ [x]) ts := fun p hq => by
  rcases List.mem_append.1 hq with h2 | h2
  · exact h p h2
  · rw [List.mem_singleton.1 h2]; exact hx
def bw.last (pre : List (Int × S43)) : Int := match pre.getLast? with | some p => p.2.f1 | none => 0
theorem bw.last_snoc (q : List (Int × S43)) (x : Int × S43) : bw.last (q ++ [x]) = x.2.f1 := by simp [bw.last]
set_option maxRecDepth 100000 in
set_option maxHeartbeats 4000000 in
theorem bw.readAt_in (F : Fence) (n : Nat) (h3 : F.fn 68) (h4 : F.fn 112) (h5 : F.fn 130) (hro : F.round = none) (hn : 6 ≤ n) (A0_0 : Option Addr) (c0_0 : Nat) (l0_0 : List (List (S43))) (a0_1 : Int) (a1 : Int) (a2 : Int) (w : World) (hr0_0 : Kd.C (Kd.slice 43 k43) w A0_0 l0_0.length l0_0) (h0 : 0 ≤ a1) (h1 : a1 < (l0_0.length : Int)) :
    CallsIn F n Try.prog 68 #[.agg #[.slice A0_0 l0_0.length c0_0, .int .i64 a0_1], .int .i64 a1, .int .i64 a2] w fun e w' => e = .returned (.int .i64 (bw.val (rd_L4 l0_0 a1) a2)) ∧ Below w.heap.size w w' := by
  have hn1 : 1 ≤ n := by omega
  have hu29 := Try.underlying28
  have hu61 := Try.underlying43
  obtain ⟨ad, A', c', rfl, hx, hl', hrow⟩ := at_L4 hr0_0 a1 h0 h1
  have hreach : (rd_L4 l0_0 a1).length ≤ 9223372036854775807 := hrow.2.1
  have hblk := World.block_lt_of_cell? w _ hx
  have p1 := eq_true h0
  have p2 := eq_true h1
  generalize rd_L4 l0_0 a1 = zs at hx hl' hrow hreach ⊢
  obtain ⟨W1, hW1⟩ : ∃ W1, w.alloc (.cells #[.slice (some ad) l0_0.length c0_0, .int .i64 a0_1] 28) = W1 := ⟨_, rfl⟩
  obtain ⟨W2, hW2⟩ : ∃ W2, W1.alloc (.cells #[.int .i64 a2] 3) = W2 := ⟨_, rfl⟩
  obtain ⟨W3, hW3⟩ : ∃ W3, W2.alloc (.cells #[.int .i64 0] 3) = W3 := ⟨_, rfl⟩
  obtain ⟨W0, hW0⟩ : ∃ W0, W3.alloc (.cells #[.slice A' zs.length c'] 41) = W0 := ⟨_, rfl⟩
  have s1 : W1.heap.size = w.heap.size + 1 := by rw [← hW1]; simp
  have s2 : W2.heap.size = w.heap.size + 2 := by rw [← hW2]; simp; omega
  have s3 : W3.heap.size = w.heap.size + 3 := by rw [← hW3]; simp; omega
  have s0 : W0.heap.size = w.heap.size + 4 := by rw [← hW0]; simp; omega
  have hB3 : Below w.heap.size w W3 := by rw [← hW3, ← hW2, ← hW1]; exact (((Below.refl _ w).alloc (Nat.le_refl _) _).alloc (by simp) _).alloc (by simp; omega) _
  have hB0 : Below w.heap.size w W0 := by rw [← hW0]; exact hB3.alloc (by omega) _
  have bT : Boxed W0 (w.heap.size + 1) 3 (.int .i64 a2) := by
    have := ((Boxed.new W1 3 (.int .i64 a2)).alloc (.cells #[.int .i64 0] 3)).alloc (.cells #[.slice A' zs.length c'] 41)
    rw [hW2, hW3, hW0, s1] at this; exact this
  have bR : Boxed W0 (w.heap.size + 2) 3 (.int .i64 0) := by
    have := (Boxed.new W2 3 (.int .i64 0)).alloc (.cells #[.slice A' zs.length c'] 41)
    rw [hW3, hW0, s2] at this; exact this
  have bS : Boxed W0 (w.heap.size + 3) 41 (.slice A' zs.length c') := by
    have := Boxed.new W3 41 (.slice A' zs.length c')
    rw [hW0, s3] at this; exact this
  have hs1 : W3.cell? ⟨w.heap.size, 0, none⟩ = some (.slice (some ad) l0_0.length c0_0) := by
    have hb : W1.heap[w.heap.size]? = some (.cells #[.slice (some ad) l0_0.length c0_0, .int .i64 a0_1] 28 (0, 0)) := by rw [← hW1]; exact World.alloc_heap_new w _
    have hb3 : W3.heap[w.heap.size]? = some (.cells #[.slice (some ad) l0_0.length c0_0, .int .i64 a0_1] 28 (0, 0)) := by
      rw [← hW3, ← hW2]
      exact blk_alloc (blk_alloc hb _) _
    exact (blk_cell hb3 0).trans rfl
  have hx3 : W3.cell? (ad.add a1.toNat) = some (.slice A' zs.length c') := (hB3.cell hblk).trans hx
  refine callsIn_of_wp_marks Try.func68 rfl h3 ?_ hro
  simp only [Try.ntmps68, List.size_toArray, List.length_cons, List.length_nil, Nat.reduceAdd, Nat.reduceSub, Array.replicate_succ, Array.replicate_zero, List.push_toArray, List.append_toArray, List.nil_append, List.cons_append]
  gi_wp2_with (gi_at_call 112; refine (bw.make_in F (n - 1) h4 hro _ _ _ _).mono ?_; rintro e w' ⟨rfl, rfl⟩)
  clear hs1 hx3 hW1 hW2 hW3 hW0 hx hu29
  refine wpIn_rangeFunc_ownH hro hn1 (gf := 130) (lb := #[.pointer (some ⟨w.heap.size + 3, 0, none⟩)]) rfl h5 (enters_of Try.func130 (by kernel_rfl) rfl)
    (bw.stops F (n - 1) h5 hro (by omega) (w.heap.size + 3) (w.heap.size + 4) A' c' zs hreach W0 w (by omega) (by omega) (by omega) hB0 bS.cell hrow) belowK_t (belowK_b (by omega)) (Below.refl _ _) (fun _ => rfl)
    (fun pre W => (((bw.No pre a2 ∧ Boxed W (w.heap.size + 2) 3 (.int .i64 0)) ∧ Boxed W (w.heap.size + 1) 3 (.int .i64 a2)) ∧ Boxed W (w.heap.size + 3) 41 (.slice A' zs.length c')) ∧ Below w.heap.size w W)
    (fun c pre W => ((c = .ret ∧ bw.Hit pre a2) ∧ Boxed W (w.heap.size + 2) 3 (.int .i64 (bw.last pre))) ∧ Below w.heap.size w W)
    (OwnFrom.and (OwnFrom.and (OwnFrom.and (OwnFrom.and (ownFrom_pure _ _) (Own.from (boxed_own _ _ _) _)) (Own.from (boxed_own _ _ _) _)) (Own.from (boxed_own _ _ _) _)) (ownFrom_below (Nat.le_refl _) (by omega)))
    (fun c => OwnFrom.and (OwnFrom.and (ownFrom_pure _ _) (Own.from (boxed_own _ _ (fun pre => .int .i64 (bw.last pre))) _)) (ownFrom_below (Nat.le_refl _) (by omega)))
    ⟨⟨⟨⟨bw.No_nil a2, bR⟩, bT⟩, bS⟩, hB0⟩
    (fun x a' W => ∃ Bx, w.heap.size + 3 < Bx ∧ W.heap[Bx]? = some (.cells #[.int .i64 x.2.f0, .int .i64 x.2.f1] 43 (0, 0)) ∧ a' = { tmps := #[.agg #[.slice (some ad) l0_0.length c0_0, .int .i64 a0_1], .int .i64 a1, .int .i64 a2, .pointer (some ⟨w.heap.size, 0, none⟩), undef, .pointer (some ⟨w.heap.size + 1, 0, none⟩), .pointer (some ⟨w.heap.size + 2, 0, none⟩), undef, .pointer (some ⟨Bx, 0, none⟩), .pointer (some ⟨w.heap.size, 0, none⟩), .slice (some ad) l0_0.length c0_0, .int .i64 a1, .pointer (some (ad.add a1.toNat)), .slice A' zs.length c', .func (.func 130) #[] #[.pointer (some ⟨w.heap.size + 3, 0, none⟩)], .int .i64 x.1, .agg #[.int .i64 x.2.f0, .int .i64 x.2.f1], undef, undef, undef, undef, undef, undef], defers := [] })
    (fun x a' _ X Y row hs hg hr => by
      obtain ⟨Bx, e1, e2, e3⟩ := hs
      exact ⟨Bx, e1, (hg.block Bx (Array.getElem?_eq_some_iff.1 e2).1 (fun e' => by obtain ⟨_, o, ho, hc⟩ := hr Bx e'.symm; rw [e2] at ho; cases ho; cases hc)).trans e2, e3⟩)
    ?assign ?body ?done ?stop
  case assign =>
    rintro l pre x W K ⟨⟨⟨⟨hp, bR1⟩, bT1⟩, bS1⟩, hB1⟩ hK
    have hlt := bS1.lt
    gi_wp2
    exact hK _ _ ((KeepsOthers.alloc _ _).from _) ((Below.refl _ W).alloc (by omega) _) ⟨⟨⟨⟨hp, bR1.alloc _⟩, bT1.alloc _⟩, bS1.alloc _⟩, hB1.alloc hB1.size _⟩ ⟨W.heap.size, hlt, World.alloc_heap_new W _, rfl⟩
  case body =>
    rintro l pre x a' W hl ⟨r, hr⟩ ⟨⟨⟨⟨hp, bR1⟩, bT1⟩, bS1⟩, hB1⟩ ⟨Bx, hBx, bX, rfl⟩ hlt
    have cT := bT1.cell
    have cR := bR1.cell
    have fR := bR1.frozen
    have cX0 : W.cell? ⟨Bx, 0, none⟩ = some (.int .i64 x.2.f0) := (blk_cell bX 0).trans rfl
    have cX1 : W.cell? ⟨Bx, 1, none⟩ = some (.int .i64 x.2.f1) := (blk_cell bX 1).trans rfl
    by_cases hcmp : x.2.f0 ≤ a2
    · have hd : decide (x.2.f0 ≤ a2) = true := decide_eq_true hcmp
      have HC := Aside0.mk hcmp
      clear hcmp
      gi_wp2
      exact ⟨(KeepsOthers.setCell _ _ _).from _, ⟨⟨rfl, ⟨pre, x, rfl, hp, HC.out⟩⟩, by rw [bw.last_snoc]; exact bR1.set _⟩, hB1.setCell (p := ⟨w.heap.size + 2, 0, none⟩) (by show w.heap.size ≤ w.heap.size + 2; omega) _⟩
    · have hd : decide (x.2.f0 ≤ a2) = false := decide_eq_false hcmp
      have HC := Aside0.mk hcmp
      clear hcmp
      gi_wp2
      exact ⟨KeepsFrom.refl _ _, Below.refl _ _, ⟨⟨⟨bw.No_snoc hp (by have := HC.out; omega), bR1⟩, bT1⟩, bS1⟩, hB1⟩
  case done =>
    rintro D ys W hD rfl ⟨⟨⟨⟨hp, bR1⟩, bT1⟩, bS1⟩, hB1⟩ hK
    have cR := bR1.cell
    have fR := bR1.frozen
    gi_wp2
    have hK' := (KeepsOthers.setCell W ⟨w.heap.size + 2, 0, none⟩ (.int .i64 0)).same D _ hK rfl
    refine ⟨by simp, .inl ⟨_, _, rfl, run_takeDeferred hK', ?_⟩⟩
    have hc5 := cell_kept (bR1.set (.int .i64 0)).cell (grownBy_putObj' _ D (.deferred none)) (fun r e => by cases e; exact ⟨_, hK', rfl⟩)
    refine ⟨.int .i64 0, ?_, by rw [bw.val_none hp], (hB1.setCell (p := ⟨w.heap.size + 2, 0, none⟩) (by show w.heap.size ≤ w.heap.size + 2; omega) _).trans (belowK_b (w := w) (Nat.le_refl _) _ D _ _ (by omega) hK' rfl rfl)⟩
    simp [results, Try.f68, go_sem, hc5]
  case stop =>
    rintro D c pre W hD ⟨k, hk, hpre⟩ ⟨⟨⟨rfl, q, x, rfl, hq, hx2⟩, bR1⟩, hB1⟩ hK
    gi_wp2
    refine ⟨by simp, .inl ⟨_, _, rfl, run_takeDeferred hK, ?_⟩⟩
    have hc5 := cell_kept bR1.cell (grownBy_putObj' _ D (.deferred none)) (fun r e => by cases e; exact ⟨_, hK, rfl⟩)
    refine ⟨.int .i64 (bw.last (q ++ [x])), ?_, by rw [bw.last_snoc, bw.val_some hk hpre.symm hq hx2], hB1.trans (belowK_b (w := w) (Nat.le_refl _) W D _ _ (by omega) hK rfl rfl)⟩
    simp [results, Try.f68, go_sem, hc5]
def impl_Store_readAt.f (l0_0 : List (List (S43))) (a0_1 : Int) (a1 : Int) (a2 : Int) : Option (Int) := if 0 ≤ a1 then (if a1 < (l0_0.length : Int) then (some (bw.val (rd_L4 l0_0 a1) a2)) else (none)) else (none)
theorem impl_Store_readAt.calls (A0_0 : Option Addr) (c0_0 : Nat) (l0_0 : List (List (S43))) (a0_1 : Int) (a1 : Int) (a2 : Int) (r : Int) (w : World) (hr0_0 : Kd.C (Kd.slice 43 k43) w A0_0 l0_0.length l0_0) (hc0_0 : l0_0.length ≤ c0_0) (h : impl_Store_readAt.f l0_0 a0_1 a1 a2 = some r) :
    Calls Try.prog 68 #[.agg #[.slice A0_0 l0_0.length c0_0, .int .i64 a0_1], .int .i64 a1, .int .i64 a2] w fun e w' => e = .returned (.int .i64 r) ∧ Below w.heap.size w w' := by
  unfold impl_Store_readAt.f at h
  by_cases h0 : 0 ≤ a1
  · rw [if_pos h0] at h
    by_cases h1 : a1 < (l0_0.length : Int)
    · rw [if_pos h1] at h
      obtain rfl := Option.some.inj h
      exact (callsIn_wide (n := 6)).1 (bw.readAt_in Fence.wide 6 trivial trivial trivial rfl (Nat.le_refl _) A0_0 c0_0 l0_0 a0_1 a1 a2 w hr0_0 h0 h1)
    · rw [if_neg h1] at h; cases h
  · rw [if_neg h0] at h; cases h
end


def impl_ReadAt.f (k : Nat) (l0_0 : List (List (S43))) (a0_1 : Int) (a1 : Int) (a2 : Int) : Option (Int × Int) := (impl_StoreOK.f k l0_0 a0_1).bind fun t102 => (if t102 = true then ((impl_isKey.f a1).bind fun t103 => (if t103 = true then ((impl_Store_isHour.f l0_0 a0_1 a2).bind fun t104 => (if t104 = true then ((impl_Store_readAt.f l0_0 a0_1 a1 a2).bind fun t105 => (some (t105, 0))) else (some (0, 4)))) else (some (0, 4)))) else (some (0, 1)))
set_option maxHeartbeats 8000000 in
set_option maxRecDepth 100000 in
theorem impl_ReadAt.calls (k : Nat) (A0_0 : Option Addr) (c0_0 : Nat) (l0_0 : List (List (S43))) (a0_1 : Int) (a1 : Int) (a2 : Int) (r1 : Int) (r2 : Int) (w : World) (hr0_0 : Kd.C (Kd.slice 43 k43) w A0_0 l0_0.length l0_0) (hc0_0 : l0_0.length ≤ c0_0) (h : impl_ReadAt.f k l0_0 a0_1 a1 a2 = some (r1, r2)) :
  Calls Try.prog 23 #[.agg #[.slice A0_0 l0_0.length c0_0, .int .i64 a0_1], .int .i64 a1, .int .i64 a2] w fun e w' => e = .returned (.tuple #[.int .i64 r1, .int .i64 r2]) ∧ Below w.heap.size w w' := by
 have hu28 := Try.underlying28; have HR0_0 := qO hr0_0; have HC0_0 := qO hc0_0; clear hr0_0 hc0_0; have HB := qO (Below.refl w.heap.size w); have H : ((impl_StoreOK.f k l0_0 a0_1).bind fun t102 => (if t102 = true then ((impl_isKey.f a1).bind fun t103 => (if t103 = true then ((impl_Store_isHour.f l0_0 a0_1 a2).bind fun t104 => (if t104 = true then ((impl_Store_readAt.f l0_0 a0_1 a1 a2).bind fun t105 => (some (t105, 0))) else (some (0, 4)))) else (some (0, 4)))) else (some (0, 1)))) = some (r1, r2) := h; clear h; replace H := Option.bind_eq_some_iff.mp H; obtain ⟨t102, A40, H⟩ := H; replace H : (if t102 = true then ((impl_isKey.f a1).bind fun t103 => (if t103 = true then ((impl_Store_isHour.f l0_0 a0_1 a2).bind fun t104 => (if t104 = true then ((impl_Store_readAt.f l0_0 a0_1 a1 a2).bind fun t105 => (some (t105, 0))) else (some (0, 4)))) else (some (0, 4)))) else (some (0, 1))) = some (r1, r2) := H; have A4 := qO A40; clear A40
 by_cases c5 : t102 = true
 ·subst c5
  have H1 : ((impl_isKey.f a1).bind fun t103 => (if t103 = true then ((impl_Store_isHour.f l0_0 a0_1 a2).bind fun t104 => (if t104 = true then ((impl_Store_readAt.f l0_0 a0_1 a1 a2).bind fun t105 => (some (t105, 0))) else (some (0, 4)))) else (some (0, 4)))) = some (r1, r2) := by rw [if_pos rfl] at H; exact H
  clear H; have H := H1; clear H1; replace H := Option.bind_eq_some_iff.mp H; obtain ⟨t103, A60, H⟩ := H; replace H : (if t103 = true then ((impl_Store_isHour.f l0_0 a0_1 a2).bind fun t104 => (if t104 = true then ((impl_Store_readAt.f l0_0 a0_1 a1 a2).bind fun t105 => (some (t105, 0))) else (some (0, 4)))) else (some (0, 4))) = some (r1, r2) := H; have A6 := qO A60; clear A60
  by_cases c7 : t103 = true
  ·subst c7
   have H1 : ((impl_Store_isHour.f l0_0 a0_1 a2).bind fun t104 => (if t104 = true then ((impl_Store_readAt.f l0_0 a0_1 a1 a2).bind fun t105 => (some (t105, 0))) else (some (0, 4)))) = some (r1, r2) := by rw [if_pos rfl] at H; exact H
   clear H; have H := H1; clear H1; replace H := Option.bind_eq_some_iff.mp H; obtain ⟨t104, A80, H⟩ := H; replace H : (if t104 = true then ((impl_Store_readAt.f l0_0 a0_1 a1 a2).bind fun t105 => (some (t105, 0))) else (some (0, 4))) = some (r1, r2) := H; have A8 := qO A80; clear A80
   by_cases c9 : t104 = true
   ·subst c9
    have H1 : ((impl_Store_readAt.f l0_0 a0_1 a1 a2).bind fun t105 => (some (t105, 0))) = some (r1, r2) := by rw [if_pos rfl] at H; exact H
    clear H; have H := H1; clear H1; replace H := Option.bind_eq_some_iff.mp H; obtain ⟨t105, A100, H⟩ := H; replace H : (some (t105, 0)) = some (r1, r2) := H; have A10 := qO A100; clear A100; simp only [Option.some.injEq, Prod.mk.injEq] at H; obtain ⟨rfl, rfl⟩ := H
    go_enter Try.func23, Try.ntmps23
    go_wp2_with (first | ((with_reducible refine gate_dst (N := 3) rfl ?_); refine qX 3 #[.slice A0_0 l0_0.length c0_0, .int .i64 a0_1] 28 ?_; intro gb101 hg w11 hbox hb; have hx_ := qHX HB hb qa1; have BK101 := qO (hbox); have GW101 := qO ((qa17 : w.heap.size ≤ gb101)); have GE101 := GW101; replace HB := qO (below_step (below_step HB.out hx_) hb); clear hx_ hb hbox hg; obtain ⟨hcz12_0, hcz12_1, hfz12_0, hfz12_1⟩ := qb2 BK101.out) | ((with_reducible refine gate_callee (f := 22) rfl ?_); refine goesL_ (some 10) rfl rfl Try.func22 qa7 rfl #[.agg #[.slice A0_0 l0_0.length c0_0, .int .i64 a0_1]] rfl qa0 ?_; (with_reducible refine (impl_StoreOK.calls k _ _ l0_0 a0_1 true _ ?side1 ?side2 A4.out).mono ?_); (case side1 => exact qa11); (case side2 => exact HC0_0.out); rintro e w13 ⟨rfl, hb⟩; have hx_ := qHX HB hb qa1; refine ⟨_, rfl, ?_⟩; replace BK101 := qO (qB BK101.out hx_ hb); replace HB := qO (below_step (below_step HB.out hx_) hb); clear hx_; (try clear hb); (try clear hb2); (try clear hk); (try clear hi)) | ((with_reducible refine gate_callee (f := 67) rfl ?_); refine goesL_ (some 14) rfl rfl Try.func67 qa7 rfl #[.int .i64 a1] rfl qa0 ?_; (with_reducible refine (impl_isKey.calls a1 true _ A6.out).mono ?_); rintro e w' ⟨rfl, ⟨nd, rfl⟩⟩; refine ⟨_, rfl, ?_⟩; obtain ⟨hcz14_0, hcz14_1, hfz14_0, hfz14_1⟩ := qb2 BK101.out) | (go_at_call 57; (with_reducible refine (impl_Store_isHour.calls _ _ l0_0 a0_1 a2 true _ ?side1 ?side2 A8.out).mono ?_); (case side1 => exact qa89); (case side2 => exact HC0_0.out); rintro e w15 ⟨rfl, hb⟩; have hx_ := qHX HB hb qa1; replace BK101 := qO (qB BK101.out hx_ hb); replace HB := qO (below_step (below_step HB.out hx_) hb); clear hx_; (try clear hb); (try clear hb2); (try clear hk); (try clear hi); obtain ⟨hcz16_0, hcz16_1, hfz16_0, hfz16_1⟩ := qb2 BK101.out) | ((with_reducible refine gate_callee (f := 68) rfl ?_); refine goesL_ (some 25) rfl rfl Try.func68 qa7 rfl #[.agg #[.slice A0_0 l0_0.length c0_0, .int .i64 a0_1], .int .i64 a1, .int .i64 a2] rfl qa0 ?_; (with_reducible refine (impl_Store_readAt.calls _ _ l0_0 a0_1 a1 a2 t105 _ ?side1 ?side2 A10.out).mono ?_); (case side1 => exact qa11); (case side2 => exact HC0_0.out); rintro e w17 ⟨rfl, hb⟩; have hx_ := qHX HB hb qa1; refine ⟨_, rfl, ?_⟩; replace BK101 := qO (qB BK101.out hx_ hb); replace HB := qO (below_step (below_step HB.out hx_) hb); clear hx_; (try clear hb); (try clear hb2); (try clear hk); (try clear hi)))
    go_ret2
    exact ⟨qa9, qa5⟩
   ·replace c9 := Bool.eq_false_iff.mpr c9
    subst c9; have H1 : (some (0, 4)) = some (r1, r2) := by rw [if_neg (show ¬ (false = true) by decide)] at H; exact H
    clear H; have H := H1; clear H1; simp only [Option.some.injEq, Prod.mk.injEq] at H; obtain ⟨rfl, rfl⟩ := H
    go_enter Try.func23, Try.ntmps23
    go_wp2_with (first | ((with_reducible refine gate_dst (N := 3) rfl ?_); refine qX 3 #[.slice A0_0 l0_0.length c0_0, .int .i64 a0_1] 28 ?_; intro gb101 hg w18 hbox hb; have hx_ := qHX HB hb qa1; have BK101 := qO (hbox); have GW101 := qO ((qa17 : w.heap.size ≤ gb101)); have GE101 := GW101; replace HB := qO (below_step (below_step HB.out hx_) hb); clear hx_ hb hbox hg; obtain ⟨hcz19_0, hcz19_1, hfz19_0, hfz19_1⟩ := qb2 BK101.out) | ((with_reducible refine gate_callee (f := 22) rfl ?_); refine goesL_ (some 10) rfl rfl Try.func22 qa7 rfl #[.agg #[.slice A0_0 l0_0.length c0_0, .int .i64 a0_1]] rfl qa0 ?_; (with_reducible refine (impl_StoreOK.calls k _ _ l0_0 a0_1 true _ ?side1 ?side2 A4.out).mono ?_); (case side1 => exact qa11); (case side2 => exact HC0_0.out); rintro e w20 ⟨rfl, hb⟩; have hx_ := qHX HB hb qa1; refine ⟨_, rfl, ?_⟩; replace BK101 := qO (qB BK101.out hx_ hb); replace HB := qO (below_step (below_step HB.out hx_) hb); clear hx_; (try clear hb); (try clear hb2); (try clear hk); (try clear hi)) | ((with_reducible refine gate_callee (f := 67) rfl ?_); refine goesL_ (some 14) rfl rfl Try.func67 qa7 rfl #[.int .i64 a1] rfl qa0 ?_; (with_reducible refine (impl_isKey.calls a1 true _ A6.out).mono ?_); rintro e w' ⟨rfl, ⟨nd, rfl⟩⟩; refine ⟨_, rfl, ?_⟩; obtain ⟨hcz21_0, hcz21_1, hfz21_0, hfz21_1⟩ := qb2 BK101.out) | (go_at_call 57; (with_reducible refine (impl_Store_isHour.calls _ _ l0_0 a0_1 a2 false _ ?side1 ?side2 A8.out).mono ?_); (case side1 => exact qa89); (case side2 => exact HC0_0.out); rintro e w22 ⟨rfl, hb⟩; have hx_ := qHX HB hb qa1; replace BK101 := qO (qB BK101.out hx_ hb); replace HB := qO (below_step (below_step HB.out hx_) hb); clear hx_; (try clear hb); (try clear hb2); (try clear hk); (try clear hi)))
    go_ret2
    exact ⟨qa9, qa5⟩
  ·replace c7 := Bool.eq_false_iff.mpr c7
   subst c7; have H1 : (some (0, 4)) = some (r1, r2) := by rw [if_neg (show ¬ (false = true) by decide)] at H; exact H
   clear H; have H := H1; clear H1; simp only [Option.some.injEq, Prod.mk.injEq] at H; obtain ⟨rfl, rfl⟩ := H
   go_enter Try.func23, Try.ntmps23
   go_wp2_with (first | ((with_reducible refine gate_dst (N := 3) rfl ?_); refine qX 3 #[.slice A0_0 l0_0.length c0_0, .int .i64 a0_1] 28 ?_; intro gb101 hg w23 hbox hb; have hx_ := qHX HB hb qa1; have BK101 := qO (hbox); have GW101 := qO ((qa17 : w.heap.size ≤ gb101)); have GE101 := GW101; replace HB := qO (below_step (below_step HB.out hx_) hb); clear hx_ hb hbox hg; obtain ⟨hcz24_0, hcz24_1, hfz24_0, hfz24_1⟩ := qb2 BK101.out) | ((with_reducible refine gate_callee (f := 22) rfl ?_); refine goesL_ (some 10) rfl rfl Try.func22 qa7 rfl #[.agg #[.slice A0_0 l0_0.length c0_0, .int .i64 a0_1]] rfl qa0 ?_; (with_reducible refine (impl_StoreOK.calls k _ _ l0_0 a0_1 true _ ?side1 ?side2 A4.out).mono ?_); (case side1 => exact qa11); (case side2 => exact HC0_0.out); rintro e w25 ⟨rfl, hb⟩; have hx_ := qHX HB hb qa1; refine ⟨_, rfl, ?_⟩; replace BK101 := qO (qB BK101.out hx_ hb); replace HB := qO (below_step (below_step HB.out hx_) hb); clear hx_; (try clear hb); (try clear hb2); (try clear hk); (try clear hi)) | ((with_reducible refine gate_callee (f := 67) rfl ?_); refine goesL_ (some 14) rfl rfl Try.func67 qa7 rfl #[.int .i64 a1] rfl qa0 ?_; (with_reducible refine (impl_isKey.calls a1 false _ A6.out).mono ?_); rintro e w' ⟨rfl, ⟨nd, rfl⟩⟩; refine ⟨_, rfl, ?_⟩))
   go_ret2
   exact ⟨qa9, qa5⟩
 ·replace c5 := Bool.eq_false_iff.mpr c5
  subst c5; have H1 : (some (0, 1)) = some (r1, r2) := by rw [if_neg (show ¬ (false = true) by decide)] at H; exact H
  clear H; have H := H1; clear H1; simp only [Option.some.injEq, Prod.mk.injEq] at H; obtain ⟨rfl, rfl⟩ := H
  go_enter Try.func23, Try.ntmps23
  go_wp2_with (first | ((with_reducible refine gate_dst (N := 3) rfl ?_); refine qX 3 #[.slice A0_0 l0_0.length c0_0, .int .i64 a0_1] 28 ?_; intro gb101 hg w26 hbox hb; have hx_ := qHX HB hb qa1; have BK101 := qO (hbox); have GW101 := qO ((qa17 : w.heap.size ≤ gb101)); have GE101 := GW101; replace HB := qO (below_step (below_step HB.out hx_) hb); clear hx_ hb hbox hg; obtain ⟨hcz27_0, hcz27_1, hfz27_0, hfz27_1⟩ := qb2 BK101.out) | ((with_reducible refine gate_callee (f := 22) rfl ?_); refine goesL_ (some 10) rfl rfl Try.func22 qa7 rfl #[.agg #[.slice A0_0 l0_0.length c0_0, .int .i64 a0_1]] rfl qa0 ?_; (with_reducible refine (impl_StoreOK.calls k _ _ l0_0 a0_1 false _ ?side1 ?side2 A4.out).mono ?_); (case side1 => exact qa11); (case side2 => exact HC0_0.out); rintro e w28 ⟨rfl, hb⟩; have hx_ := qHX HB hb qa1; refine ⟨_, rfl, ?_⟩; replace BK101 := qO (qB BK101.out hx_ hb); replace HB := qO (below_step (below_step HB.out hx_) hb); clear hx_; (try clear hb); (try clear hb2); (try clear hk); (try clear hi)))
  go_ret2
  exact ⟨qa9, qa5⟩


def impl_sameNow.l0 : Nat → Int → List (List (S43)) → Int → List (List (S43)) → Int → Option (Bool)
 | 0, _, _, _, _, _ => none
 | k + 1, x6, x102000, x102001, x103000, x103001 => if x6 < 16 then ((impl_Store_readAt.f x102000 x102001 x6 x102001).bind fun t103 => ((impl_Store_readAt.f x103000 x103001 x6 x103001).bind fun t104 => (if t103 = t104 then (impl_sameNow.l0 k (wrap64 (x6 + 1)) x102000 x102001 x103000 x103001) else (some false)))) else (some true)
def impl_sameNow.f (k : Nat) (l0_0 : List (List (S43))) (a0_1 : Int) (l1_0 : List (List (S43))) (a1_1 : Int) : Option (Bool) := impl_sameNow.l0 k 0 l0_0 a0_1 l1_0 a1_1
def impl_sameNow.T4 : Bool × List (List Nat × List Nat) := (true, [([], []), ([], []), ([], []), ([2], [2]), ([0, 1, 3], [0, 1, 3]), ([], []), ([], []), ([], []), ([7], [7]), ([5, 6, 8, 4], [5, 6, 8]), ([4, 9], [4, 9])])
def impl_sameNow.B4 : List Nat := [0, 0, 0, 4, 15, 0, 0, 0, 128, 511, 1023]
theorem impl_sameNow.tab4 : rtab .any (opsOf Try.f69 4) = impl_sameNow.T4 := by kernel_rfl
theorem impl_sameNow.bits4 : waitsOk impl_sameNow.T4.2 impl_sameNow.B4 = true := by kernel_rfl
def impl_sameNow.y0 := #[qf,qf,qf,qf,qf,qf,qf,qf,qf,qf,qf]
def impl_sameNow.y1 := #[qf,qt,qf,qf,qf,qf,qf,qf,qf,qf,qf]
def impl_sameNow.y2 := #[qf,qt,qt,qf,qf,qf,qf,qf,qf,qf,qf]
def impl_sameNow.y3 := #[qf,qt,qt,qf,qf,qf,qt,qf,qf,qf,qf]
def impl_sameNow.y4 := #[qf,qt,qt,qf,qf,qf,qt,qt,qf,qf,qf]
def impl_sameNow.y5 := #[qt,qt,qt,qf,qf,qf,qt,qt,qf,qf,qf]
def impl_sameNow.y6 := #[qt,qt,qt,qt,qf,qf,qt,qt,qf,qf,qf]
def impl_sameNow.y7 := #[qt,qt,qt,qt,qf,qt,qt,qt,qf,qf,qf]
def impl_sameNow.y8 := #[qt,qt,qt,qt,qf,qt,qt,qt,qt,qf,qf]
def impl_sameNow.y9 := #[qt,qt,qt,qt,qt,qt,qt,qt,qt,qf,qf]
def impl_sameNow.y10 := #[qt,qt,qt,qt,qt,qt,qt,qt,qt,qt,qf]
def impl_sameNow.y11 := #[qt,qt,qt,qt,qt,qt,qt,qt,qt,qt,qt]
set_option maxHeartbeats 8000000 in
set_option maxRecDepth 100000 in
theorem impl_sameNow.calls (k : Nat) (A0_0 : Option Addr) (c0_0 : Nat) (l0_0 : List (List (S43))) (a0_1 : Int) (A1_0 : Option Addr) (c1_0 : Nat) (l1_0 : List (List (S43))) (a1_1 : Int) (r : Bool) (w : World) (hr0_0 : Kd.C (Kd.slice 43 k43) w A0_0 l0_0.length l0_0) (hc0_0 : l0_0.length ≤ c0_0) (hr1_0 : Kd.C (Kd.slice 43 k43) w A1_0 l1_0.length l1_0) (hc1_0 : l1_0.length ≤ c1_0) (h : impl_sameNow.f k l0_0 a0_1 l1_0 a1_1 = some r) :
  Calls Try.prog 69 #[.agg #[.slice A0_0 l0_0.length c0_0, .int .i64 a0_1], .agg #[.slice A1_0 l1_0.length c1_0, .int .i64 a1_1]] w fun e w' => e = .returned (.bool r) ∧ Below w.heap.size w w' := by
 have hu28 := Try.underlying28; have HR0_0 := qO hr0_0; have HC0_0 := qO hc0_0; clear hr0_0 hc0_0; have HR1_0 := qO hr1_0; have HC1_0 := qO hc1_0; clear hr1_0 hc1_0; have HB := qO (Below.refl w.heap.size w); have H : (impl_sameNow.l0 k 0 l0_0 a0_1 l1_0 a1_1) = some r := h; clear h; have H' := qO H; clear H
 go_enter Try.func69, Try.ntmps69
 go_wp2_with (first | ((with_reducible refine gate_dst (N := 2) rfl ?_); refine qX 2 #[.slice A0_0 l0_0.length c0_0, .int .i64 a0_1] 28 ?_; intro gb101 hg w3 hbox hb; have hx_ := qHX HB hb qa1; have BK101 := qO (hbox); have GW101 := qO ((qa17 : w.heap.size ≤ gb101)); have GE101 := GW101; replace HB := qO (below_step (below_step HB.out hx_) hb); clear hx_ hb hbox hg) | ((with_reducible refine gate_dst (N := 3) rfl ?_); refine qX 3 #[.slice A1_0 l1_0.length c1_0, .int .i64 a1_1] 28 ?_; intro gb102 hg w4 hbox hb; have hx_ := qHX HB hb qa1; have BK102 := qO (hbox); have GW102 := qO ((qa17 : w.heap.size ≤ gb102)); have GE102 := GW102; have NB101_102 := qO ((qa8 : gb101 ≠ gb102)); have NB102_101 := qO (Ne.symm NB101_102.out); replace BK101 := qO (qB BK101.out hx_ hb); replace HB := qO (below_step (below_step HB.out hx_) hb); clear hx_ hb hbox hg))
 go_loopg [6] k (fun kq v6 w' => ∃ (x6_1 : Int), v6 = .int .i64 x6_1 ∧ Aside0 (impl_sameNow.l0 kq x6_1 l0_0 a0_1 l1_0 a1_1 = some r) ∧ Aside0 (kq ≤ k) ∧ Aside0 (w'.heap[gb101]? = some (.cells #[(.slice A0_0 l0_0.length c0_0), .int .i64 a0_1] 28 (0, 0))) ∧ Aside0 (w'.heap[gb102]? = some (.cells #[(.slice A1_0 l1_0.length c1_0), .int .i64 a1_1] 28 (0, 0))) ∧ Aside0 (Below w.heap.size w w'))
 case atStart => exact ⟨(0), qa18, H', ⟨Nat.le_refl _⟩, ⟨qa4⟩, ⟨qa26⟩, ⟨qa19⟩⟩
 case round =>
  clear H'
  try clear c1
  try clear p2
  obtain ⟨x6_1, rfl, HA, HK1, BK101, BK102, HB⟩ := hrel
  cases gk with
  | zero => exact absurd HA.out (by simp [impl_sameNow.l0])
  | succ k1 =>
   have H := HA.out; clear HA; simp only [impl_sameNow.l0] at H
   by_cases c5 : x6_1 < 16
   ·rw [if_pos c5] at H
    have c5b0 : decide (x6_1 < 16) = true := decide_eq_true c5; clear c5; replace H := Option.bind_eq_some_iff.mp H; obtain ⟨t103, A60, H⟩ := H; replace H : ((impl_Store_readAt.f l1_0 a1_1 x6_1 a1_1).bind fun t104 => (if t103 = t104 then (impl_sameNow.l0 k1 (wrap64 (x6_1 + 1)) l0_0 a0_1 l1_0 a1_1) else (some false))) = some r := H; have A6 := qO A60; clear A60; replace H := Option.bind_eq_some_iff.mp H; obtain ⟨t104, A70, H⟩ := H; replace H : (if t103 = t104 then (impl_sameNow.l0 k1 (wrap64 (x6_1 + 1)) l0_0 a0_1 l1_0 a1_1) else (some false)) = some r := H; have A7 := qO A70; clear A70
    by_cases c8 : t103 = t104
    ·rw [if_pos c8] at H
     have c8b0 : (t103 == t104) = true := beq_iff_eq.mpr c8; have c8b1 : (t103 != t104) = false := bne_eq_false_iff_eq.mpr c8; clear c8; have H' := qO H; clear H
     try go_wp2
     replace BK101 := qO (qkD BK101.out); replace BK102 := qO (qkD BK102.out); replace HB := qO (qbD HB.out); refine start_ (n := 11) (S := fun w' => w'.cell? ⟨gb101, 0, none⟩ = some (.slice A0_0 l0_0.length c0_0) ∧ w'.cell? ⟨gb101, 1, none⟩ = some (.int .i64 a0_1) ∧ w'.cell? ⟨gb102, 0, none⟩ = some (.slice A1_0 l1_0.length c1_0) ∧ w'.cell? ⟨gb102, 1, none⟩ = some (.int .i64 a1_1)) (ds := []) impl_sameNow.y0 qa7 rfl rfl ⟨qc0 BK101.out, qc1 BK101.out, qc0 BK102.out, qc1 BK102.out⟩ (fun hHeld => ?_); refine with_tabW impl_sameNow.tab4 impl_sameNow.bits4 (fun HT_ HW_ => ?_); generalize wr.drew = w9 at BK101 BK102 HB hHeld ⊢; refine qPu 1 10 impl_sameNow.y1 rfl rfl (any_of HT_.out qa7) qa10 qa3 ?_; refine qPu 2 11 impl_sameNow.y2 rfl rfl (any_of HT_.out qa7) qa10 qa3 ?_; refine qPu 6 15 impl_sameNow.y3 rfl rfl (any_of HT_.out qa7) qa10 qa3 ?_; refine qPu 7 16 impl_sameNow.y4 rfl rfl (any_of HT_.out qa7) qa10 qa3 ?_; refine qTk 0 9 impl_sameNow.y5 rfl rfl (take_ofW HT_.out HW_.out qa7) qa55 hHeld qa3 ?_; refine qTk 3 12 impl_sameNow.y6 rfl rfl (take_ofW HT_.out HW_.out qa7) qa55 hHeld qa3 ?_; refine qTk 5 14 impl_sameNow.y7 rfl rfl (take_ofW HT_.out HW_.out qa7) qa55 hHeld qa3 ?_; refine qTk 8 17 impl_sameNow.y8 rfl rfl (take_ofW HT_.out HW_.out qa7) qa55 hHeld qa3 ?_; refine one_ (i := 4) (N := some 13) impl_sameNow.y9 rfl rfl (one_of HT_.out qa7) qa69 (fun K hK => ?_); refine goes_ Try.func68 qa7 rfl #[.agg #[.slice A0_0 l0_0.length c0_0, .int .i64 a0_1], .int .i64 x6_1, .int .i64 a0_1] (by rfl) rfl rfl qa0 ?_; (with_reducible refine (impl_Store_readAt.calls _ _ l0_0 a0_1 x6_1 a0_1 t103 _ ?side1 ?side2 A6.out).mono ?_); (case side1 => exact qa11); (case side2 => exact HC0_0.out); rintro e w10 ⟨rfl, hb⟩; have hx_ := qHX HB hb qa1; refine ⟨_, rfl, ?_⟩; replace BK101 := qO (qB BK101.out hx_ hb); replace BK102 := qO (qB BK102.out hx_ hb); replace HB := qO (below_step (below_step HB.out hx_) hb); clear hx_; (try clear hb); (try clear hb2); (try clear hk); (try clear hi); refine hK.out _ _ ⟨qc0 BK101.out, qc1 BK101.out, qc0 BK102.out, qc1 BK102.out⟩ (fun hHeld => ?_); clear hK K; refine norm_ (a' := ?_) ?_ ?_; rotate_left
     ·exact qa20
     refine one_ (i := 9) (N := some 18) impl_sameNow.y10 rfl rfl (one_of HT_.out qa7) qa69 (fun K hK => ?_); refine goes_ Try.func68 qa7 rfl #[.agg #[.slice A1_0 l1_0.length c1_0, .int .i64 a1_1], .int .i64 x6_1, .int .i64 a1_1] (by rfl) rfl rfl qa0 ?_; (with_reducible refine (impl_Store_readAt.calls _ _ l1_0 a1_1 x6_1 a1_1 t104 _ ?side1 ?side2 A7.out).mono ?_); (case side1 => exact qa115); (case side2 => exact HC1_0.out); rintro e w11 ⟨rfl, hb⟩; have hx_ := qHX HB hb qa1; refine ⟨_, rfl, ?_⟩; replace BK101 := qO (qB BK101.out hx_ hb); replace BK102 := qO (qB BK102.out hx_ hb); replace HB := qO (below_step (below_step HB.out hx_) hb); clear hx_; (try clear hb); (try clear hb2); (try clear hk); (try clear hi); refine hK.out _ _ ⟨qc0 BK101.out, qc1 BK101.out, qc0 BK102.out, qc1 BK102.out⟩ (fun hHeld => ?_); clear hK K; refine norm_ (a' := ?_) ?_ ?_; rotate_left
     ·exact qa20
     refine qPu 10 19 impl_sameNow.y11 rfl rfl (any_of HT_.out qa7) qa10 qa3 ?_; refine done_ (done_of HT_.out qa7) ?_
     try go_wp2
     go_roundg k1
     case measure => have := HK1.out; omega
     case rel => exact ⟨(wrap64 (x6_1 + 1)), qa18, H', ⟨qa164⟩, ⟨qa4⟩, ⟨qa26⟩, ⟨qa19⟩⟩
    ·rw [if_neg c8] at H
     have c8b0 : (t103 == t104) = false := beq_eq_false_iff_ne.mpr c8; have c8b1 : (t103 != t104) = true := bne_iff_ne.mpr c8; obtain rfl := Option.some.inj H
     try go_wp2
     replace BK101 := qO (qkD BK101.out); replace BK102 := qO (qkD BK102.out); replace HB := qO (qbD HB.out); refine start_ (n := 11) (S := fun w' => w'.cell? ⟨gb101, 0, none⟩ = some (.slice A0_0 l0_0.length c0_0) ∧ w'.cell? ⟨gb101, 1, none⟩ = some (.int .i64 a0_1) ∧ w'.cell? ⟨gb102, 0, none⟩ = some (.slice A1_0 l1_0.length c1_0) ∧ w'.cell? ⟨gb102, 1, none⟩ = some (.int .i64 a1_1)) (ds := []) impl_sameNow.y0 qa7 rfl rfl ⟨qc0 BK101.out, qc1 BK101.out, qc0 BK102.out, qc1 BK102.out⟩ (fun hHeld => ?_); refine with_tabW impl_sameNow.tab4 impl_sameNow.bits4 (fun HT_ HW_ => ?_); generalize wr.drew = w12 at BK101 BK102 HB hHeld ⊢; refine qPu 1 10 impl_sameNow.y1 rfl rfl (any_of HT_.out qa7) qa10 qa3 ?_; refine qPu 2 11 impl_sameNow.y2 rfl rfl (any_of HT_.out qa7) qa10 qa3 ?_; refine qPu 6 15 impl_sameNow.y3 rfl rfl (any_of HT_.out qa7) qa10 qa3 ?_; refine qPu 7 16 impl_sameNow.y4 rfl rfl (any_of HT_.out qa7) qa10 qa3 ?_; refine qTk 0 9 impl_sameNow.y5 rfl rfl (take_ofW HT_.out HW_.out qa7) qa55 hHeld qa3 ?_; refine qTk 3 12 impl_sameNow.y6 rfl rfl (take_ofW HT_.out HW_.out qa7) qa55 hHeld qa3 ?_; refine qTk 5 14 impl_sameNow.y7 rfl rfl (take_ofW HT_.out HW_.out qa7) qa55 hHeld qa3 ?_; refine qTk 8 17 impl_sameNow.y8 rfl rfl (take_ofW HT_.out HW_.out qa7) qa55 hHeld qa3 ?_; refine one_ (i := 4) (N := some 13) impl_sameNow.y9 rfl rfl (one_of HT_.out qa7) qa69 (fun K hK => ?_); refine goes_ Try.func68 qa7 rfl #[.agg #[.slice A0_0 l0_0.length c0_0, .int .i64 a0_1], .int .i64 x6_1, .int .i64 a0_1] (by rfl) rfl rfl qa0 ?_; (with_reducible refine (impl_Store_readAt.calls _ _ l0_0 a0_1 x6_1 a0_1 t103 _ ?side1 ?side2 A6.out).mono ?_); (case side1 => exact qa11); (case side2 => exact HC0_0.out); rintro e w13 ⟨rfl, hb⟩; have hx_ := qHX HB hb qa1; refine ⟨_, rfl, ?_⟩; replace BK101 := qO (qB BK101.out hx_ hb); replace BK102 := qO (qB BK102.out hx_ hb); replace HB := qO (below_step (below_step HB.out hx_) hb); clear hx_; (try clear hb); (try clear hb2); (try clear hk); (try clear hi); refine hK.out _ _ ⟨qc0 BK101.out, qc1 BK101.out, qc0 BK102.out, qc1 BK102.out⟩ (fun hHeld => ?_); clear hK K; refine norm_ (a' := ?_) ?_ ?_; rotate_left
     ·exact qa20
     refine one_ (i := 9) (N := some 18) impl_sameNow.y10 rfl rfl (one_of HT_.out qa7) qa69 (fun K hK => ?_); refine goes_ Try.func68 qa7 rfl #[.agg #[.slice A1_0 l1_0.length c1_0, .int .i64 a1_1], .int .i64 x6_1, .int .i64 a1_1] (by rfl) rfl rfl qa0 ?_; (with_reducible refine (impl_Store_readAt.calls _ _ l1_0 a1_1 x6_1 a1_1 t104 _ ?side1 ?side2 A7.out).mono ?_); (case side1 => exact qa115); (case side2 => exact HC1_0.out); rintro e w14 ⟨rfl, hb⟩; have hx_ := qHX HB hb qa1; refine ⟨_, rfl, ?_⟩; replace BK101 := qO (qB BK101.out hx_ hb); replace BK102 := qO (qB BK102.out hx_ hb); replace HB := qO (below_step (below_step HB.out hx_) hb); clear hx_; (try clear hb); (try clear hb2); (try clear hk); (try clear hi); refine hK.out _ _ ⟨qc0 BK101.out, qc1 BK101.out, qc0 BK102.out, qc1 BK102.out⟩ (fun hHeld => ?_); clear hK K; refine norm_ (a' := ?_) ?_ ?_; rotate_left
     ·exact qa20
     refine qPu 10 19 impl_sameNow.y11 rfl rfl (any_of HT_.out qa7) qa10 qa3 ?_; refine done_ (done_of HT_.out qa7) ?_
     try go_wp2
     go_ret
     exact ⟨qa9, qa19⟩
   ·rw [if_neg c5] at H
    have c5b0 : decide (x6_1 < 16) = false := decide_eq_false c5; clear c5; obtain rfl := Option.some.inj H; go_wp2
    go_ret
    exact ⟨qa9, qa19⟩


def impl_SameAt.f (k : Nat) (l0_0 : List (List (S43))) (a0_1 : Int) (l1_0 : List (List (S43))) (a1_1 : Int) : Option (Bool × Int) := (impl_StoreOK.f k l0_0 a0_1).bind fun t103 => (if t103 = true then ((impl_StoreOK.f k l1_0 a1_1).bind fun t104 => (if t104 = true then ((impl_sameNow.f k l0_0 a0_1 l1_0 a1_1).bind fun t105 => (some (t105, 0))) else (some (false, 1)))) else (some (false, 1)))
set_option maxHeartbeats 8000000 in
set_option maxRecDepth 100000 in
theorem impl_SameAt.calls (k : Nat) (A0_0 : Option Addr) (c0_0 : Nat) (l0_0 : List (List (S43))) (a0_1 : Int) (A1_0 : Option Addr) (c1_0 : Nat) (l1_0 : List (List (S43))) (a1_1 : Int) (r1 : Bool) (r2 : Int) (w : World) (hr0_0 : Kd.C (Kd.slice 43 k43) w A0_0 l0_0.length l0_0) (hc0_0 : l0_0.length ≤ c0_0) (hr1_0 : Kd.C (Kd.slice 43 k43) w A1_0 l1_0.length l1_0) (hc1_0 : l1_0.length ≤ c1_0) (h : impl_SameAt.f k l0_0 a0_1 l1_0 a1_1 = some (r1, r2)) :
  Calls Try.prog 24 #[.agg #[.slice A0_0 l0_0.length c0_0, .int .i64 a0_1], .agg #[.slice A1_0 l1_0.length c1_0, .int .i64 a1_1]] w fun e w' => e = .returned (.tuple #[.bool r1, .int .i64 r2]) ∧ Below w.heap.size w w' := by
 have hu28 := Try.underlying28; have HR0_0 := qO hr0_0; have HC0_0 := qO hc0_0; clear hr0_0 hc0_0; have HR1_0 := qO hr1_0; have HC1_0 := qO hc1_0; clear hr1_0 hc1_0; have HB := qO (Below.refl w.heap.size w); have H : ((impl_StoreOK.f k l0_0 a0_1).bind fun t103 => (if t103 = true then ((impl_StoreOK.f k l1_0 a1_1).bind fun t104 => (if t104 = true then ((impl_sameNow.f k l0_0 a0_1 l1_0 a1_1).bind fun t105 => (some (t105, 0))) else (some (false, 1)))) else (some (false, 1)))) = some (r1, r2) := h; clear h; replace H := Option.bind_eq_some_iff.mp H; obtain ⟨t103, A30, H⟩ := H; replace H : (if t103 = true then ((impl_StoreOK.f k l1_0 a1_1).bind fun t104 => (if t104 = true then ((impl_sameNow.f k l0_0 a0_1 l1_0 a1_1).bind fun t105 => (some (t105, 0))) else (some (false, 1)))) else (some (false, 1))) = some (r1, r2) := H; have A3 := qO A30; clear A30
 by_cases c4 : t103 = true
 ·subst c4
  have H1 : ((impl_StoreOK.f k l1_0 a1_1).bind fun t104 => (if t104 = true then ((impl_sameNow.f k l0_0 a0_1 l1_0 a1_1).bind fun t105 => (some (t105, 0))) else (some (false, 1)))) = some (r1, r2) := by rw [if_pos rfl] at H; exact H
  clear H; have H := H1; clear H1; replace H := Option.bind_eq_some_iff.mp H; obtain ⟨t104, A50, H⟩ := H; replace H : (if t104 = true then ((impl_sameNow.f k l0_0 a0_1 l1_0 a1_1).bind fun t105 => (some (t105, 0))) else (some (false, 1))) = some (r1, r2) := H; have A5 := qO A50; clear A50
  by_cases c6 : t104 = true
  ·subst c6
   have H1 : ((impl_sameNow.f k l0_0 a0_1 l1_0 a1_1).bind fun t105 => (some (t105, 0))) = some (r1, r2) := by rw [if_pos rfl] at H; exact H
   clear H; have H := H1; clear H1; replace H := Option.bind_eq_some_iff.mp H; obtain ⟨t105, A70, H⟩ := H; replace H : (some (t105, 0)) = some (r1, r2) := H; have A7 := qO A70; clear A70; simp only [Option.some.injEq, Prod.mk.injEq] at H; obtain ⟨rfl, rfl⟩ := H
   go_enter Try.func24, Try.ntmps24
   go_wp2_with (first | ((with_reducible refine gate_dst (N := 2) rfl ?_); refine qX 2 #[.slice A0_0 l0_0.length c0_0, .int .i64 a0_1] 28 ?_; intro gb101 hg w8 hbox hb; have hx_ := qHX HB hb qa1; have BK101 := qO (hbox); have GW101 := qO ((qa17 : w.heap.size ≤ gb101)); have GE101 := GW101; replace HB := qO (below_step (below_step HB.out hx_) hb); clear hx_ hb hbox hg) | ((with_reducible refine gate_dst (N := 3) rfl ?_); refine qX 3 #[.slice A1_0 l1_0.length c1_0, .int .i64 a1_1] 28 ?_; intro gb102 hg w9 hbox hb; have hx_ := qHX HB hb qa1; have BK102 := qO (hbox); have GW102 := qO ((qa17 : w.heap.size ≤ gb102)); have GE102 := GW102; have NB101_102 := qO ((qa8 : gb101 ≠ gb102)); have NB102_101 := qO (Ne.symm NB101_102.out); replace BK101 := qO (qB BK101.out hx_ hb); replace HB := qO (below_step (below_step HB.out hx_) hb); clear hx_ hb hbox hg; have hnb10 := NB101_102.out; have hnc10 := NB102_101.out; obtain ⟨hcz11_0, hcz11_1, hfz11_0, hfz11_1⟩ := qb2 BK101.out) | ((with_reducible refine gate_callee (f := 22) rfl ?_); refine goesL_ (some 7) rfl rfl Try.func22 qa7 rfl #[.agg #[.slice A0_0 l0_0.length c0_0, .int .i64 a0_1]] rfl qa0 ?_; (with_reducible refine (impl_StoreOK.calls k _ _ l0_0 a0_1 true _ ?side1 ?side2 A3.out).mono ?_); (case side1 => exact qa11); (case side2 => exact HC0_0.out); rintro e w12 ⟨rfl, hb⟩; have hx_ := qHX HB hb qa1; refine ⟨_, rfl, ?_⟩; replace BK101 := qO (qB BK101.out hx_ hb); replace BK102 := qO (qB BK102.out hx_ hb); replace HB := qO (below_step (below_step HB.out hx_) hb); clear hx_; (try clear hb); (try clear hb2); (try clear hk); (try clear hi); obtain ⟨hcz13_0, hcz13_1, hfz13_0, hfz13_1⟩ := qb2 BK102.out) | (go_at_call 22; (with_reducible refine (impl_StoreOK.calls k _ _ l1_0 a1_1 true _ ?side1 ?side2 A5.out).mono ?_); (case side1 => exact qa115); (case side2 => exact HC1_0.out); rintro e w14 ⟨rfl, hb⟩; have hx_ := qHX HB hb qa1; replace BK101 := qO (qB BK101.out hx_ hb); replace BK102 := qO (qB BK102.out hx_ hb); replace HB := qO (below_step (below_step HB.out hx_) hb); clear hx_; (try clear hb); (try clear hb2); (try clear hk); (try clear hi); obtain ⟨hcz15_0, hcz15_1, hfz15_0, hfz15_1⟩ := qb2 BK101.out; obtain ⟨hcz16_0, hcz16_1, hfz16_0, hfz16_1⟩ := qb2 BK102.out) | ((with_reducible refine gate_callee (f := 69) rfl ?_); refine goesL_ (some 16) rfl rfl Try.func69 qa7 rfl #[.agg #[.slice A0_0 l0_0.length c0_0, .int .i64 a0_1], .agg #[.slice A1_0 l1_0.length c1_0, .int .i64 a1_1]] rfl qa0 ?_; (with_reducible refine (impl_sameNow.calls k _ _ l0_0 a0_1 _ _ l1_0 a1_1 t105 _ ?side1 ?side2 ?side3 ?side4 A7.out).mono ?_); (case side1 => exact qa11); (case side2 => exact HC0_0.out); (case side3 => exact qa115); (case side4 => exact HC1_0.out); rintro e w17 ⟨rfl, hb⟩; have hx_ := qHX HB hb qa1; refine ⟨_, rfl, ?_⟩; replace BK101 := qO (qB BK101.out hx_ hb); replace BK102 := qO (qB BK102.out hx_ hb); replace HB := qO (below_step (below_step HB.out hx_) hb); clear hx_; (try clear hb); (try clear hb2); (try clear hk); (try clear hi)))
   go_ret2
   exact ⟨qa9, qa19⟩
  ·replace c6 := Bool.eq_false_iff.mpr c6
   subst c6; have H1 : (some (false, 1)) = some (r1, r2) := by rw [if_neg (show ¬ (false = true) by decide)] at H; exact H
   clear H; have H := H1; clear H1; simp only [Option.some.injEq, Prod.mk.injEq] at H; obtain ⟨rfl, rfl⟩ := H
   go_enter Try.func24, Try.ntmps24
   go_wp2_with (first | ((with_reducible refine gate_dst (N := 2) rfl ?_); refine qX 2 #[.slice A0_0 l0_0.length c0_0, .int .i64 a0_1] 28 ?_; intro gb101 hg w18 hbox hb; have hx_ := qHX HB hb qa1; have BK101 := qO (hbox); have GW101 := qO ((qa17 : w.heap.size ≤ gb101)); have GE101 := GW101; replace HB := qO (below_step (below_step HB.out hx_) hb); clear hx_ hb hbox hg) | ((with_reducible refine gate_dst (N := 3) rfl ?_); refine qX 3 #[.slice A1_0 l1_0.length c1_0, .int .i64 a1_1] 28 ?_; intro gb102 hg w19 hbox hb; have hx_ := qHX HB hb qa1; have BK102 := qO (hbox); have GW102 := qO ((qa17 : w.heap.size ≤ gb102)); have GE102 := GW102; have NB101_102 := qO ((qa8 : gb101 ≠ gb102)); have NB102_101 := qO (Ne.symm NB101_102.out); replace BK101 := qO (qB BK101.out hx_ hb); replace HB := qO (below_step (below_step HB.out hx_) hb); clear hx_ hb hbox hg; have hnb20 := NB101_102.out; have hnc20 := NB102_101.out; obtain ⟨hcz21_0, hcz21_1, hfz21_0, hfz21_1⟩ := qb2 BK101.out) | ((with_reducible refine gate_callee (f := 22) rfl ?_); refine goesL_ (some 7) rfl rfl Try.func22 qa7 rfl #[.agg #[.slice A0_0 l0_0.length c0_0, .int .i64 a0_1]] rfl qa0 ?_; (with_reducible refine (impl_StoreOK.calls k _ _ l0_0 a0_1 true _ ?side1 ?side2 A3.out).mono ?_); (case side1 => exact qa11); (case side2 => exact HC0_0.out); rintro e w22 ⟨rfl, hb⟩; have hx_ := qHX HB hb qa1; refine ⟨_, rfl, ?_⟩; replace BK101 := qO (qB BK101.out hx_ hb); replace BK102 := qO (qB BK102.out hx_ hb); replace HB := qO (below_step (below_step HB.out hx_) hb); clear hx_; (try clear hb); (try clear hb2); (try clear hk); (try clear hi); obtain ⟨hcz23_0, hcz23_1, hfz23_0, hfz23_1⟩ := qb2 BK102.out) | (go_at_call 22; (with_reducible refine (impl_StoreOK.calls k _ _ l1_0 a1_1 false _ ?side1 ?side2 A5.out).mono ?_); (case side1 => exact qa115); (case side2 => exact HC1_0.out); rintro e w24 ⟨rfl, hb⟩; have hx_ := qHX HB hb qa1; replace BK101 := qO (qB BK101.out hx_ hb); replace BK102 := qO (qB BK102.out hx_ hb); replace HB := qO (below_step (below_step HB.out hx_) hb); clear hx_; (try clear hb); (try clear hb2); (try clear hk); (try clear hi)))
   go_ret2
   exact ⟨qa9, qa19⟩
 ·replace c4 := Bool.eq_false_iff.mpr c4
  subst c4; have H1 : (some (false, 1)) = some (r1, r2) := by rw [if_neg (show ¬ (false = true) by decide)] at H; exact H
  clear H; have H := H1; clear H1; simp only [Option.some.injEq, Prod.mk.injEq] at H; obtain ⟨rfl, rfl⟩ := H
  go_enter Try.func24, Try.ntmps24
  go_wp2_with (first | ((with_reducible refine gate_dst (N := 2) rfl ?_); refine qX 2 #[.slice A0_0 l0_0.length c0_0, .int .i64 a0_1] 28 ?_; intro gb101 hg w25 hbox hb; have hx_ := qHX HB hb qa1; have BK101 := qO (hbox); have GW101 := qO ((qa17 : w.heap.size ≤ gb101)); have GE101 := GW101; replace HB := qO (below_step (below_step HB.out hx_) hb); clear hx_ hb hbox hg) | ((with_reducible refine gate_dst (N := 3) rfl ?_); refine qX 3 #[.slice A1_0 l1_0.length c1_0, .int .i64 a1_1] 28 ?_; intro gb102 hg w26 hbox hb; have hx_ := qHX HB hb qa1; have BK102 := qO (hbox); have GW102 := qO ((qa17 : w.heap.size ≤ gb102)); have GE102 := GW102; have NB101_102 := qO ((qa8 : gb101 ≠ gb102)); have NB102_101 := qO (Ne.symm NB101_102.out); replace BK101 := qO (qB BK101.out hx_ hb); replace HB := qO (below_step (below_step HB.out hx_) hb); clear hx_ hb hbox hg; have hnb27 := NB101_102.out; have hnc27 := NB102_101.out; obtain ⟨hcz28_0, hcz28_1, hfz28_0, hfz28_1⟩ := qb2 BK101.out) | ((with_reducible refine gate_callee (f := 22) rfl ?_); refine goesL_ (some 7) rfl rfl Try.func22 qa7 rfl #[.agg #[.slice A0_0 l0_0.length c0_0, .int .i64 a0_1]] rfl qa0 ?_; (with_reducible refine (impl_StoreOK.calls k _ _ l0_0 a0_1 false _ ?side1 ?side2 A3.out).mono ?_); (case side1 => exact qa11); (case side2 => exact HC0_0.out); rintro e w29 ⟨rfl, hb⟩; have hx_ := qHX HB hb qa1; refine ⟨_, rfl, ?_⟩; replace BK101 := qO (qB BK101.out hx_ hb); replace BK102 := qO (qB BK102.out hx_ hb); replace HB := qO (below_step (below_step HB.out hx_) hb); clear hx_; (try clear hb); (try clear hb2); (try clear hk); (try clear hi)))
  go_ret2
  exact ⟨qa9, qa19⟩


def spec_PutsOf.f (k : Nat) (l0 : List Int) : Option ((List (S58))) := (spec_l00Source.f l0).bind fun bt101 => ((spec_l00Src_puts.f k bt101.1 bt101.2.1 bt101.2.2).bind fun bt105 => (some bt105.1))
set_option maxHeartbeats 8000000 in
set_option maxRecDepth 100000 in
theorem spec_PutsOf.calls (k : Nat) (A0 : Option Addr) (c0 : Nat) (l0 : List Int) (r : List (S58)) (w : World) (hr0 : Kd.C (Kd.int .u8) w A0 l0.length l0) (hc0 : l0.length ≤ c0) (h : spec_PutsOf.f k l0 = some r) :
  Calls Try.prog 31 #[.slice A0 l0.length c0] w fun e w' => ∃ v0_ : Value, e = .returned (v0_) ∧ Kd.R k58 58 w' w.heap.size (fun _ => True) v0_ r ∧ Below w.heap.size w w' := by
 have HR0 := Aside0.mk hr0
 have HC0 := Aside0.mk hc0
 clear hr0 hc0
 have HB := Aside0.mk (Below.refl w.heap.size w)
 have H : ((spec_l00Source.f l0).bind fun bt101 => ((spec_l00Src_puts.f k bt101.1 bt101.2.1 bt101.2.2).bind fun bt105 => (some bt105.1))) = some r := h
 clear h
 replace H := Option.bind_eq_some_iff.mp H
 obtain ⟨⟨t101, t102, t103⟩, A20, H⟩ := H
 replace H : ((spec_l00Src_puts.f k t101 t102 t103).bind fun bt105 => (some bt105.1)) = some r := H
 have A2 := Aside0.mk A20
 clear A20
 replace H := Option.bind_eq_some_iff.mp H
 obtain ⟨⟨t105, t108, t109⟩, A30, H⟩ := H
 replace H : (some t105) = some r := H
 have A3 := Aside0.mk A30
 clear A30
 obtain rfl := Option.some.inj H
 go_enter Try.func31, Try.ntmps31
 go_wp2_with (first | ((with_reducible refine gate_callee (f := 62) rfl ?_); refine goesL_ (some 4) rfl rfl Try.func62 (by kernel_rfl) rfl #[.slice A0 l0.length c0] rfl (by (try simp only [List.map_toArray, List.map_cons, List.map_nil]); first | done | rfl | (simp only [List.length_drop, List.length_take]; rfl)) ?_; (with_reducible refine (spec_l00Source.calls _ _ l0 t101 t102 t103 w _ ?side1 ?side2 ?side3 A2.out).mono ?_); (case side1 => repeat (first | (with_reducible first | exact HB.out | apply below_alloc | apply pw_below_drewN | apply below_drew1) | exact HB.out)); (case side2 => exact HR0.out); (case side3 => exact HC0.out); rintro e w4 ⟨g104, rfl, hi, hb, hb2⟩; refine ⟨_, rfl, ?_⟩; have HI104 := Aside0.mk (hi); replace HB := Aside0.mk (hb); (try clear hb); (try clear hb2); (try clear hk); (try clear hi)) | ((with_reducible refine gate_callee (f := 78) rfl ?_); refine goesL_ (some 5) rfl rfl Try.func78 (by kernel_rfl) rfl #[.pointer (some ⟨g104, 0, none⟩)] rfl (by (try simp only [List.map_toArray, List.map_cons, List.map_nil]); first | done | rfl | (simp only [List.length_drop, List.length_take]; rfl)) ?_; (with_reducible refine (spec_l00Src_puts.calls k g104 t101 t102 t103 t105 t108 t109 w _ ?side1 ?side2 A3.out).mono ?_); (case side1 => repeat (first | (with_reducible first | exact HI104.out | apply IsS128.alloc | apply IsS128.drewN | apply IsS128.drew | apply IsS128.set_1 | apply IsS128.set_2) | exact HI104.out)); (case side2 => repeat (first | (with_reducible first | exact HB.out | apply below_alloc | apply pw_below_drewN | apply below_drew1 | refine below_set ?_ (IsS128.ge HI104.out)) | exact HB.out)); rintro e w5 ⟨v106, rfl, ho0, hi, hb, hk⟩; refine ⟨_, rfl, ?_⟩; have HO107 := Aside0.mk (Kd.R_lower ho0 (below_size (by repeat (first | (with_reducible first | exact HB.out | apply below_alloc | apply pw_below_drewN | apply below_drew1 | refine below_set ?_ (IsS128.ge HI104.out)) | exact HB.out)))); replace HB := Aside0.mk (hb); replace HI104 := Aside0.mk (hi); (try clear hb); (try clear hb2); (try clear hk); (try clear hi); (try clear ho0)))
 go_ret
 exact ⟨_, by first | rfl | (simp [errW_none, errW_some] <;> rfl) | (simp [*, errW_none, errW_some] <;> rfl), by (with_reducible repeat (first | apply Kd.R_alloc | apply Kd.R_drewN | apply Kd.R_drew)); exact HO107.out, by repeat (first | (with_reducible first | exact HB.out | apply below_alloc | apply pw_below_drewN | apply below_drew1 | refine below_set ?_ (IsS128.ge HI104.out)) | exact HB.out)⟩


def impl_Store_changedSince.f (l0_0 : List (List (S43))) (a0_1 : Int) (a1 : Int) (a2 : Int) : Option (Bool) := if 0 ≤ a1 then (if a1 < (l0_0.length : Int) then (if ((rd_L4 l0_0 a1).length : Int) > 0 then (if 0 ≤ (wrap64 (((rd_L4 l0_0 a1).length : Int) - 1)) then (if (wrap64 (((rd_L4 l0_0 a1).length : Int) - 1)) < ((rd_L4 l0_0 a1).length : Int) then (some (decide (((rd_T43 (rd_L4 l0_0 a1) (wrap64 (((rd_L4 l0_0 a1).length : Int) - 1))).f0) > a2))) else (none)) else (none)) else (some false)) else (none)) else (none)
set_option maxHeartbeats 8000000 in
set_option maxRecDepth 100000 in
theorem impl_Store_changedSince.calls (A0_0 : Option Addr) (c0_0 : Nat) (l0_0 : List (List (S43))) (a0_1 : Int) (a1 : Int) (a2 : Int) (r : Bool) (w : World) (hr0_0 : Kd.C (Kd.slice 43 k43) w A0_0 l0_0.length l0_0) (hc0_0 : l0_0.length ≤ c0_0) (h : impl_Store_changedSince.f l0_0 a0_1 a1 a2 = some r) :
  Calls Try.prog 79 #[.agg #[.slice A0_0 l0_0.length c0_0, .int .i64 a0_1], .int .i64 a1, .int .i64 a2] w fun e w' => e = .returned (.bool r) ∧ Below w.heap.size w w' := by
 have hu28 := Try.underlying28; have HR0_0 := qO hr0_0; have HC0_0 := qO hc0_0; clear hr0_0 hc0_0; have HB := qO (Below.refl w.heap.size w); have H : (if 0 ≤ a1 then (if a1 < (l0_0.length : Int) then (if ((rd_L4 l0_0 a1).length : Int) > 0 then (if 0 ≤ (wrap64 (((rd_L4 l0_0 a1).length : Int) - 1)) then (if (wrap64 (((rd_L4 l0_0 a1).length : Int) - 1)) < ((rd_L4 l0_0 a1).length : Int) then (some (decide (((rd_T43 (rd_L4 l0_0 a1) (wrap64 (((rd_L4 l0_0 a1).length : Int) - 1))).f0) > a2))) else (none)) else (none)) else (some false)) else (none)) else (none)) = some r := h; clear h
 by_cases c4 : 0 ≤ a1
 ·rw [if_pos c4] at H
  have c4b0 : decide (0 ≤ a1) = true := decide_eq_true c4; clear c4
  by_cases c5 : a1 < (l0_0.length : Int)
  ·rw [if_pos c5] at H
   have c5b0 : decide (a1 < (l0_0.length : Int)) = true := decide_eq_true c5; clear c5
   by_cases c6 : ((rd_L4 l0_0 a1).length : Int) > 0
   ·rw [if_pos c6] at H
    have c6b0 : decide (0 < ((rd_L4 l0_0 a1).length : Int)) = true := decide_eq_true c6; have c6b1 : decide (0 < (rd_L4 l0_0 a1).length) = true := decide_eq_true qa34; clear c6; obtain ⟨ji7, hji7⟩ : ∃ j_ : Int, (wrap64 (((rd_L4 l0_0 a1).length : Int) - 1)) = j_ := ⟨_, rfl⟩; replace H : (if 0 ≤ (ji7) then (if (ji7) < ((rd_L4 l0_0 a1).length : Int) then (some (decide (((rd_T43 (rd_L4 l0_0 a1) (ji7)).f0) > a2))) else (none)) else (none)) = some r := by first | (rw [hji7] at H; exact H) | (simp only [hji7] at H ⊢; exact H)
    have hji7w : (IntKind.i64.wrap (((rd_L4 l0_0 a1).length : Int) - 1)) = ji7 := (i64_w _).trans hji7
    by_cases c8 : 0 ≤ (ji7)
    ·rw [if_pos c8] at H
     have c8b0 : decide (0 ≤ (ji7)) = true := decide_eq_true c8; clear c8
     by_cases c9 : (ji7) < ((rd_L4 l0_0 a1).length : Int)
     ·rw [if_pos c9] at H
      have c9b0 : decide ((ji7) < ((rd_L4 l0_0 a1).length : Int)) = true := decide_eq_true c9; clear c9; obtain rfl := Option.some.inj H
      go_enter Try.func79, Try.ntmps79
      go_wp2_with (first | ((with_reducible refine gate_dst (N := 3) rfl ?_); (try (refine gate_guard (by rfl) ?_; dsimp only)); refine qX 3 #[.slice A0_0 l0_0.length c0_0, .int .i64 a0_1] 28 ?_; intro gb101 hg w10 hbox hb; have hx_ := qHX HB hb qa1; have BK101 := qO (hbox); have GW101 := qO ((qa17 : w.heap.size ≤ gb101)); have GE101 := GW101; replace HB := qO (below_step (below_step HB.out hx_) hb); clear hx_ hb hbox hg; obtain ⟨hcz11_0, hcz11_1, hfz11_0, hfz11_1⟩ := qb2 BK101.out; have p102 : 0 ≤ (a1 : Int) := qT qa2; have q102 : a1 < (l0_0.length : Int) := qT qa2; obtain ⟨ad102, A102_0, c102_0, e102, hx102_0, hl102_0, hi102_0⟩ := at_L4 HR0_0.out a1 p102 q102; cases e102; replace hx102_0 := (HB.out.cell (qL w _ hx102_0)).trans hx102_0; have HR102_0 := qO hi102_0; have HC102_0 := qO hl102_0; clear hi102_0 hl102_0; replace p102 := eq_true p102; replace q102 := eq_true q102; have p103 : 0 ≤ ((ji7) : Int) := qT qa2; have q103 : (ji7) < ((rd_L4 l0_0 a1).length : Int) := qT qa2; obtain ⟨ad103, e103, hx103_0, hx103_1⟩ := at_T43 HR102_0.out (ji7) p103 q103; cases e103; replace hx103_0 := (HB.out.cell (qL w _ hx103_0)).trans hx103_0; replace hx103_1 := (HB.out.cell (qL w _ hx103_1)).trans hx103_1; replace p103 := eq_true p103; replace q103 := eq_true q103))
      go_ret
      exact ⟨qa168, qa5⟩
     ·rw [if_neg c9] at H
      exact absurd H qa120
    ·rw [if_neg c8] at H
     exact absurd H qa120
   ·rw [if_neg c6] at H
    have c6b0 : decide (0 < ((rd_L4 l0_0 a1).length : Int)) = false := decide_eq_false c6; have c6b1 : decide (0 < (rd_L4 l0_0 a1).length) = false := decide_eq_false qa34; clear c6; obtain rfl := Option.some.inj H
    go_enter Try.func79, Try.ntmps79
    go_wp2_with (first | ((with_reducible refine gate_dst (N := 3) rfl ?_); (try (refine gate_guard (by rfl) ?_; dsimp only)); refine qX 3 #[.slice A0_0 l0_0.length c0_0, .int .i64 a0_1] 28 ?_; intro gb101 hg w12 hbox hb; have hx_ := qHX HB hb qa1; have BK101 := qO (hbox); have GW101 := qO ((qa17 : w.heap.size ≤ gb101)); have GE101 := GW101; replace HB := qO (below_step (below_step HB.out hx_) hb); clear hx_ hb hbox hg; obtain ⟨hcz13_0, hcz13_1, hfz13_0, hfz13_1⟩ := qb2 BK101.out; have p102 : 0 ≤ (a1 : Int) := qT qa2; have q102 : a1 < (l0_0.length : Int) := qT qa2; obtain ⟨ad102, A102_0, c102_0, e102, hx102_0, hl102_0, hi102_0⟩ := at_L4 HR0_0.out a1 p102 q102; cases e102; replace hx102_0 := (HB.out.cell (qL w _ hx102_0)).trans hx102_0; have HR102_0 := qO hi102_0; have HC102_0 := qO hl102_0; clear hi102_0 hl102_0; replace p102 := eq_true p102; replace q102 := eq_true q102))
    go_ret
    exact ⟨qa9, qa5⟩
  ·rw [if_neg c5] at H
   exact absurd H qa120
 ·rw [if_neg c4] at H
  exact absurd H qa120


def impl_ChangedSince.f (k : Nat) (l0_0 : List (List (S43))) (a0_1 : Int) (a1 : Int) (a2 : Int) : Option (Bool × Int) := (impl_StoreOK.f k l0_0 a0_1).bind fun t102 => (if t102 = true then ((impl_isKey.f a1).bind fun t103 => (if t103 = true then ((impl_Store_isHour.f l0_0 a0_1 a2).bind fun t104 => (if t104 = true then ((impl_Store_changedSince.f l0_0 a0_1 a1 a2).bind fun t105 => (some (t105, 0))) else (some (false, 4)))) else (some (false, 4)))) else (some (false, 1)))
set_option maxHeartbeats 8000000 in
set_option maxRecDepth 100000 in
theorem impl_ChangedSince.calls (k : Nat) (A0_0 : Option Addr) (c0_0 : Nat) (l0_0 : List (List (S43))) (a0_1 : Int) (a1 : Int) (a2 : Int) (r1 : Bool) (r2 : Int) (w : World) (hr0_0 : Kd.C (Kd.slice 43 k43) w A0_0 l0_0.length l0_0) (hc0_0 : l0_0.length ≤ c0_0) (h : impl_ChangedSince.f k l0_0 a0_1 a1 a2 = some (r1, r2)) :
  Calls Try.prog 32 #[.agg #[.slice A0_0 l0_0.length c0_0, .int .i64 a0_1], .int .i64 a1, .int .i64 a2] w fun e w' => e = .returned (.tuple #[.bool r1, .int .i64 r2]) ∧ Below w.heap.size w w' := by
 have hu28 := Try.underlying28; have HR0_0 := qO hr0_0; have HC0_0 := qO hc0_0; clear hr0_0 hc0_0; have HB := qO (Below.refl w.heap.size w); have H : ((impl_StoreOK.f k l0_0 a0_1).bind fun t102 => (if t102 = true then ((impl_isKey.f a1).bind fun t103 => (if t103 = true then ((impl_Store_isHour.f l0_0 a0_1 a2).bind fun t104 => (if t104 = true then ((impl_Store_changedSince.f l0_0 a0_1 a1 a2).bind fun t105 => (some (t105, 0))) else (some (false, 4)))) else (some (false, 4)))) else (some (false, 1)))) = some (r1, r2) := h; clear h; replace H := Option.bind_eq_some_iff.mp H; obtain ⟨t102, A40, H⟩ := H; replace H : (if t102 = true then ((impl_isKey.f a1).bind fun t103 => (if t103 = true then ((impl_Store_isHour.f l0_0 a0_1 a2).bind fun t104 => (if t104 = true then ((impl_Store_changedSince.f l0_0 a0_1 a1 a2).bind fun t105 => (some (t105, 0))) else (some (false, 4)))) else (some (false, 4)))) else (some (false, 1))) = some (r1, r2) := H; have A4 := qO A40; clear A40
 by_cases c5 : t102 = true
 ·subst c5
  have H1 : ((impl_isKey.f a1).bind fun t103 => (if t103 = true then ((impl_Store_isHour.f l0_0 a0_1 a2).bind fun t104 => (if t104 = true then ((impl_Store_changedSince.f l0_0 a0_1 a1 a2).bind fun t105 => (some (t105, 0))) else (some (false, 4)))) else (some (false, 4)))) = some (r1, r2) := by rw [if_pos rfl] at H; exact H
  clear H; have H := H1; clear H1; replace H := Option.bind_eq_some_iff.mp H; obtain ⟨t103, A60, H⟩ := H; replace H : (if t103 = true then ((impl_Store_isHour.f l0_0 a0_1 a2).bind fun t104 => (if t104 = true then ((impl_Store_changedSince.f l0_0 a0_1 a1 a2).bind fun t105 => (some (t105, 0))) else (some (false, 4)))) else (some (false, 4))) = some (r1, r2) := H; have A6 := qO A60; clear A60
  by_cases c7 : t103 = true
  ·subst c7
   have H1 : ((impl_Store_isHour.f l0_0 a0_1 a2).bind fun t104 => (if t104 = true then ((impl_Store_changedSince.f l0_0 a0_1 a1 a2).bind fun t105 => (some (t105, 0))) else (some (false, 4)))) = some (r1, r2) := by rw [if_pos rfl] at H; exact H
   clear H; have H := H1; clear H1; replace H := Option.bind_eq_some_iff.mp H; obtain ⟨t104, A80, H⟩ := H; replace H : (if t104 = true then ((impl_Store_changedSince.f l0_0 a0_1 a1 a2).bind fun t105 => (some (t105, 0))) else (some (false, 4))) = some (r1, r2) := H; have A8 := qO A80; clear A80
   by_cases c9 : t104 = true
   ·subst c9
    have H1 : ((impl_Store_changedSince.f l0_0 a0_1 a1 a2).bind fun t105 => (some (t105, 0))) = some (r1, r2) := by rw [if_pos rfl] at H; exact H
    clear H; have H := H1; clear H1; replace H := Option.bind_eq_some_iff.mp H; obtain ⟨t105, A100, H⟩ := H; replace H : (some (t105, 0)) = some (r1, r2) := H; have A10 := qO A100; clear A100; simp only [Option.some.injEq, Prod.mk.injEq] at H; obtain ⟨rfl, rfl⟩ := H
    go_enter Try.func32, Try.ntmps32
    go_wp2_with (first | ((with_reducible refine gate_dst (N := 3) rfl ?_); refine qX 3 #[.slice A0_0 l0_0.length c0_0, .int .i64 a0_1] 28 ?_; intro gb101 hg w11 hbox hb; have hx_ := qHX HB hb qa1; have BK101 := qO (hbox); have GW101 := qO ((qa17 : w.heap.size ≤ gb101)); have GE101 := GW101; replace HB := qO (below_step (below_step HB.out hx_) hb); clear hx_ hb hbox hg; obtain ⟨hcz12_0, hcz12_1, hfz12_0, hfz12_1⟩ := qb2 BK101.out) | ((with_reducible refine gate_callee (f := 22) rfl ?_); refine goesL_ (some 10) rfl rfl Try.func22 qa7 rfl #[.agg #[.slice A0_0 l0_0.length c0_0, .int .i64 a0_1]] rfl qa0 ?_; (with_reducible refine (impl_StoreOK.calls k _ _ l0_0 a0_1 true _ ?side1 ?side2 A4.out).mono ?_); (case side1 => exact qa11); (case side2 => exact HC0_0.out); rintro e w13 ⟨rfl, hb⟩; have hx_ := qHX HB hb qa1; refine ⟨_, rfl, ?_⟩; replace BK101 := qO (qB BK101.out hx_ hb); replace HB := qO (below_step (below_step HB.out hx_) hb); clear hx_; (try clear hb); (try clear hb2); (try clear hk); (try clear hi)) | ((with_reducible refine gate_callee (f := 67) rfl ?_); refine goesL_ (some 14) rfl rfl Try.func67 qa7 rfl #[.int .i64 a1] rfl qa0 ?_; (with_reducible refine (impl_isKey.calls a1 true _ A6.out).mono ?_); rintro e w' ⟨rfl, ⟨nd, rfl⟩⟩; refine ⟨_, rfl, ?_⟩; obtain ⟨hcz14_0, hcz14_1, hfz14_0, hfz14_1⟩ := qb2 BK101.out) | (go_at_call 57; (with_reducible refine (impl_Store_isHour.calls _ _ l0_0 a0_1 a2 true _ ?side1 ?side2 A8.out).mono ?_); (case side1 => exact qa89); (case side2 => exact HC0_0.out); rintro e w15 ⟨rfl, hb⟩; have hx_ := qHX HB hb qa1; replace BK101 := qO (qB BK101.out hx_ hb); replace HB := qO (below_step (below_step HB.out hx_) hb); clear hx_; (try clear hb); (try clear hb2); (try clear hk); (try clear hi); obtain ⟨hcz16_0, hcz16_1, hfz16_0, hfz16_1⟩ := qb2 BK101.out) | ((with_reducible refine gate_callee (f := 79) rfl ?_); refine goesL_ (some 25) rfl rfl Try.func79 qa7 rfl #[.agg #[.slice A0_0 l0_0.length c0_0, .int .i64 a0_1], .int .i64 a1, .int .i64 a2] rfl qa0 ?_; (with_reducible refine (impl_Store_changedSince.calls _ _ l0_0 a0_1 a1 a2 t105 _ ?side1 ?side2 A10.out).mono ?_); (case side1 => exact qa11); (case side2 => exact HC0_0.out); rintro e w17 ⟨rfl, hb⟩; have hx_ := qHX HB hb qa1; refine ⟨_, rfl, ?_⟩; replace BK101 := qO (qB BK101.out hx_ hb); replace HB := qO (below_step (below_step HB.out hx_) hb); clear hx_; (try clear hb); (try clear hb2); (try clear hk); (try clear hi)))
    go_ret2
    exact ⟨qa9, qa5⟩
   ·replace c9 := Bool.eq_false_iff.mpr c9
    subst c9; have H1 : (some (false, 4)) = some (r1, r2) := by rw [if_neg (show ¬ (false = true) by decide)] at H; exact H
    clear H; have H := H1; clear H1; simp only [Option.some.injEq, Prod.mk.injEq] at H; obtain ⟨rfl, rfl⟩ := H
    go_enter Try.func32, Try.ntmps32
    go_wp2_with (first | ((with_reducible refine gate_dst (N := 3) rfl ?_); refine qX 3 #[.slice A0_0 l0_0.length c0_0, .int .i64 a0_1] 28 ?_; intro gb101 hg w18 hbox hb; have hx_ := qHX HB hb qa1; have BK101 := qO (hbox); have GW101 := qO ((qa17 : w.heap.size ≤ gb101)); have GE101 := GW101; replace HB := qO (below_step (below_step HB.out hx_) hb); clear hx_ hb hbox hg; obtain ⟨hcz19_0, hcz19_1, hfz19_0, hfz19_1⟩ := qb2 BK101.out) | ((with_reducible refine gate_callee (f := 22) rfl ?_); refine goesL_ (some 10) rfl rfl Try.func22 qa7 rfl #[.agg #[.slice A0_0 l0_0.length c0_0, .int .i64 a0_1]] rfl qa0 ?_; (with_reducible refine (impl_StoreOK.calls k _ _ l0_0 a0_1 true _ ?side1 ?side2 A4.out).mono ?_); (case side1 => exact qa11); (case side2 => exact HC0_0.out); rintro e w20 ⟨rfl, hb⟩; have hx_ := qHX HB hb qa1; refine ⟨_, rfl, ?_⟩; replace BK101 := qO (qB BK101.out hx_ hb); replace HB := qO (below_step (below_step HB.out hx_) hb); clear hx_; (try clear hb); (try clear hb2); (try clear hk); (try clear hi)) | ((with_reducible refine gate_callee (f := 67) rfl ?_); refine goesL_ (some 14) rfl rfl Try.func67 qa7 rfl #[.int .i64 a1] rfl qa0 ?_; (with_reducible refine (impl_isKey.calls a1 true _ A6.out).mono ?_); rintro e w' ⟨rfl, ⟨nd, rfl⟩⟩; refine ⟨_, rfl, ?_⟩; obtain ⟨hcz21_0, hcz21_1, hfz21_0, hfz21_1⟩ := qb2 BK101.out) | (go_at_call 57; (with_reducible refine (impl_Store_isHour.calls _ _ l0_0 a0_1 a2 false _ ?side1 ?side2 A8.out).mono ?_); (case side1 => exact qa89); (case side2 => exact HC0_0.out); rintro e w22 ⟨rfl, hb⟩; have hx_ := qHX HB hb qa1; replace BK101 := qO (qB BK101.out hx_ hb); replace HB := qO (below_step (below_step HB.out hx_) hb); clear hx_; (try clear hb); (try clear hb2); (try clear hk); (try clear hi)))
    go_ret2
    exact ⟨qa9, qa5⟩
  ·replace c7 := Bool.eq_false_iff.mpr c7
   subst c7; have H1 : (some (false, 4)) = some (r1, r2) := by rw [if_neg (show ¬ (false = true) by decide)] at H; exact H
   clear H; have H := H1; clear H1; simp only [Option.some.injEq, Prod.mk.injEq] at H; obtain ⟨rfl, rfl⟩ := H
   go_enter Try.func32, Try.ntmps32
   go_wp2_with (first | ((with_reducible refine gate_dst (N := 3) rfl ?_); refine qX 3 #[.slice A0_0 l0_0.length c0_0, .int .i64 a0_1] 28 ?_; intro gb101 hg w23 hbox hb; have hx_ := qHX HB hb qa1; have BK101 := qO (hbox); have GW101 := qO ((qa17 : w.heap.size ≤ gb101)); have GE101 := GW101; replace HB := qO (below_step (below_step HB.out hx_) hb); clear hx_ hb hbox hg; obtain ⟨hcz24_0, hcz24_1, hfz24_0, hfz24_1⟩ := qb2 BK101.out) | ((with_reducible refine gate_callee (f := 22) rfl ?_); refine goesL_ (some 10) rfl rfl Try.func22 qa7 rfl #[.agg #[.slice A0_0 l0_0.length c0_0, .int .i64 a0_1]] rfl qa0 ?_; (with_reducible refine (impl_StoreOK.calls k _ _ l0_0 a0_1 true _ ?side1 ?side2 A4.out).mono ?_); (case side1 => exact qa11); (case side2 => exact HC0_0.out); rintro e w25 ⟨rfl, hb⟩; have hx_ := qHX HB hb qa1; refine ⟨_, rfl, ?_⟩; replace BK101 := qO (qB BK101.out hx_ hb); replace HB := qO (below_step (below_step HB.out hx_) hb); clear hx_; (try clear hb); (try clear hb2); (try clear hk); (try clear hi)) | ((with_reducible refine gate_callee (f := 67) rfl ?_); refine goesL_ (some 14) rfl rfl Try.func67 qa7 rfl #[.int .i64 a1] rfl qa0 ?_; (with_reducible refine (impl_isKey.calls a1 false _ A6.out).mono ?_); rintro e w' ⟨rfl, ⟨nd, rfl⟩⟩; refine ⟨_, rfl, ?_⟩))
   go_ret2
   exact ⟨qa9, qa5⟩
 ·replace c5 := Bool.eq_false_iff.mpr c5
  subst c5; have H1 : (some (false, 1)) = some (r1, r2) := by rw [if_neg (show ¬ (false = true) by decide)] at H; exact H
  clear H; have H := H1; clear H1; simp only [Option.some.injEq, Prod.mk.injEq] at H; obtain ⟨rfl, rfl⟩ := H
  go_enter Try.func32, Try.ntmps32
  go_wp2_with (first | ((with_reducible refine gate_dst (N := 3) rfl ?_); refine qX 3 #[.slice A0_0 l0_0.length c0_0, .int .i64 a0_1] 28 ?_; intro gb101 hg w26 hbox hb; have hx_ := qHX HB hb qa1; have BK101 := qO (hbox); have GW101 := qO ((qa17 : w.heap.size ≤ gb101)); have GE101 := GW101; replace HB := qO (below_step (below_step HB.out hx_) hb); clear hx_ hb hbox hg; obtain ⟨hcz27_0, hcz27_1, hfz27_0, hfz27_1⟩ := qb2 BK101.out) | ((with_reducible refine gate_callee (f := 22) rfl ?_); refine goesL_ (some 10) rfl rfl Try.func22 qa7 rfl #[.agg #[.slice A0_0 l0_0.length c0_0, .int .i64 a0_1]] rfl qa0 ?_; (with_reducible refine (impl_StoreOK.calls k _ _ l0_0 a0_1 false _ ?side1 ?side2 A4.out).mono ?_); (case side1 => exact qa11); (case side2 => exact HC0_0.out); rintro e w28 ⟨rfl, hb⟩; have hx_ := qHX HB hb qa1; refine ⟨_, rfl, ?_⟩; replace BK101 := qO (qB BK101.out hx_ hb); replace HB := qO (below_step (below_step HB.out hx_) hb); clear hx_; (try clear hb); (try clear hb2); (try clear hk); (try clear hi)))
  go_ret2
  exact ⟨qa9, qa5⟩


def impl_KeysSince.l0 : Nat → Int → List Int → Int → List (List (S43)) → Int → Option (List Int × Int)
 | 0, _, _, _, _, _ => none
 | k + 1, x1, x6, x18, x102000, x102001 => if x18 < 16 then ((impl_Store_changedSince.f x102000 x102001 x18 x1).bind fun t107 => (if t107 = true then (if x6.length < 17592186044416 then (impl_KeysSince.l0 k x1 (x6 ++ [x18]) (wrap64 (x18 + 1)) x102000 x102001) else (none)) else (impl_KeysSince.l0 k x1 x6 (wrap64 (x18 + 1)) x102000 x102001))) else (some (x6, 0))
def impl_KeysSince.f (k : Nat) (l0_0 : List (List (S43))) (a0_1 : Int) (a1 : Int) : Option (List Int × Int) := (impl_StoreOK.f k l0_0 a0_1).bind fun t102 => (if t102 = true then ((impl_Store_isHour.f l0_0 a0_1 a1).bind fun t103 => (if t103 = true then (impl_KeysSince.l0 k a1 (([] : List Int)) 0 l0_0 a0_1) else (some (([] : List Int), 4)))) else (some (([] : List Int), 1)))
set_option maxHeartbeats 8000000 in
set_option maxRecDepth 100000 in
theorem impl_KeysSince.calls (k : Nat) (A0_0 : Option Addr) (c0_0 : Nat) (l0_0 : List (List (S43))) (a0_1 : Int) (a1 : Int) (r1 : List Int) (r2 : Int) (w : World) (hr0_0 : Kd.C (Kd.slice 43 k43) w A0_0 l0_0.length l0_0) (hc0_0 : l0_0.length ≤ c0_0) (h : impl_KeysSince.f k l0_0 a0_1 a1 = some (r1, r2)) :
  Calls Try.prog 33 #[.agg #[.slice A0_0 l0_0.length c0_0, .int .i64 a0_1], .int .i64 a1] w fun e w' => ∃ v0_ : Value, e = .returned (.tuple #[v0_, .int .i64 r2]) ∧ Kd.R (Kd.int .i64) 3 w' w.heap.size (fun _ => True) v0_ r1 ∧ Below w.heap.size w w' := by
 have hu28 := Try.underlying28; have HR0_0 := qO hr0_0; have HC0_0 := qO hc0_0; clear hr0_0 hc0_0; have HB := qO (Below.refl w.heap.size w); have H : ((impl_StoreOK.f k l0_0 a0_1).bind fun t102 => (if t102 = true then ((impl_Store_isHour.f l0_0 a0_1 a1).bind fun t103 => (if t103 = true then (impl_KeysSince.l0 k a1 (([] : List Int)) 0 l0_0 a0_1) else (some (([] : List Int), 4)))) else (some (([] : List Int), 1)))) = some (r1, r2) := h; clear h; replace H := Option.bind_eq_some_iff.mp H; obtain ⟨t102, A30, H⟩ := H; replace H : (if t102 = true then ((impl_Store_isHour.f l0_0 a0_1 a1).bind fun t103 => (if t103 = true then (impl_KeysSince.l0 k a1 (([] : List Int)) 0 l0_0 a0_1) else (some (([] : List Int), 4)))) else (some (([] : List Int), 1))) = some (r1, r2) := H; have A3 := qO A30; clear A30
 by_cases c4 : t102 = true
 ·subst c4
  have H1 : ((impl_Store_isHour.f l0_0 a0_1 a1).bind fun t103 => (if t103 = true then (impl_KeysSince.l0 k a1 (([] : List Int)) 0 l0_0 a0_1) else (some (([] : List Int), 4)))) = some (r1, r2) := by rw [if_pos rfl] at H; exact H
  clear H; have H := H1; clear H1; replace H := Option.bind_eq_some_iff.mp H; obtain ⟨t103, A50, H⟩ := H; replace H : (if t103 = true then (impl_KeysSince.l0 k a1 (([] : List Int)) 0 l0_0 a0_1) else (some (([] : List Int), 4))) = some (r1, r2) := H; have A5 := qO A50; clear A50
  by_cases c6 : t103 = true
  ·subst c6
   have H1 : (impl_KeysSince.l0 k a1 (([] : List Int)) 0 l0_0 a0_1) = some (r1, r2) := by rw [if_pos rfl] at H; exact H
   clear H; have H := H1; clear H1; obtain ⟨y104, hy104⟩ : ∃ y_ : List Int, y_ = (([] : List Int)) := ⟨_, rfl⟩; replace H : (impl_KeysSince.l0 k a1 y104 0 l0_0 a0_1) = some (r1, r2) := by first | (rw [hy104]; with_reducible exact H) | (have H2_ := (Option.bind_some _ _).symm.trans H; rw [hy104]; with_reducible exact H2_) | (have H2_ := (Option.bind_some _ _).symm.trans H; with_reducible exact H2_) | with_reducible exact H | (rw [hy104]; exact H) | exact H
   have Ny104 := qO hy104; clear hy104; have H' := qO H; clear H
   go_enter Try.func33, Try.ntmps33
   go_wp2_with (first | ((with_reducible refine gate_dst (N := 2) rfl ?_); refine qX 2 #[.slice A0_0 l0_0.length c0_0, .int .i64 a0_1] 28 ?_; intro gb101 hg w7 hbox hb; have hx_ := qHX HB hb qa1; have BK101 := qO (hbox); have GW101 := qO ((qa17 : w.heap.size ≤ gb101)); have GE101 := GW101; replace HB := qO (below_step (below_step HB.out hx_) hb); clear hx_ hb hbox hg; obtain ⟨hcz8_0, hcz8_1, hfz8_0, hfz8_1⟩ := qb2 BK101.out) | ((with_reducible refine gate_callee (f := 22) rfl ?_); refine goesL_ (some 10) rfl rfl Try.func22 qa7 rfl #[.agg #[.slice A0_0 l0_0.length c0_0, .int .i64 a0_1]] rfl qa0 ?_; (with_reducible refine (impl_StoreOK.calls k _ _ l0_0 a0_1 true _ ?side1 ?side2 A3.out).mono ?_); (case side1 => exact qa11); (case side2 => exact HC0_0.out); rintro e w9 ⟨rfl, hb⟩; have hx_ := qHX HB hb qa1; refine ⟨_, rfl, ?_⟩; replace BK101 := qO (qB BK101.out hx_ hb); replace HB := qO (below_step (below_step HB.out hx_) hb); clear hx_; (try clear hb); (try clear hb2); (try clear hk); (try clear hi); obtain ⟨hcz10_0, hcz10_1, hfz10_0, hfz10_1⟩ := qb2 BK101.out) | ((with_reducible refine gate_callee (f := 57) rfl ?_); refine goesL_ (some 15) rfl rfl Try.func57 qa7 rfl #[.agg #[.slice A0_0 l0_0.length c0_0, .int .i64 a0_1], .int .i64 a1] rfl qa0 ?_; (with_reducible refine (impl_Store_isHour.calls _ _ l0_0 a0_1 a1 true _ ?side1 ?side2 A5.out).mono ?_); (case side1 => exact qa11); (case side2 => exact HC0_0.out); rintro e w11 ⟨rfl, hb⟩; have hx_ := qHX HB hb qa1; refine ⟨_, rfl, ?_⟩; replace BK101 := qO (qB BK101.out hx_ hb); replace HB := qO (below_step (below_step HB.out hx_) hb); clear hx_; (try clear hb); (try clear hb2); (try clear hk); (try clear hi)) | ((with_reducible refine gate_dst (N := 17) rfl ?_); refine Kd.R_lit (Kd.int .i64) _ 3 ?hg (N := 17) ?hd (xs := ([] : List Int)) (inner := []) (ok := fun _ => True) (okp := fun _ => True) ?hr ?hp (fun _ hk => hk) trivial (Below.refl _ _) (Nat.le_refl _) qa120 ?_; (case hd => rfl); (case hg => rfl); (case hr => exact qa16); (case hp => exact qa207); intro v105 w12 ho13 hb hg_ hnew_; clear hg_ hnew_; (first | rw [← Ny104.out] at ho13 | (simp only [Int.reduceToNat] at ho13; rw [← Ny104.out] at ho13)); have HO106 := qO (Kd.R_lower ho13 (below_size qa5)); replace BK101 := qO (blk_below (g := gb101) (o := .cells #[.slice A0_0 l0_0.length c0_0, .int .i64 a0_1] 28 (0, 0)) qa4 hb); replace HB := qO (below_step qa5 hb); clear hb ho13))
   go_loopg [6, 18] k (fun kq v6 v18 w' => ∃ (x6_1 : List Int) (x18_1 : Int), v18 = .int .i64 x18_1 ∧ Aside0 (impl_KeysSince.l0 kq a1 x6_1 x18_1 l0_0 a0_1 = some (r1, r2)) ∧ Aside0 (kq ≤ k) ∧ Aside0 (Kd.R (Kd.int .i64) 3 w' w.heap.size (fun _ => True) v6 x6_1) ∧ Aside0 (w'.heap[gb101]? = some (.cells #[(.slice A0_0 l0_0.length c0_0), .int .i64 a0_1] 28 (0, 0))) ∧ Aside0 (Below w.heap.size w w'))
   case atStart => exact ⟨(y104), (0), qa18, H', ⟨Nat.le_refl _⟩, ⟨by (with_reducible repeat (first | apply Kd.R_alloc | apply Kd.R_drewN | apply Kd.R_drew)); exact HO106.out⟩, ⟨qa4⟩, ⟨qa5⟩⟩
   case round =>
    clear H'
    try clear c2
    try clear p2
    try clear c3
    try clear c4
    try clear c5
    try clear c6
    try clear hcz10_0
    try clear hcz10_1
    try clear hcz8_0
    try clear hcz8_1
    try clear hfz10_0
    try clear hfz10_1
    try clear hfz8_0
    try clear hfz8_1
    obtain ⟨x6_1, x18_1, rfl, HA, HK1, HO_6, BK101, HB⟩ := hrel
    cases gk with
    | zero => exact absurd HA.out (by simp [impl_KeysSince.l0])
    | succ k1 =>
     have H := HA.out; clear HA; simp only [impl_KeysSince.l0] at H
     by_cases c14 : x18_1 < 16
     ·rw [if_pos c14] at H
      have c14b0 : decide (x18_1 < 16) = true := decide_eq_true c14; clear c14; replace H := Option.bind_eq_some_iff.mp H; obtain ⟨t107, A150, H⟩ := H; replace H : (if t107 = true then (if x6_1.length < 17592186044416 then (impl_KeysSince.l0 k1 a1 (x6_1 ++ [x18_1]) (wrap64 (x18_1 + 1)) l0_0 a0_1) else (none)) else (impl_KeysSince.l0 k1 a1 x6_1 (wrap64 (x18_1 + 1)) l0_0 a0_1)) = some (r1, r2) := H; have A15 := qO A150; clear A150
      by_cases c16 : t107 = true
      ·subst c16
       have H1 : (if x6_1.length < 17592186044416 then (impl_KeysSince.l0 k1 a1 (x6_1 ++ [x18_1]) (wrap64 (x18_1 + 1)) l0_0 a0_1) else (none)) = some (r1, r2) := by rw [if_pos rfl] at H; exact H
       clear H; have H := H1; clear H1
       by_cases c17 : x6_1.length < 17592186044416
       ·rw [if_pos c17] at H
        have LMc17 := qO c17; clear c17; obtain ⟨y108, hy108⟩ : ∃ y_ : List Int, y_ = (x6_1 ++ [x18_1]) := ⟨_, rfl⟩; replace H : (impl_KeysSince.l0 k1 a1 y108 (wrap64 (x18_1 + 1)) l0_0 a0_1) = some (r1, r2) := by first | (rw [hy108]; with_reducible exact H) | (have H2_ := (Option.bind_some _ _).symm.trans H; rw [hy108]; with_reducible exact H2_) | (have H2_ := (Option.bind_some _ _).symm.trans H; with_reducible exact H2_) | with_reducible exact H | (rw [hy108]; exact H) | exact H
        have Ny108 := qO hy108; clear hy108; have H' := qO H; clear H; obtain ⟨hcz18_0, hcz18_1, hfz18_0, hfz18_1⟩ := qb2 BK101.out
        go_wp2_with (first | ((with_reducible refine gate_callee (f := 79) rfl ?_); refine goesL_ (some 24) rfl rfl Try.func79 qa7 rfl #[.agg #[.slice A0_0 l0_0.length c0_0, .int .i64 a0_1], .int .i64 x18_1, .int .i64 a1] rfl qa0 ?_; (with_reducible refine (impl_Store_changedSince.calls _ _ l0_0 a0_1 x18_1 a1 true _ ?side1 ?side2 A15.out).mono ?_); (case side1 => exact qa11); (case side2 => exact HC0_0.out); rintro e w19 ⟨rfl, hb⟩; have hx_ := qHX HB hb qa1; refine ⟨_, rfl, ?_⟩; replace HO_6 := qO (Kd.R_below qa50 hb); replace BK101 := qO (qB BK101.out hx_ hb); replace HB := qO (below_step (below_step HB.out hx_) hb); clear hx_; (try clear hb); (try clear hb2); (try clear hk); (try clear hi)) | ((with_reducible refine gate_builtin (b := .append) (xs := #[.tmp 25, .tmp 27]) rfl ?_); at_builtin; refine Kd.R_append (Kd.int .i64) (w0 := w) w.heap.size rfl (.tmp 25) (.tmp 27) 60 3 (.int .i64 0) 8 rfl Try.underlying60 info3 rfl qa69 qa34 u6 x6_1 x18_1 [.int .i64 x18_1] (fun _ => True) (fun _ => False) rfl rfl ?aP (fun _ hk => hk.elim) ?aF ?aO ?aB ?aS ?aL ?_; (case aP => exact rfl); (case aB => exact qa192); (case aF => exact qa206); (case aO => exact (by (with_reducible repeat (first | apply Kd.R_alloc | apply Kd.R_drewN | apply Kd.R_drew)); exact HO_6.out)); (case aS => exact qa175); (case aL => have := LMc17.out; omega); intro v109 w20 ho hb hg hat; rw [← Ny108.out] at ho; have n0_ := qO (blk_grown (g := gb101) (o := .cells #[.slice A0_0 l0_0.length c0_0, .int .i64 a0_1] 28 (0, 0)) qa4 hg (Kd.R_ne HO_6.out BK101.out qa69)); have n1_ := qO (hb); have n2_ := qO (ho); clear BK101 HB HO_6; have BK101 := n0_; have HB := n1_; have HO110 := n2_; clear n0_ n1_ n2_ ho hb hg hat))
        go_roundg k1
        case measure => have := HK1.out; omega
        case rel => exact ⟨(y108), (wrap64 (x18_1 + 1)), qa18, H', ⟨qa164⟩, ⟨by (with_reducible repeat (first | apply Kd.R_alloc | apply Kd.R_drewN | apply Kd.R_drew)); exact HO110.out⟩, ⟨qa4⟩, ⟨qa5⟩⟩
       ·rw [if_neg c17] at H
        exact absurd H qa120
      ·replace c16 := Bool.eq_false_iff.mpr c16
       subst c16; have H1 : (impl_KeysSince.l0 k1 a1 x6_1 (wrap64 (x18_1 + 1)) l0_0 a0_1) = some (r1, r2) := by rw [if_neg (show ¬ (false = true) by decide)] at H; exact H
       clear H; have H := H1; clear H1; have H' := qO H; clear H; obtain ⟨hcz21_0, hcz21_1, hfz21_0, hfz21_1⟩ := qb2 BK101.out
       go_wp2_with (first | ((with_reducible refine gate_callee (f := 79) rfl ?_); refine goesL_ (some 24) rfl rfl Try.func79 qa7 rfl #[.agg #[.slice A0_0 l0_0.length c0_0, .int .i64 a0_1], .int .i64 x18_1, .int .i64 a1] rfl qa0 ?_; (with_reducible refine (impl_Store_changedSince.calls _ _ l0_0 a0_1 x18_1 a1 false _ ?side1 ?side2 A15.out).mono ?_); (case side1 => exact qa11); (case side2 => exact HC0_0.out); rintro e w22 ⟨rfl, hb⟩; have hx_ := qHX HB hb qa1; refine ⟨_, rfl, ?_⟩; replace HO_6 := qO (Kd.R_below qa50 hb); replace BK101 := qO (qB BK101.out hx_ hb); replace HB := qO (below_step (below_step HB.out hx_) hb); clear hx_; (try clear hb); (try clear hb2); (try clear hk); (try clear hi)))
       go_roundg k1
       case measure => have := HK1.out; omega
       case rel => exact ⟨(x6_1), (wrap64 (x18_1 + 1)), qa18, H', ⟨qa164⟩, ⟨qa50⟩, ⟨qa4⟩, ⟨qa5⟩⟩
     ·rw [if_neg c14] at H
      have c14b0 : decide (x18_1 < 16) = false := decide_eq_false c14; clear c14; simp only [Option.some.injEq, Prod.mk.injEq] at H; obtain ⟨rfl, rfl⟩ := H; go_wp2
      go_ret2
      exact ⟨_, qa9, qa50, qa5⟩
  ·replace c6 := Bool.eq_false_iff.mpr c6
   subst c6; have H1 : (some (([] : List Int), 4)) = some (r1, r2) := by rw [if_neg (show ¬ (false = true) by decide)] at H; exact H
   clear H; have H := H1; clear H1; simp only [Option.some.injEq, Prod.mk.injEq] at H; obtain ⟨rfl, rfl⟩ := H
   go_enter Try.func33, Try.ntmps33
   go_wp2_with (first | ((with_reducible refine gate_dst (N := 2) rfl ?_); refine qX 2 #[.slice A0_0 l0_0.length c0_0, .int .i64 a0_1] 28 ?_; intro gb101 hg w23 hbox hb; have hx_ := qHX HB hb qa1; have BK101 := qO (hbox); have GW101 := qO ((qa17 : w.heap.size ≤ gb101)); have GE101 := GW101; replace HB := qO (below_step (below_step HB.out hx_) hb); clear hx_ hb hbox hg; obtain ⟨hcz24_0, hcz24_1, hfz24_0, hfz24_1⟩ := qb2 BK101.out) | ((with_reducible refine gate_callee (f := 22) rfl ?_); refine goesL_ (some 10) rfl rfl Try.func22 qa7 rfl #[.agg #[.slice A0_0 l0_0.length c0_0, .int .i64 a0_1]] rfl qa0 ?_; (with_reducible refine (impl_StoreOK.calls k _ _ l0_0 a0_1 true _ ?side1 ?side2 A3.out).mono ?_); (case side1 => exact qa11); (case side2 => exact HC0_0.out); rintro e w25 ⟨rfl, hb⟩; have hx_ := qHX HB hb qa1; refine ⟨_, rfl, ?_⟩; replace BK101 := qO (qB BK101.out hx_ hb); replace HB := qO (below_step (below_step HB.out hx_) hb); clear hx_; (try clear hb); (try clear hb2); (try clear hk); (try clear hi); obtain ⟨hcz26_0, hcz26_1, hfz26_0, hfz26_1⟩ := qb2 BK101.out) | ((with_reducible refine gate_callee (f := 57) rfl ?_); refine goesL_ (some 15) rfl rfl Try.func57 qa7 rfl #[.agg #[.slice A0_0 l0_0.length c0_0, .int .i64 a0_1], .int .i64 a1] rfl qa0 ?_; (with_reducible refine (impl_Store_isHour.calls _ _ l0_0 a0_1 a1 false _ ?side1 ?side2 A5.out).mono ?_); (case side1 => exact qa11); (case side2 => exact HC0_0.out); rintro e w27 ⟨rfl, hb⟩; have hx_ := qHX HB hb qa1; refine ⟨_, rfl, ?_⟩; replace BK101 := qO (qB BK101.out hx_ hb); replace HB := qO (below_step (below_step HB.out hx_) hb); clear hx_; (try clear hb); (try clear hb2); (try clear hk); (try clear hi)))
   go_ret2
   exact ⟨_, qa9, qa185, qa5⟩
 ·replace c4 := Bool.eq_false_iff.mpr c4
  subst c4; have H1 : (some (([] : List Int), 1)) = some (r1, r2) := by rw [if_neg (show ¬ (false = true) by decide)] at H; exact H
  clear H; have H := H1; clear H1; simp only [Option.some.injEq, Prod.mk.injEq] at H; obtain ⟨rfl, rfl⟩ := H
  go_enter Try.func33, Try.ntmps33
  go_wp2_with (first | ((with_reducible refine gate_dst (N := 2) rfl ?_); refine qX 2 #[.slice A0_0 l0_0.length c0_0, .int .i64 a0_1] 28 ?_; intro gb101 hg w28 hbox hb; have hx_ := qHX HB hb qa1; have BK101 := qO (hbox); have GW101 := qO ((qa17 : w.heap.size ≤ gb101)); have GE101 := GW101; replace HB := qO (below_step (below_step HB.out hx_) hb); clear hx_ hb hbox hg; obtain ⟨hcz29_0, hcz29_1, hfz29_0, hfz29_1⟩ := qb2 BK101.out) | ((with_reducible refine gate_callee (f := 22) rfl ?_); refine goesL_ (some 10) rfl rfl Try.func22 qa7 rfl #[.agg #[.slice A0_0 l0_0.length c0_0, .int .i64 a0_1]] rfl qa0 ?_; (with_reducible refine (impl_StoreOK.calls k _ _ l0_0 a0_1 false _ ?side1 ?side2 A3.out).mono ?_); (case side1 => exact qa11); (case side2 => exact HC0_0.out); rintro e w30 ⟨rfl, hb⟩; have hx_ := qHX HB hb qa1; refine ⟨_, rfl, ?_⟩; replace BK101 := qO (qB BK101.out hx_ hb); replace HB := qO (below_step (below_step HB.out hx_) hb); clear hx_; (try clear hb); (try clear hb2); (try clear hk); (try clear hi)))
  go_ret2
  exact ⟨_, qa9, qa185, qa5⟩


def spec_l06Changed.f (l0_0 : List (List (S43))) (a0_1 : Int) (a1 : Int) (a2 : Int) : Option (Bool) := if 0 ≤ a1 then (if a1 < (l0_0.length : Int) then (if ((rd_L4 l0_0 a1).length : Int) > 0 then (if 0 ≤ (wrap64 (((rd_L4 l0_0 a1).length : Int) - 1)) then (if (wrap64 (((rd_L4 l0_0 a1).length : Int) - 1)) < ((rd_L4 l0_0 a1).length : Int) then (some (decide (((rd_T43 (rd_L4 l0_0 a1) (wrap64 (((rd_L4 l0_0 a1).length : Int) - 1))).f0) > a2))) else (none)) else (none)) else (some false)) else (none)) else (none)
set_option maxHeartbeats 8000000 in
set_option maxRecDepth 100000 in
theorem spec_l06Changed.calls (A0_0 : Option Addr) (c0_0 : Nat) (l0_0 : List (List (S43))) (a0_1 : Int) (a1 : Int) (a2 : Int) (r : Bool) (w : World) (hr0_0 : Kd.C (Kd.slice 43 k43) w A0_0 l0_0.length l0_0) (hc0_0 : l0_0.length ≤ c0_0) (h : spec_l06Changed.f l0_0 a0_1 a1 a2 = some r) :
  Calls Try.prog 80 #[.agg #[.slice A0_0 l0_0.length c0_0, .int .i64 a0_1], .int .i64 a1, .int .i64 a2] w fun e w' => e = .returned (.bool r) ∧ Below w.heap.size w w' := by
 have hu28 := Try.underlying28; have HR0_0 := qO hr0_0; have HC0_0 := qO hc0_0; clear hr0_0 hc0_0; have HB := qO (Below.refl w.heap.size w); have H : (if 0 ≤ a1 then (if a1 < (l0_0.length : Int) then (if ((rd_L4 l0_0 a1).length : Int) > 0 then (if 0 ≤ (wrap64 (((rd_L4 l0_0 a1).length : Int) - 1)) then (if (wrap64 (((rd_L4 l0_0 a1).length : Int) - 1)) < ((rd_L4 l0_0 a1).length : Int) then (some (decide (((rd_T43 (rd_L4 l0_0 a1) (wrap64 (((rd_L4 l0_0 a1).length : Int) - 1))).f0) > a2))) else (none)) else (none)) else (some false)) else (none)) else (none)) = some r := h; clear h
 by_cases c4 : 0 ≤ a1
 ·rw [if_pos c4] at H
  have c4b0 : decide (0 ≤ a1) = true := decide_eq_true c4; clear c4
  by_cases c5 : a1 < (l0_0.length : Int)
  ·rw [if_pos c5] at H
   have c5b0 : decide (a1 < (l0_0.length : Int)) = true := decide_eq_true c5; clear c5
   by_cases c6 : ((rd_L4 l0_0 a1).length : Int) > 0
   ·rw [if_pos c6] at H
    have c6b0 : decide (0 < ((rd_L4 l0_0 a1).length : Int)) = true := decide_eq_true c6; have c6b1 : decide (0 < (rd_L4 l0_0 a1).length) = true := decide_eq_true qa34; clear c6; obtain ⟨ji7, hji7⟩ : ∃ j_ : Int, (wrap64 (((rd_L4 l0_0 a1).length : Int) - 1)) = j_ := ⟨_, rfl⟩; replace H : (if 0 ≤ (ji7) then (if (ji7) < ((rd_L4 l0_0 a1).length : Int) then (some (decide (((rd_T43 (rd_L4 l0_0 a1) (ji7)).f0) > a2))) else (none)) else (none)) = some r := by first | (rw [hji7] at H; exact H) | (simp only [hji7] at H ⊢; exact H)
    have hji7w : (IntKind.i64.wrap (((rd_L4 l0_0 a1).length : Int) - 1)) = ji7 := (i64_w _).trans hji7
    by_cases c8 : 0 ≤ (ji7)
    ·rw [if_pos c8] at H
     have c8b0 : decide (0 ≤ (ji7)) = true := decide_eq_true c8; clear c8
     by_cases c9 : (ji7) < ((rd_L4 l0_0 a1).length : Int)
     ·rw [if_pos c9] at H
      have c9b0 : decide ((ji7) < ((rd_L4 l0_0 a1).length : Int)) = true := decide_eq_true c9; clear c9; obtain rfl := Option.some.inj H
      go_enter Try.func80, Try.ntmps80
      go_wp2_with (first | ((with_reducible refine gate_dst (N := 3) rfl ?_); (try (refine gate_guard (by rfl) ?_; dsimp only)); refine qX 3 #[.slice A0_0 l0_0.length c0_0, .int .i64 a0_1] 28 ?_; intro gb101 hg w10 hbox hb; have hx_ := qHX HB hb qa1; have BK101 := qO (hbox); have GW101 := qO ((qa17 : w.heap.size ≤ gb101)); have GE101 := GW101; replace HB := qO (below_step (below_step HB.out hx_) hb); clear hx_ hb hbox hg; obtain ⟨hcz11_0, hcz11_1, hfz11_0, hfz11_1⟩ := qb2 BK101.out; have p102 : 0 ≤ (a1 : Int) := qT qa2; have q102 : a1 < (l0_0.length : Int) := qT qa2; obtain ⟨ad102, A102_0, c102_0, e102, hx102_0, hl102_0, hi102_0⟩ := at_L4 HR0_0.out a1 p102 q102; cases e102; replace hx102_0 := (HB.out.cell (qL w _ hx102_0)).trans hx102_0; have HR102_0 := qO hi102_0; have HC102_0 := qO hl102_0; clear hi102_0 hl102_0; replace p102 := eq_true p102; replace q102 := eq_true q102; have p103 : 0 ≤ ((ji7) : Int) := qT qa2; have q103 : (ji7) < ((rd_L4 l0_0 a1).length : Int) := qT qa2; obtain ⟨ad103, e103, hx103_0, hx103_1⟩ := at_T43 HR102_0.out (ji7) p103 q103; cases e103; replace hx103_0 := (HB.out.cell (qL w _ hx103_0)).trans hx103_0; replace hx103_1 := (HB.out.cell (qL w _ hx103_1)).trans hx103_1; replace p103 := eq_true p103; replace q103 := eq_true q103))
      go_ret
      exact ⟨qa168, qa5⟩
     ·rw [if_neg c9] at H
      exact absurd H qa120
    ·rw [if_neg c8] at H
     exact absurd H qa120
   ·rw [if_neg c6] at H
    have c6b0 : decide (0 < ((rd_L4 l0_0 a1).length : Int)) = false := decide_eq_false c6; have c6b1 : decide (0 < (rd_L4 l0_0 a1).length) = false := decide_eq_false qa34; clear c6; obtain rfl := Option.some.inj H
    go_enter Try.func80, Try.ntmps80
    go_wp2_with (first | ((with_reducible refine gate_dst (N := 3) rfl ?_); (try (refine gate_guard (by rfl) ?_; dsimp only)); refine qX 3 #[.slice A0_0 l0_0.length c0_0, .int .i64 a0_1] 28 ?_; intro gb101 hg w12 hbox hb; have hx_ := qHX HB hb qa1; have BK101 := qO (hbox); have GW101 := qO ((qa17 : w.heap.size ≤ gb101)); have GE101 := GW101; replace HB := qO (below_step (below_step HB.out hx_) hb); clear hx_ hb hbox hg; obtain ⟨hcz13_0, hcz13_1, hfz13_0, hfz13_1⟩ := qb2 BK101.out; have p102 : 0 ≤ (a1 : Int) := qT qa2; have q102 : a1 < (l0_0.length : Int) := qT qa2; obtain ⟨ad102, A102_0, c102_0, e102, hx102_0, hl102_0, hi102_0⟩ := at_L4 HR0_0.out a1 p102 q102; cases e102; replace hx102_0 := (HB.out.cell (qL w _ hx102_0)).trans hx102_0; have HR102_0 := qO hi102_0; have HC102_0 := qO hl102_0; clear hi102_0 hl102_0; replace p102 := eq_true p102; replace q102 := eq_true q102))
    go_ret
    exact ⟨qa9, qa5⟩
  ·rw [if_neg c5] at H
   exact absurd H qa120
 ·rw [if_neg c4] at H
  exact absurd H qa120


def spec_l06Ask.f (k : Nat) (l0_0 : List (List (S43))) (a0_1 : Int) (a1 : Int) (a2 : Int) : Option (Int) := (spec_StoreOK.f k l0_0 a0_1).bind fun t102 => (if t102 = true then ((spec_l01In.f a1 0 15).bind fun t103 => (if t103 = true then ((spec_l01In.f a2 0 a0_1).bind fun t104 => (if t104 = true then (some 0) else (some 4))) else (some 4))) else (some 1))
set_option maxHeartbeats 8000000 in
set_option maxRecDepth 100000 in
theorem spec_l06Ask.calls (k : Nat) (A0_0 : Option Addr) (c0_0 : Nat) (l0_0 : List (List (S43))) (a0_1 : Int) (a1 : Int) (a2 : Int) (r : Int) (w : World) (hr0_0 : Kd.C (Kd.slice 43 k43) w A0_0 l0_0.length l0_0) (hc0_0 : l0_0.length ≤ c0_0) (h : spec_l06Ask.f k l0_0 a0_1 a1 a2 = some r) :
  Calls Try.prog 54 #[.agg #[.slice A0_0 l0_0.length c0_0, .int .i64 a0_1], .int .i64 a1, .int .i64 a2] w fun e w' => e = .returned (.int .i64 r) ∧ Below w.heap.size w w' := by
 have hu28 := Try.underlying28; have HR0_0 := qO hr0_0; have HC0_0 := qO hc0_0; clear hr0_0 hc0_0; have HB := qO (Below.refl w.heap.size w); have H : ((spec_StoreOK.f k l0_0 a0_1).bind fun t102 => (if t102 = true then ((spec_l01In.f a1 0 15).bind fun t103 => (if t103 = true then ((spec_l01In.f a2 0 a0_1).bind fun t104 => (if t104 = true then (some 0) else (some 4))) else (some 4))) else (some 1))) = some r := h; clear h; replace H := Option.bind_eq_some_iff.mp H; obtain ⟨t102, A40, H⟩ := H; replace H : (if t102 = true then ((spec_l01In.f a1 0 15).bind fun t103 => (if t103 = true then ((spec_l01In.f a2 0 a0_1).bind fun t104 => (if t104 = true then (some 0) else (some 4))) else (some 4))) else (some 1)) = some r := H; have A4 := qO A40; clear A40
 by_cases c5 : t102 = true
 ·subst c5
  have H1 : ((spec_l01In.f a1 0 15).bind fun t103 => (if t103 = true then ((spec_l01In.f a2 0 a0_1).bind fun t104 => (if t104 = true then (some 0) else (some 4))) else (some 4))) = some r := by rw [if_pos rfl] at H; exact H
  clear H; have H := H1; clear H1; replace H := Option.bind_eq_some_iff.mp H; obtain ⟨t103, A60, H⟩ := H; replace H : (if t103 = true then ((spec_l01In.f a2 0 a0_1).bind fun t104 => (if t104 = true then (some 0) else (some 4))) else (some 4)) = some r := H; have A6 := qO A60; clear A60
  by_cases c7 : t103 = true
  ·subst c7
   have H1 : ((spec_l01In.f a2 0 a0_1).bind fun t104 => (if t104 = true then (some 0) else (some 4))) = some r := by rw [if_pos rfl] at H; exact H
   clear H; have H := H1; clear H1; replace H := Option.bind_eq_some_iff.mp H; obtain ⟨t104, A80, H⟩ := H; replace H : (if t104 = true then (some 0) else (some 4)) = some r := H; have A8 := qO A80; clear A80
   by_cases c9 : t104 = true
   ·subst c9
    have H1 : (some 0) = some r := by rw [if_pos rfl] at H; exact H
    clear H; have H := H1; clear H1; obtain rfl := Option.some.inj H
    go_enter Try.func54, Try.ntmps54
    go_wp2_with (first | ((with_reducible refine gate_dst (N := 3) rfl ?_); refine qX 3 #[.slice A0_0 l0_0.length c0_0, .int .i64 a0_1] 28 ?_; intro gb101 hg w10 hbox hb; have hx_ := qHX HB hb qa1; have BK101 := qO (hbox); have GW101 := qO ((qa17 : w.heap.size ≤ gb101)); have GE101 := GW101; replace HB := qO (below_step (below_step HB.out hx_) hb); clear hx_ hb hbox hg; obtain ⟨hcz11_0, hcz11_1, hfz11_0, hfz11_1⟩ := qb2 BK101.out) | ((with_reducible refine gate_callee (f := 70) rfl ?_); refine goesL_ (some 9) rfl rfl Try.func70 qa7 rfl #[.agg #[.slice A0_0 l0_0.length c0_0, .int .i64 a0_1]] rfl qa0 ?_; (with_reducible refine (spec_StoreOK.calls k _ _ l0_0 a0_1 true _ ?side1 ?side2 A4.out).mono ?_); (case side1 => exact qa11); (case side2 => exact HC0_0.out); rintro e w12 ⟨rfl, hb⟩; have hx_ := qHX HB hb qa1; refine ⟨_, rfl, ?_⟩; replace BK101 := qO (qB BK101.out hx_ hb); replace HB := qO (below_step (below_step HB.out hx_) hb); clear hx_; (try clear hb); (try clear hb2); (try clear hk); (try clear hi)) | ((with_reducible refine gate_callee (f := 96) rfl ?_); refine goesL_ (some 13) rfl rfl Try.func96 qa7 rfl #[.int .i64 a1, .int .i64 0, .int .i64 15] rfl qa0 ?_; (with_reducible refine (spec_l01In.calls a1 0 15 true _ A6.out).mono ?_); rintro e w' ⟨rfl, ⟨nd, rfl⟩⟩; refine ⟨_, rfl, ?_⟩; obtain ⟨hcz13_0, hcz13_1, hfz13_0, hfz13_1⟩ := qb2 BK101.out) | (go_at_call 96; (with_reducible refine (spec_l01In.calls a2 0 a0_1 true _ A8.out).mono ?_); rintro e w' ⟨rfl, ⟨nd, rfl⟩⟩))
    go_ret
    exact ⟨qa9, qa5⟩
   ·replace c9 := Bool.eq_false_iff.mpr c9
    subst c9; have H1 : (some 4) = some r := by rw [if_neg (show ¬ (false = true) by decide)] at H; exact H
    clear H; have H := H1; clear H1; obtain rfl := Option.some.inj H
    go_enter Try.func54, Try.ntmps54
    go_wp2_with (first | ((with_reducible refine gate_dst (N := 3) rfl ?_); refine qX 3 #[.slice A0_0 l0_0.length c0_0, .int .i64 a0_1] 28 ?_; intro gb101 hg w14 hbox hb; have hx_ := qHX HB hb qa1; have BK101 := qO (hbox); have GW101 := qO ((qa17 : w.heap.size ≤ gb101)); have GE101 := GW101; replace HB := qO (below_step (below_step HB.out hx_) hb); clear hx_ hb hbox hg; obtain ⟨hcz15_0, hcz15_1, hfz15_0, hfz15_1⟩ := qb2 BK101.out) | ((with_reducible refine gate_callee (f := 70) rfl ?_); refine goesL_ (some 9) rfl rfl Try.func70 qa7 rfl #[.agg #[.slice A0_0 l0_0.length c0_0, .int .i64 a0_1]] rfl qa0 ?_; (with_reducible refine (spec_StoreOK.calls k _ _ l0_0 a0_1 true _ ?side1 ?side2 A4.out).mono ?_); (case side1 => exact qa11); (case side2 => exact HC0_0.out); rintro e w16 ⟨rfl, hb⟩; have hx_ := qHX HB hb qa1; refine ⟨_, rfl, ?_⟩; replace BK101 := qO (qB BK101.out hx_ hb); replace HB := qO (below_step (below_step HB.out hx_) hb); clear hx_; (try clear hb); (try clear hb2); (try clear hk); (try clear hi)) | ((with_reducible refine gate_callee (f := 96) rfl ?_); refine goesL_ (some 13) rfl rfl Try.func96 qa7 rfl #[.int .i64 a1, .int .i64 0, .int .i64 15] rfl qa0 ?_; (with_reducible refine (spec_l01In.calls a1 0 15 true _ A6.out).mono ?_); rintro e w' ⟨rfl, ⟨nd, rfl⟩⟩; refine ⟨_, rfl, ?_⟩; obtain ⟨hcz17_0, hcz17_1, hfz17_0, hfz17_1⟩ := qb2 BK101.out) | (go_at_call 96; (with_reducible refine (spec_l01In.calls a2 0 a0_1 false _ A8.out).mono ?_); rintro e w' ⟨rfl, ⟨nd, rfl⟩⟩))
    go_ret
    exact ⟨qa9, qa5⟩
  ·replace c7 := Bool.eq_false_iff.mpr c7
   subst c7; have H1 : (some 4) = some r := by rw [if_neg (show ¬ (false = true) by decide)] at H; exact H
   clear H; have H := H1; clear H1; obtain rfl := Option.some.inj H
   go_enter Try.func54, Try.ntmps54
   go_wp2_with (first | ((with_reducible refine gate_dst (N := 3) rfl ?_); refine qX 3 #[.slice A0_0 l0_0.length c0_0, .int .i64 a0_1] 28 ?_; intro gb101 hg w18 hbox hb; have hx_ := qHX HB hb qa1; have BK101 := qO (hbox); have GW101 := qO ((qa17 : w.heap.size ≤ gb101)); have GE101 := GW101; replace HB := qO (below_step (below_step HB.out hx_) hb); clear hx_ hb hbox hg; obtain ⟨hcz19_0, hcz19_1, hfz19_0, hfz19_1⟩ := qb2 BK101.out) | ((with_reducible refine gate_callee (f := 70) rfl ?_); refine goesL_ (some 9) rfl rfl Try.func70 qa7 rfl #[.agg #[.slice A0_0 l0_0.length c0_0, .int .i64 a0_1]] rfl qa0 ?_; (with_reducible refine (spec_StoreOK.calls k _ _ l0_0 a0_1 true _ ?side1 ?side2 A4.out).mono ?_); (case side1 => exact qa11); (case side2 => exact HC0_0.out); rintro e w20 ⟨rfl, hb⟩; have hx_ := qHX HB hb qa1; refine ⟨_, rfl, ?_⟩; replace BK101 := qO (qB BK101.out hx_ hb); replace HB := qO (below_step (below_step HB.out hx_) hb); clear hx_; (try clear hb); (try clear hb2); (try clear hk); (try clear hi)) | ((with_reducible refine gate_callee (f := 96) rfl ?_); refine goesL_ (some 13) rfl rfl Try.func96 qa7 rfl #[.int .i64 a1, .int .i64 0, .int .i64 15] rfl qa0 ?_; (with_reducible refine (spec_l01In.calls a1 0 15 false _ A6.out).mono ?_); rintro e w' ⟨rfl, ⟨nd, rfl⟩⟩; refine ⟨_, rfl, ?_⟩))
   go_ret
   exact ⟨qa9, qa5⟩
 ·replace c5 := Bool.eq_false_iff.mpr c5
  subst c5; have H1 : (some 1) = some r := by rw [if_neg (show ¬ (false = true) by decide)] at H; exact H
  clear H; have H := H1; clear H1; obtain rfl := Option.some.inj H
  go_enter Try.func54, Try.ntmps54
  go_wp2_with (first | ((with_reducible refine gate_dst (N := 3) rfl ?_); refine qX 3 #[.slice A0_0 l0_0.length c0_0, .int .i64 a0_1] 28 ?_; intro gb101 hg w21 hbox hb; have hx_ := qHX HB hb qa1; have BK101 := qO (hbox); have GW101 := qO ((qa17 : w.heap.size ≤ gb101)); have GE101 := GW101; replace HB := qO (below_step (below_step HB.out hx_) hb); clear hx_ hb hbox hg; obtain ⟨hcz22_0, hcz22_1, hfz22_0, hfz22_1⟩ := qb2 BK101.out) | ((with_reducible refine gate_callee (f := 70) rfl ?_); refine goesL_ (some 9) rfl rfl Try.func70 qa7 rfl #[.agg #[.slice A0_0 l0_0.length c0_0, .int .i64 a0_1]] rfl qa0 ?_; (with_reducible refine (spec_StoreOK.calls k _ _ l0_0 a0_1 false _ ?side1 ?side2 A4.out).mono ?_); (case side1 => exact qa11); (case side2 => exact HC0_0.out); rintro e w23 ⟨rfl, hb⟩; have hx_ := qHX HB hb qa1; refine ⟨_, rfl, ?_⟩; replace BK101 := qO (qB BK101.out hx_ hb); replace HB := qO (below_step (below_step HB.out hx_) hb); clear hx_; (try clear hb); (try clear hb2); (try clear hk); (try clear hi)))
  go_ret
  exact ⟨qa9, qa5⟩


def spec_KeysSince.l0 : Nat → Int → List Int → Int → List (List (S43)) → Int → Option (List Int × Int)
 | 0, _, _, _, _, _ => none
 | k + 1, x1, x7, x8, x102000, x102001 => if x8 < 16 then ((spec_l06Changed.f x102000 x102001 x8 x1).bind fun t109 => (if t109 = true then (if x7.length < 17592186044416 then (spec_KeysSince.l0 k x1 (x7 ++ [x8]) (wrap64 (x8 + 1)) x102000 x102001) else (none)) else (spec_KeysSince.l0 k x1 x7 (wrap64 (x8 + 1)) x102000 x102001))) else (some (x7, 0))
def spec_KeysSince.f (k : Nat) (l0_0 : List (List (S43))) (a0_1 : Int) (a1 : Int) : Option (List Int × Int) := (spec_l06Ask.f k l0_0 a0_1 0 a1).bind fun t102 => (if t102 = 0 then (spec_KeysSince.l0 k a1 (([] : List Int)) 0 l0_0 a0_1) else (some ((([] : List Int)), t102)))
set_option maxHeartbeats 8000000 in
set_option maxRecDepth 100000 in
theorem spec_KeysSince.calls (k : Nat) (A0_0 : Option Addr) (c0_0 : Nat) (l0_0 : List (List (S43))) (a0_1 : Int) (a1 : Int) (r1 : List Int) (r2 : Int) (w : World) (hr0_0 : Kd.C (Kd.slice 43 k43) w A0_0 l0_0.length l0_0) (hc0_0 : l0_0.length ≤ c0_0) (h : spec_KeysSince.f k l0_0 a0_1 a1 = some (r1, r2)) :
  Calls Try.prog 34 #[.agg #[.slice A0_0 l0_0.length c0_0, .int .i64 a0_1], .int .i64 a1] w fun e w' => ∃ v0_ : Value, e = .returned (.tuple #[v0_, .int .i64 r2]) ∧ Kd.R (Kd.int .i64) 3 w' w.heap.size (fun _ => True) v0_ r1 ∧ Below w.heap.size w w' := by
 have hu28 := Try.underlying28; have HR0_0 := qO hr0_0; have HC0_0 := qO hc0_0; clear hr0_0 hc0_0; have HB := qO (Below.refl w.heap.size w); have H : ((spec_l06Ask.f k l0_0 a0_1 0 a1).bind fun t102 => (if t102 = 0 then (spec_KeysSince.l0 k a1 (([] : List Int)) 0 l0_0 a0_1) else (some ((([] : List Int)), t102)))) = some (r1, r2) := h; clear h; replace H := Option.bind_eq_some_iff.mp H; obtain ⟨t102, A30, H⟩ := H; replace H : (if t102 = 0 then (spec_KeysSince.l0 k a1 (([] : List Int)) 0 l0_0 a0_1) else (some ((([] : List Int)), t102))) = some (r1, r2) := H; have A3 := qO A30; clear A30
 by_cases c4 : t102 = 0
 ·rw [if_pos c4] at H
  have c4b0 : (t102 == 0) = true := beq_iff_eq.mpr c4; have c4b1 : (t102 != 0) = false := bne_eq_false_iff_eq.mpr c4; clear c4; obtain ⟨y106, hy106⟩ : ∃ y_ : List Int, y_ = (([] : List Int)) := ⟨_, rfl⟩; replace H : (spec_KeysSince.l0 k a1 y106 0 l0_0 a0_1) = some (r1, r2) := by first | (rw [hy106]; with_reducible exact H) | (have H2_ := (Option.bind_some _ _).symm.trans H; rw [hy106]; with_reducible exact H2_) | (have H2_ := (Option.bind_some _ _).symm.trans H; with_reducible exact H2_) | with_reducible exact H | (rw [hy106]; exact H) | exact H
  have Ny106 := qO hy106; clear hy106; have H' := qO H; clear H
  go_enter Try.func34, Try.ntmps34
  go_wp2_with (first | ((with_reducible refine gate_dst (N := 2) rfl ?_); refine qX 2 #[.slice A0_0 l0_0.length c0_0, .int .i64 a0_1] 28 ?_; intro gb101 hg w5 hbox hb; have hx_ := qHX HB hb qa1; have BK101 := qO (hbox); have GW101 := qO ((qa17 : w.heap.size ≤ gb101)); have GE101 := GW101; replace HB := qO (below_step (below_step HB.out hx_) hb); clear hx_ hb hbox hg; obtain ⟨hcz6_0, hcz6_1, hfz6_0, hfz6_1⟩ := qb2 BK101.out) | ((with_reducible refine gate_callee (f := 54) rfl ?_); refine goesL_ (some 11) rfl rfl Try.func54 qa7 rfl #[.agg #[.slice A0_0 l0_0.length c0_0, .int .i64 a0_1], .int .i64 0, .int .i64 a1] rfl qa0 ?_; (with_reducible refine (spec_l06Ask.calls k _ _ l0_0 a0_1 0 a1 t102 _ ?side1 ?side2 A3.out).mono ?_); (case side1 => exact qa11); (case side2 => exact HC0_0.out); rintro e w7 ⟨rfl, hb⟩; have hx_ := qHX HB hb qa1; refine ⟨_, rfl, ?_⟩; replace BK101 := qO (qB BK101.out hx_ hb); replace HB := qO (below_step (below_step HB.out hx_) hb); clear hx_; (try clear hb); (try clear hb2); (try clear hk); (try clear hi)) | ((with_reducible refine gate_dst (N := 16) rfl ?_); refine Kd.R_lit (Kd.int .i64) _ 3 ?hg (N := 16) ?hd (xs := ([] : List Int)) (inner := []) (ok := fun _ => True) (okp := fun _ => True) ?hr ?hp (fun _ hk => hk) trivial (Below.refl _ _) (Nat.le_refl _) qa120 ?_; (case hd => rfl); (case hg => rfl); (case hr => exact qa16); (case hp => exact qa207); intro v107 w8 ho9 hb hg_ hnew_; clear hg_ hnew_; (first | rw [← Ny106.out] at ho9 | (simp only [Int.reduceToNat] at ho9; rw [← Ny106.out] at ho9)); have HO108 := qO (Kd.R_lower ho9 (below_size qa5)); replace BK101 := qO (blk_below (g := gb101) (o := .cells #[.slice A0_0 l0_0.length c0_0, .int .i64 a0_1] 28 (0, 0)) qa4 hb); replace HB := qO (below_step qa5 hb); clear hb ho9))
  go_loopg [7, 8] k (fun kq v7 v8 w' => ∃ (x7_1 : List Int) (x8_1 : Int), v8 = .int .i64 x8_1 ∧ Aside0 (spec_KeysSince.l0 kq a1 x7_1 x8_1 l0_0 a0_1 = some (r1, r2)) ∧ Aside0 (kq ≤ k) ∧ Aside0 (Kd.R (Kd.int .i64) 3 w' w.heap.size (fun _ => True) v7 x7_1) ∧ Aside0 (w'.heap[gb101]? = some (.cells #[(.slice A0_0 l0_0.length c0_0), .int .i64 a0_1] 28 (0, 0))) ∧ Aside0 (Below w.heap.size w w'))
  case atStart => exact ⟨(y106), (0), qa18, H', ⟨Nat.le_refl _⟩, ⟨qa81⟩, ⟨qa4⟩, ⟨qa5⟩⟩
  case round =>
   clear H'
   try clear p2
   try clear c3
   try clear c4
   try clear c4b0
   try clear c4b1
   try clear c5
   try clear hcz6_0
   try clear hcz6_1
   try clear hfz6_0
   try clear hfz6_1
   obtain ⟨x7_1, x8_1, rfl, HA, HK1, HO_7, BK101, HB⟩ := hrel
   cases gk with
   | zero => exact absurd HA.out (by simp [spec_KeysSince.l0])
   | succ k1 =>
    have H := HA.out; clear HA; simp only [spec_KeysSince.l0] at H
    by_cases c10 : x8_1 < 16
    ·rw [if_pos c10] at H
     have c10b0 : decide (x8_1 < 16) = true := decide_eq_true c10; clear c10; replace H := Option.bind_eq_some_iff.mp H; obtain ⟨t109, A110, H⟩ := H; replace H : (if t109 = true then (if x7_1.length < 17592186044416 then (spec_KeysSince.l0 k1 a1 (x7_1 ++ [x8_1]) (wrap64 (x8_1 + 1)) l0_0 a0_1) else (none)) else (spec_KeysSince.l0 k1 a1 x7_1 (wrap64 (x8_1 + 1)) l0_0 a0_1)) = some (r1, r2) := H; have A11 := qO A110; clear A110
     by_cases c12 : t109 = true
     ·subst c12
      have H1 : (if x7_1.length < 17592186044416 then (spec_KeysSince.l0 k1 a1 (x7_1 ++ [x8_1]) (wrap64 (x8_1 + 1)) l0_0 a0_1) else (none)) = some (r1, r2) := by rw [if_pos rfl] at H; exact H
      clear H; have H := H1; clear H1
      by_cases c13 : x7_1.length < 17592186044416
      ·rw [if_pos c13] at H
       have LMc13 := qO c13; clear c13; obtain ⟨y110, hy110⟩ : ∃ y_ : List Int, y_ = (x7_1 ++ [x8_1]) := ⟨_, rfl⟩; replace H : (spec_KeysSince.l0 k1 a1 y110 (wrap64 (x8_1 + 1)) l0_0 a0_1) = some (r1, r2) := by first | (rw [hy110]; with_reducible exact H) | (have H2_ := (Option.bind_some _ _).symm.trans H; rw [hy110]; with_reducible exact H2_) | (have H2_ := (Option.bind_some _ _).symm.trans H; with_reducible exact H2_) | with_reducible exact H | (rw [hy110]; exact H) | exact H
       have Ny110 := qO hy110; clear hy110; have H' := qO H; clear H; obtain ⟨hcz14_0, hcz14_1, hfz14_0, hfz14_1⟩ := qb2 BK101.out
       go_wp2_with (first | ((with_reducible refine gate_callee (f := 80) rfl ?_); refine goesL_ (some 24) rfl rfl Try.func80 qa7 rfl #[.agg #[.slice A0_0 l0_0.length c0_0, .int .i64 a0_1], .int .i64 x8_1, .int .i64 a1] rfl qa0 ?_; (with_reducible refine (spec_l06Changed.calls _ _ l0_0 a0_1 x8_1 a1 true _ ?side1 ?side2 A11.out).mono ?_); (case side1 => exact qa11); (case side2 => exact HC0_0.out); rintro e w15 ⟨rfl, hb⟩; have hx_ := qHX HB hb qa1; refine ⟨_, rfl, ?_⟩; replace HO_7 := qO (Kd.R_below qa160 hb); replace BK101 := qO (qB BK101.out hx_ hb); replace HB := qO (below_step (below_step HB.out hx_) hb); clear hx_; (try clear hb); (try clear hb2); (try clear hk); (try clear hi)) | ((with_reducible refine gate_builtin (b := .append) (xs := #[.tmp 25, .tmp 27]) rfl ?_); at_builtin; refine Kd.R_append (Kd.int .i64) (w0 := w) w.heap.size rfl (.tmp 25) (.tmp 27) 60 3 (.int .i64 0) 8 rfl Try.underlying60 info3 rfl qa69 qa34 u7 x7_1 x8_1 [.int .i64 x8_1] (fun _ => True) (fun _ => False) rfl rfl ?aP (fun _ hk => hk.elim) ?aF ?aO ?aB ?aS ?aL ?_; (case aP => exact rfl); (case aB => exact qa192); (case aF => exact qa206); (case aO => exact (by (with_reducible repeat (first | apply Kd.R_alloc | apply Kd.R_drewN | apply Kd.R_drew)); exact HO_7.out)); (case aS => exact qa175); (case aL => have := LMc13.out; omega); intro v111 w16 ho hb hg hat; rw [← Ny110.out] at ho; have n0_ := qO (blk_grown (g := gb101) (o := .cells #[.slice A0_0 l0_0.length c0_0, .int .i64 a0_1] 28 (0, 0)) qa4 hg (Kd.R_ne HO_7.out BK101.out qa69)); have n1_ := qO (hb); have n2_ := qO (ho); clear BK101 HB HO_7; have BK101 := n0_; have HB := n1_; have HO112 := n2_; clear n0_ n1_ n2_ ho hb hg hat))
       go_roundg k1
       case measure => have := HK1.out; omega
       case rel => exact ⟨(y110), (wrap64 (x8_1 + 1)), qa18, H', ⟨qa164⟩, ⟨by (with_reducible repeat (first | apply Kd.R_alloc | apply Kd.R_drewN | apply Kd.R_drew)); exact HO112.out⟩, ⟨qa4⟩, ⟨qa5⟩⟩
      ·rw [if_neg c13] at H
       exact absurd H qa120
     ·replace c12 := Bool.eq_false_iff.mpr c12
      subst c12; have H1 : (spec_KeysSince.l0 k1 a1 x7_1 (wrap64 (x8_1 + 1)) l0_0 a0_1) = some (r1, r2) := by rw [if_neg (show ¬ (false = true) by decide)] at H; exact H
      clear H; have H := H1; clear H1; have H' := qO H; clear H; obtain ⟨hcz17_0, hcz17_1, hfz17_0, hfz17_1⟩ := qb2 BK101.out
      go_wp2_with (first | ((with_reducible refine gate_callee (f := 80) rfl ?_); refine goesL_ (some 24) rfl rfl Try.func80 qa7 rfl #[.agg #[.slice A0_0 l0_0.length c0_0, .int .i64 a0_1], .int .i64 x8_1, .int .i64 a1] rfl qa0 ?_; (with_reducible refine (spec_l06Changed.calls _ _ l0_0 a0_1 x8_1 a1 false _ ?side1 ?side2 A11.out).mono ?_); (case side1 => exact qa11); (case side2 => exact HC0_0.out); rintro e w18 ⟨rfl, hb⟩; have hx_ := qHX HB hb qa1; refine ⟨_, rfl, ?_⟩; replace HO_7 := qO (Kd.R_below qa160 hb); replace BK101 := qO (qB BK101.out hx_ hb); replace HB := qO (below_step (below_step HB.out hx_) hb); clear hx_; (try clear hb); (try clear hb2); (try clear hk); (try clear hi)))
      go_roundg k1
      case measure => have := HK1.out; omega
      case rel => exact ⟨(x7_1), (wrap64 (x8_1 + 1)), qa18, H', ⟨qa164⟩, ⟨qa160⟩, ⟨qa4⟩, ⟨qa5⟩⟩
    ·rw [if_neg c10] at H
     have c10b0 : decide (x8_1 < 16) = false := decide_eq_false c10; clear c10; simp only [Option.some.injEq, Prod.mk.injEq] at H; obtain ⟨rfl, rfl⟩ := H; go_wp2
     go_ret2
     exact ⟨_, qa9, qa160, qa5⟩
 ·rw [if_neg c4] at H
  have c4b0 : (t102 == 0) = false := beq_eq_false_iff_ne.mpr c4; have c4b1 : (t102 != 0) = true := bne_iff_ne.mpr c4; obtain ⟨y103, hy103⟩ : ∃ y_ : List Int, y_ = (([] : List Int)) := ⟨_, rfl⟩; replace H : (some (y103, t102)) = some (r1, r2) := by first | (rw [hy103]; with_reducible exact H) | (have H2_ := (Option.bind_some _ _).symm.trans H; rw [hy103]; with_reducible exact H2_) | (have H2_ := (Option.bind_some _ _).symm.trans H; with_reducible exact H2_) | with_reducible exact H | (rw [hy103]; exact H) | exact H
  have Ny103 := qO hy103; clear hy103; simp only [Option.some.injEq, Prod.mk.injEq] at H; obtain ⟨rfl, rfl⟩ := H
  go_enter Try.func34, Try.ntmps34
  go_wp2_with (first | ((with_reducible refine gate_dst (N := 2) rfl ?_); refine qX 2 #[.slice A0_0 l0_0.length c0_0, .int .i64 a0_1] 28 ?_; intro gb101 hg w19 hbox hb; have hx_ := qHX HB hb qa1; have BK101 := qO (hbox); have GW101 := qO ((qa17 : w.heap.size ≤ gb101)); have GE101 := GW101; replace HB := qO (below_step (below_step HB.out hx_) hb); clear hx_ hb hbox hg; obtain ⟨hcz20_0, hcz20_1, hfz20_0, hfz20_1⟩ := qb2 BK101.out) | ((with_reducible refine gate_callee (f := 54) rfl ?_); refine goesL_ (some 11) rfl rfl Try.func54 qa7 rfl #[.agg #[.slice A0_0 l0_0.length c0_0, .int .i64 a0_1], .int .i64 0, .int .i64 a1] rfl qa0 ?_; (with_reducible refine (spec_l06Ask.calls k _ _ l0_0 a0_1 0 a1 t102 _ ?side1 ?side2 A3.out).mono ?_); (case side1 => exact qa11); (case side2 => exact HC0_0.out); rintro e w21 ⟨rfl, hb⟩; have hx_ := qHX HB hb qa1; refine ⟨_, rfl, ?_⟩; replace BK101 := qO (qB BK101.out hx_ hb); replace HB := qO (below_step (below_step HB.out hx_) hb); clear hx_; (try clear hb); (try clear hb2); (try clear hk); (try clear hi)) | ((with_reducible refine gate_dst (N := 14) rfl ?_); refine Kd.R_lit (Kd.int .i64) _ 3 ?hg (N := 14) ?hd (xs := ([] : List Int)) (inner := []) (ok := fun _ => True) (okp := fun _ => True) ?hr ?hp (fun _ hk => hk) trivial (Below.refl _ _) (Nat.le_refl _) qa120 ?_; (case hd => rfl); (case hg => rfl); (case hr => exact qa16); (case hp => exact qa207); intro v104 w22 ho23 hb hg_ hnew_; clear hg_ hnew_; (first | rw [← Ny103.out] at ho23 | (simp only [Int.reduceToNat] at ho23; rw [← Ny103.out] at ho23)); have HO105 := qO (Kd.R_lower ho23 (below_size qa5)); replace BK101 := qO (blk_below (g := gb101) (o := .cells #[.slice A0_0 l0_0.length c0_0, .int .i64 a0_1] 28 (0, 0)) qa4 hb); replace HB := qO (below_step qa5 hb); clear hb ho23))
  go_ret2
  exact ⟨_, qa9, by (with_reducible repeat (first | apply Kd.R_alloc | apply Kd.R_drewN | apply Kd.R_drew)); exact HO105.out, qa5⟩


def laws_sameInts.l0 : Nat → List Int → List Int → Int → Option (Bool)
 | 0, _, _, _ => none
 | k + 1, x0, x1, x5 => if x5 < (x0.length : Int) then (if 0 ≤ x5 then (if x5 < (x1.length : Int) then (if (rd x0 x5) = (rd x1 x5) then (laws_sameInts.l0 k x0 x1 (wrap64 (x5 + 1))) else (some false)) else (none)) else (none)) else (some true)
def laws_sameInts.f (k : Nat) (l0 : List Int) (l1 : List Int) : Option (Bool) := if (l0.length : Int) = (l1.length : Int) then (laws_sameInts.l0 k l0 l1 0) else (some false)
set_option maxHeartbeats 8000000 in
set_option maxRecDepth 100000 in
theorem laws_sameInts.calls (k : Nat) (A0 : Option Addr) (c0 : Nat) (l0 : List Int) (A1 : Option Addr) (c1 : Nat) (l1 : List Int) (r : Bool) (w : World) (hr0 : Kd.C (Kd.int .i64) w A0 l0.length l0) (hc0 : l0.length ≤ c0) (hr1 : Kd.C (Kd.int .i64) w A1 l1.length l1) (hc1 : l1.length ≤ c1) (h : laws_sameInts.f k l0 l1 = some r) :
  Calls Try.prog 35 #[.slice A0 l0.length c0, .slice A1 l1.length c1] w fun e w' => e = .returned (.bool r) ∧ Drawn0 w w' := by
 have HR0 := qO hr0; have HC0 := qO hc0; clear hr0 hc0; have HR1 := qO hr1; have HC1 := qO hc1; clear hr1 hc1; have H : (if (l0.length : Int) = (l1.length : Int) then (laws_sameInts.l0 k l0 l1 0) else (some false)) = some r := h; clear h
 by_cases c3 : (l0.length : Int) = (l1.length : Int)
 ·rw [if_pos c3] at H
  have c3b0 : ((l0.length : Int) == (l1.length : Int)) = true := beq_iff_eq.mpr c3; have c3b1 : ((l0.length : Int) != (l1.length : Int)) = false := bne_eq_false_iff_eq.mpr c3; have c3b2 : (l0.length == l1.length) = true := by first | simpa using c3 | (simp at c3 ⊢; omega)
  clear c3; have H' := qO H; clear H
  go_enter Try.func35, Try.ntmps35
  go_wp2
  repeat (go_quiet (fail); try go_wp2)
  go_loopg [5] k (fun kq v5 w' => ∃ (x5_1 : Int), v5 = .int .i64 x5_1 ∧ Aside0 (laws_sameInts.l0 kq l0 l1 x5_1 = some r) ∧ Aside0 (kq ≤ k) ∧ Drawn0 w w')
  case atStart => exact ⟨(0), qa18, H', ⟨Nat.le_refl _⟩, qa68⟩
  case round =>
   clear H'
   try clear c1
   try clear p2
   try clear c3
   try clear c3b0
   try clear c3b1
   try clear c3b2
   obtain ⟨x5_1, rfl, HA, HK1, ⟨m1, rfl⟩⟩ := hrel
   cases gk with
   | zero => exact absurd HA.out (by simp [laws_sameInts.l0])
   | succ k1 =>
    have H := HA.out; clear HA; simp only [laws_sameInts.l0] at H
    by_cases c4 : x5_1 < (l0.length : Int)
    ·rw [if_pos c4] at H
     have c4b0 : decide (x5_1 < (l0.length : Int)) = true := decide_eq_true c4; clear c4
     by_cases c5 : 0 ≤ x5_1
     ·rw [if_pos c5] at H
      have c5b0 : decide (0 ≤ x5_1) = true := decide_eq_true c5; clear c5
      by_cases c6 : x5_1 < (l1.length : Int)
      ·rw [if_pos c6] at H
       have c6b0 : decide (x5_1 < (l1.length : Int)) = true := decide_eq_true c6; clear c6
       by_cases c7 : (rd l0 x5_1) = (rd l1 x5_1)
       ·rw [if_pos c7] at H
        have c7b0 : ((rd l0 x5_1) == (rd l1 x5_1)) = true := beq_iff_eq.mpr c7; have c7b1 : ((rd l0 x5_1) != (rd l1 x5_1)) = false := bne_eq_false_iff_eq.mpr c7; clear c7; have H' := qO H; clear H; have p101 : 0 ≤ (x5_1 : Int) := qT qa2; have q101 : x5_1 < (l0.length : Int) := qT qa2; obtain ⟨ad101, e101, hx101_0⟩ := Kd.at_int HR0.out x5_1 p101 q101
        cases e101
        replace p101 := eq_true p101; replace q101 := eq_true q101; have p102 : 0 ≤ (x5_1 : Int) := qT qa2; have q102 : x5_1 < (l1.length : Int) := qT qa2; obtain ⟨ad102, e102, hx102_0⟩ := Kd.at_int HR1.out x5_1 p102 q102
        cases e102
        replace p102 := eq_true p102; replace q102 := eq_true q102; go_wp2
        repeat (go_quiet (fail); try go_wp2)
        go_roundg k1
        case measure => have := HK1.out; omega
        case rel => exact ⟨(wrap64 (x5_1 + 1)), qa18, H', ⟨qa164⟩, qa68⟩
       ·rw [if_neg c7] at H
        have c7b0 : ((rd l0 x5_1) == (rd l1 x5_1)) = false := beq_eq_false_iff_ne.mpr c7; have c7b1 : ((rd l0 x5_1) != (rd l1 x5_1)) = true := bne_iff_ne.mpr c7; obtain rfl := Option.some.inj H; have p101 : 0 ≤ (x5_1 : Int) := qT qa2; have q101 : x5_1 < (l0.length : Int) := qT qa2; obtain ⟨ad101, e101, hx101_0⟩ := Kd.at_int HR0.out x5_1 p101 q101
        cases e101
        replace p101 := eq_true p101; replace q101 := eq_true q101; have p102 : 0 ≤ (x5_1 : Int) := qT qa2; have q102 : x5_1 < (l1.length : Int) := qT qa2; obtain ⟨ad102, e102, hx102_0⟩ := Kd.at_int HR1.out x5_1 p102 q102
        cases e102
        replace p102 := eq_true p102; replace q102 := eq_true q102; go_wp2
        repeat (go_quiet (fail); try go_wp2)
        go_ret
        exact ⟨qa18, qa68⟩
      ·rw [if_neg c6] at H
       exact absurd H qa120
     ·rw [if_neg c5] at H
      exact absurd H qa120
    ·rw [if_neg c4] at H
     have c4b0 : decide (x5_1 < (l0.length : Int)) = false := decide_eq_false c4; clear c4; obtain rfl := Option.some.inj H; go_wp2
     repeat (go_quiet (fail); try go_wp2)
     go_ret
     exact ⟨qa18, qa68⟩
 ·rw [if_neg c3] at H
  have c3b0 : ((l0.length : Int) == (l1.length : Int)) = false := beq_eq_false_iff_ne.mpr c3; have c3b1 : ((l0.length : Int) != (l1.length : Int)) = true := bne_iff_ne.mpr c3; have c3b2 : (l0.length == l1.length) = false := by first | simpa using c3 | (simp at c3 ⊢; omega)
  obtain rfl := Option.some.inj H
  go_enter Try.func35, Try.ntmps35
  go_wp2
  repeat (go_quiet (fail); try go_wp2)
  go_ret
  exact ⟨qa18, qa68⟩

end Go.Proofs.Ytfiboooflebdpaa.Q
