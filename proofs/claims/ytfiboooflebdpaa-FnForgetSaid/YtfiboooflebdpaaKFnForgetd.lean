/- Texts of the claim on FnForget, gathered by a program of this session: what the program's functions compute (proved by walks), and the plain part. -/
import Derived.Test.YtfiboooflebdpaaKFnForgetc
import Derived.RangeFuncNested
import Derived.RangeFuncBound
import Derived.RangeFuncCalls
import Derived.RangeFuncLeaves
import Derived.Shelf.RegionOpen
import Derived.WalkKit
import Derived.OwnWalkIn
import Derived.TacticsInMore
import Derived.LoopNIn
import Derived.LoopIn
import Derived.Test.YtfiboooflebdpaaKFnForgetOpens
import Derived.KernelRfl
namespace Go.Proofs.Ytfiboooflebdpaa.Q
open Go.RowKit Go.Proofs.YtfiboooflebdpaaW.PrintWords Go.Proofs.YtfiboooflebdpaaW.PrintLast Go.Proofs.YtfiboooflebdpaaW.PrintMore
attribute [local go_sem] max2_int min2_int max_two min_two max_three min_three max_four min_four
set_option linter.unusedVariables false
set_option linter.unusedSimpArgs false

def spec_l00Src_store.l0 : Nat → Int → List Int → Int → Int → List (List (S43)) → Int → Option ((List (List (S43))) × Int × Int × Int)
 | 0, _, _, _, _, _, _ => none
 | k + 1, x4, x1000, x1001, x1002, x107000, x107001 => if x4 > 0 then ((spec_l00Src_puts.f k x1000 x1001 x1002).bind fun bt117 => ((spec_l06Write.f k x107000 x107001 bt117.1).bind fun bt122 => ((spec_l00Src_chance.f x1000 bt117.2.1 bt117.2.2 6).bind fun bt126 => (if bt126.1 = true then ((spec_l00Src_next.f x1000 bt126.2.1 bt126.2.2 (wrap64 (bt122.2 + 1))).bind fun bt129 => ((spec_l06Forget.f k bt122.1 bt122.2 bt129.1).bind fun bt132 => (spec_l00Src_store.l0 k (wrap64 (x4 - 1)) x1000 bt129.2.1 bt129.2.2 bt132.1 bt132.2.1))) else (spec_l00Src_store.l0 k (wrap64 (x4 - 1)) x1000 bt126.2.1 bt126.2.2 bt122.1 bt122.2))))) else ((spec_l06Own.f k x107000 x107001).bind fun bt113 => (some (bt113.1, bt113.2, x1001, x1002)))
def spec_l00Src_store.f (k : Nat) (s0_0 : List Int) (s0_1 : Int) (s0_2 : Int) : Option ((List (List (S43))) × Int × Int × Int) := (spec_NewStore.f).bind fun bt102 => ((spec_l00Src_size.f s0_0 s0_1 s0_2 10).bind fun bt107 => ((spec_l00Src_next.f s0_0 bt107.2.1 bt107.2.2 (wrap64 (bt107.1 + 4))).bind fun bt110 => (spec_l00Src_store.l0 k bt110.1 s0_0 bt110.2.1 bt110.2.2 bt102.1 bt102.2)))
def spec_l00Src_store.T7 : Bool × List (List Nat × List Nat) := (true, [([], []), ([], []), ([], []), ([2], [2]), ([3], [3]), ([1, 4], [1, 4]), ([0, 5, 5], [0, 5]), ([6], [6]), ([7], [7]), ([7], [7]), ([], []), ([10, 8, 6, 0, 1, 2, 3, 4, 5, 6, 7, 8, 10], [8, 10]), ([9, 11, 0, 1, 2, 3, 4, 5, 6, 7, 8, 9, 10, 11], [9])])
def spec_l00Src_store.B7 : List Nat := [0, 0, 0, 4, 12, 30, 63, 127, 255, 255, 0, 1535, 4095]
theorem spec_l00Src_store.tab7 : rtab .any (opsOf Try.f63 7) = spec_l00Src_store.T7 := by kernel_rfl
theorem spec_l00Src_store.bits7 : waitsOk spec_l00Src_store.T7.2 spec_l00Src_store.B7 = true := by kernel_rfl
def spec_l00Src_store.y0 := #[qf,qf,qf,qf,qf,qf,qf,qf,qf,qf,qf,qf,qf]
def spec_l00Src_store.y1 := #[qf,qt,qf,qf,qf,qf,qf,qf,qf,qf,qf,qf,qf]
def spec_l00Src_store.y2 := #[qf,qt,qt,qf,qf,qf,qf,qf,qf,qf,qf,qf,qf]
def spec_l00Src_store.y3 := #[qt,qt,qt,qf,qf,qf,qf,qf,qf,qf,qf,qf,qf]
def spec_l00Src_store.y4 := #[qt,qt,qt,qt,qf,qf,qf,qf,qf,qf,qf,qf,qf]
def spec_l00Src_store.y5 := #[qt,qt,qt,qt,qt,qf,qf,qf,qf,qf,qf,qf,qf]
def spec_l00Src_store.y6 := #[qt,qt,qt,qt,qt,qt,qt,qt,qt,qt,qt,qf,qf]
def spec_l00Src_store.y7 := #[qt,qt,qt,qt,qt,qt,qf,qf,qf,qf,qf,qf,qf]
def spec_l00Src_store.y8 := #[qt,qt,qt,qt,qt,qf,qf,qf,qf,qf,qt,qf,qf]
def spec_l00Src_store.y9 := #[qt,qt,qt,qt,qt,qt,qt,qf,qf,qf,qf,qf,qf]
def spec_l00Src_store.y10 := #[qt,qt,qt,qt,qt,qt,qf,qf,qf,qf,qt,qf,qf]
def spec_l00Src_store.y11 := #[qt,qt,qt,qt,qt,qt,qt,qt,qf,qf,qf,qf,qf]
def spec_l00Src_store.y12 := #[qt,qt,qt,qt,qt,qt,qt,qt,qt,qf,qf,qf,qf]
def spec_l00Src_store.y13 := #[qt,qt,qt,qt,qt,qt,qt,qt,qt,qt,qf,qf,qf]
def spec_l00Src_store.y14 := #[qt,qt,qt,qt,qt,qt,qt,qf,qf,qf,qt,qf,qf]
def spec_l00Src_store.y15 := #[qt,qt,qt,qt,qt,qt,qt,qt,qf,qf,qt,qf,qf]
def spec_l00Src_store.y16 := #[qt,qt,qt,qt,qt,qt,qt,qt,qt,qf,qt,qf,qf]
def spec_l00Src_store.y17 := #[qt,qt,qt,qt,qt,qt,qt,qt,qt,qt,qt,qt,qf]
def spec_l00Src_store.y18 := #[qt,qt,qt,qt,qt,qt,qt,qt,qt,qt,qt,qt,qt]
set_option maxHeartbeats 8000000 in
set_option maxRecDepth 100000 in
theorem spec_l00Src_store.calls (k : Nat) (g : Nat) (s0_0 : List Int) (s0_1 : Int) (s0_2 : Int) (r1 : List (List (S43))) (r2 : Int) (r3 : Int) (r4 : Int) (w0 w : World) (hI : IsS128 w0 w g s0_0 s0_1 s0_2) (hB : Below w0.heap.size w0 w) (h : spec_l00Src_store.f k s0_0 s0_1 s0_2 = some (r1, r2, r3, r4)) :
  Calls Try.prog 63 #[.pointer (some ⟨g, 0, none⟩)] w fun e w' => ∃ v0_ : Value, e = .returned (.agg #[v0_, .int .i64 r2]) ∧ Kd.S (Kd.slice 43 k43) 41 w' w.heap.size (fun _ => True) v0_ r1 ∧ IsS128 w0 w' g s0_0 r3 r4 ∧ Below w0.heap.size w0 w' ∧ KeepBut w w' g none := by
 have hu28 := Try.underlying28; have HI0 := qO hI; have HK := qO (KeepBut.refl w g none); have HL := qO hB.size; clear hI; have HW0 := qO hB.size; have HB := qO hB; clear hB; have H : ((spec_NewStore.f).bind fun bt102 => ((spec_l00Src_size.f s0_0 s0_1 s0_2 10).bind fun bt107 => ((spec_l00Src_next.f s0_0 bt107.2.1 bt107.2.2 (wrap64 (bt107.1 + 4))).bind fun bt110 => (spec_l00Src_store.l0 k bt110.1 s0_0 bt110.2.1 bt110.2.2 bt102.1 bt102.2)))) = some (r1, r2, r3, r4) := h; clear h; replace H := Option.bind_eq_some_iff.mp H; obtain ⟨⟨t102, t105⟩, A20, H⟩ := H; replace H : ((spec_l00Src_size.f s0_0 s0_1 s0_2 10).bind fun bt107 => ((spec_l00Src_next.f s0_0 bt107.2.1 bt107.2.2 (wrap64 (bt107.1 + 4))).bind fun bt110 => (spec_l00Src_store.l0 k bt110.1 s0_0 bt110.2.1 bt110.2.2 t102 t105))) = some (r1, r2, r3, r4) := H; have A2 := qO A20; clear A20; replace H := Option.bind_eq_some_iff.mp H; obtain ⟨⟨t107, t108, t109⟩, A30, H⟩ := H; replace H : ((spec_l00Src_next.f s0_0 t108 t109 (wrap64 (t107 + 4))).bind fun bt110 => (spec_l00Src_store.l0 k bt110.1 s0_0 bt110.2.1 bt110.2.2 t102 t105)) = some (r1, r2, r3, r4) := H; have A3 := qO A30; clear A30; replace H := Option.bind_eq_some_iff.mp H; obtain ⟨⟨t110, t111, t112⟩, A40, H⟩ := H; replace H : (spec_l00Src_store.l0 k t110 s0_0 t111 t112 t102 t105) = some (r1, r2, r3, r4) := H; have A4 := qO A40; clear A40; have H' := qO H; clear H
 go_enter Try.func63, Try.ntmps63
 go_wp2_with (first | ((with_reducible refine gate_dst (N := 2) rfl ?_); refine qX 2 #[.slice none 0 0, .int .i64 0] 28 ?_; intro gb101 hg w5 hbox hb; have BK101 := qO (hbox); have GW101 := qO ((qa65 : w.heap.size ≤ gb101)); have GE101 := qO ((Nat.le_trans HW0.out (qa65 : w.heap.size ≤ gb101) : w0.heap.size ≤ gb101)); have NB0_101 := qO ((by rw [hg]; exact Nat.ne_of_lt (IsS128.lt (show IsS128 w0 _ g s0_0 s0_1 s0_2 from by repeat (first | (with_reducible first | exact HI0.out | apply IsS128.alloc | apply IsS128.drewN | apply IsS128.drew | apply IsS128.set_1 | apply IsS128.set_2) | exact HI0.out))) : g ≠ gb101)); have NB101_0 := qO ((by rw [hg]; exact Nat.ne_of_gt (IsS128.lt (show IsS128 w0 _ g s0_0 s0_1 s0_2 from by repeat (first | (with_reducible first | exact HI0.out | apply IsS128.alloc | apply IsS128.drewN | apply IsS128.drew | apply IsS128.set_1 | apply IsS128.set_2) | exact HI0.out))) : gb101 ≠ g)); replace HK := qO (KeepBut.trans qa19 (KeepBut.of_below hb g none) (.inl rfl)); replace HB := qO (below_step qa22 hb); replace HI0 := qO (IsS128.below qa14 hb); clear hb hbox hg) | ((with_reducible refine gate_callee (f := 107) rfl ?_); refine goesL_ (some 7) rfl rfl Try.func107 qa6 rfl #[] rfl qa0 ?_; (with_reducible refine (spec_NewStore.calls  t102 t105 _ A2.out).mono ?_); rintro e w6 ⟨v103, rfl, ho0, hb⟩; refine ⟨_, rfl, ?_⟩; have HO104 := qO (Kd.S_lower ho0 (keep_size (w := w) (g := g) (row := none) qa41)); replace BK101 := qO (blk_below (g := gb101) (o := .cells #[.slice none 0 0, .int .i64 0] 28 (0, 0)) qa4 hb); replace HK := qO (KeepBut.trans qa41 (KeepBut.of_below hb g none) (.inl rfl)); replace HB := qO (below_step qa51 hb); replace HI0 := qO (IsS128.below qa43 hb); (try clear hb); (try clear hb2); (try clear hk); (try clear hi); (try clear ho0)) | ((with_reducible refine gate_dst (N := 3) rfl ?_); refine qX 3 #[.slice none 0 0, .int .i64 0] 28 ?_; intro gb106 hg w7 hbox hb; have BK106 := qO (hbox); have GW106 := qO ((qa140 : w.heap.size ≤ gb106)); have GE106 := qO ((Nat.le_trans HW0.out (qa140 : w.heap.size ≤ gb106) : w0.heap.size ≤ gb106)); have NB101_106 := qO ((qa95 : gb101 ≠ gb106)); have NB106_101 := qO (Ne.symm NB101_106.out); have NB0_106 := qO ((by rw [hg]; exact Nat.ne_of_lt (IsS128.lt (show IsS128 w0 _ g s0_0 s0_1 s0_2 from by repeat (first | (with_reducible first | exact HI0.out | apply IsS128.alloc | apply IsS128.drewN | apply IsS128.drew | apply IsS128.set_1 | apply IsS128.set_2 | refine IsS128.far ?_ NB0_101.out _) | exact HI0.out))) : g ≠ gb106)); have NB106_0 := qO ((by rw [hg]; exact Nat.ne_of_gt (IsS128.lt (show IsS128 w0 _ g s0_0 s0_1 s0_2 from by repeat (first | (with_reducible first | exact HI0.out | apply IsS128.alloc | apply IsS128.drewN | apply IsS128.drew | apply IsS128.set_1 | apply IsS128.set_2 | refine IsS128.far ?_ NB0_101.out _) | exact HI0.out))) : gb106 ≠ g)); replace HO104 := qO (Kd.S_below qa184 hb); replace BK101 := qO (blk_below (g := gb101) (o := .cells #[.slice none 0 0, .int .i64 0] 28 (0, 0)) qa4 hb); replace HK := qO (KeepBut.trans qa41 (KeepBut.of_below hb g none) (.inl rfl)); replace HB := qO (below_step qa51 hb); replace HI0 := qO (IsS128.below qa43 hb); clear hb hbox hg; obtain ⟨Ao8, co8, eo8⟩ := Kd.S_slice HO104.out; subst eo8; have hnb9 := NB106_101.out; have hnc9 := NB101_106.out; have hnb10 := NB106_0.out; have hnc10 := NB0_106.out; obtain ⟨hcz11_0, hcz11_1, hfz11_0, hfz11_1⟩ := qb2 BK106.out) | ((with_reducible refine gate_callee (f := 109) rfl ?_); refine goesL_ (some 10) rfl rfl Try.func109 qa6 rfl #[.pointer (some ⟨g, 0, none⟩), .int .i64 10] rfl qa0 ?_; (with_reducible refine (spec_l00Src_size.calls g s0_0 s0_1 s0_2 10 t107 t108 t109 w0 _ ?side1 ?side2 A3.out).mono ?_); (case side1 => exact qa13); (case side2 => exact qa27); rintro e w12 ⟨rfl, hi, hb, hk⟩; refine ⟨_, rfl, ?_⟩; replace BK101 := qO (KeepBut.blk hk (g' := gb101) (o := .cells #[.slice none 0 0, .int .i64 0] 28 (0, 0)) qa25 NB101_0.out qa119); replace HO104 := qO (Kd.S_mono (Kd.S_keep (IsS128.apartS (show IsS128 w0 _ g s0_0 s0_1 s0_2 from by repeat (first | (with_reducible first | exact HI0.out | apply IsS128.alloc | apply IsS128.drewN | apply IsS128.drew | apply IsS128.set_1 | apply IsS128.set_2 | refine IsS128.far ?_ NB0_101.out _ | refine IsS128.far ?_ NB0_106.out _) | exact HI0.out)) (by (with_reducible repeat (first | apply Kd.S_alloc | apply Kd.S_drewN | apply Kd.S_drew)); exact (Kd.S_mono (Kd.S_far (p := ⟨gb106, 1, none⟩) (Kd.S_far (p := ⟨gb106, 0, none⟩) (Kd.S_types HO104.out BK106.out (by decide)) (fun _ hk => hk.2) (.slice Ao8 t102.length co8)) (fun _ hk => hk.2) (.int .i64 t105)) (fun _ h_ => h_.1))) qa60) hk (fun _ h => h.2)) (fun _ h => h.1)); replace BK106 := qO (KeepBut.blk hk (g' := gb106) (o := .cells #[.slice Ao8 t102.length co8, .int .i64 t105] 28 (0, 0)) (by (with_reducible repeat (first | refine qkN ?_ _ | refine qkD ?_ | refine qkA ?_ _)); refine blk_put (cs := #[.slice Ao8 t102.length co8, .int .i64 0]) ?_ 1 _ rfl; (with_reducible repeat (first | refine qkN ?_ _ | refine qkD ?_ | refine qkA ?_ _)); refine blk_put (cs := #[.slice none 0 0, .int .i64 0]) ?_ 0 _ rfl; (with_reducible repeat (first | refine qkN ?_ _ | refine qkD ?_ | refine qkA ?_ _)); exact BK106.out) NB106_0.out qa119); replace HK := qO (KeepBut.trans qa12 hk (.inl rfl)); replace HB := qO (hb); replace HI0 := qO (hi); (try clear hb); (try clear hb2); (try clear hk); (try clear hi)) | ((with_reducible refine gate_callee (f := 108) rfl ?_); refine goesL_ (some 12) rfl rfl Try.func108 qa6 rfl #[.pointer (some ⟨g, 0, none⟩), .int .i64 (wrap64 (t107 + 4))] rfl qa0 ?_; (with_reducible refine (spec_l00Src_next.calls g s0_0 t108 t109 (wrap64 (t107 + 4)) t110 t111 t112 w0 _ ?side1 ?side2 A4.out).mono ?_); (case side1 => exact qa13); (case side2 => exact qa27); rintro e w13 ⟨rfl, hi, hb, hk⟩; refine ⟨_, rfl, ?_⟩; replace BK101 := qO (KeepBut.blk hk (g' := gb101) (o := .cells #[.slice none 0 0, .int .i64 0] 28 (0, 0)) qa4 NB101_0.out qa119); replace HO104 := qO (Kd.S_mono (Kd.S_keep (IsS128.apartS (show IsS128 w0 _ g s0_0 t108 t109 from by repeat (first | (with_reducible first | exact HI0.out | apply IsS128.alloc | apply IsS128.drewN | apply IsS128.drew | apply IsS128.set_1 | apply IsS128.set_2 | refine IsS128.far ?_ NB0_101.out _ | refine IsS128.far ?_ NB0_106.out _) | exact HI0.out)) qa184 qa60) hk (fun _ h => h.2)) (fun _ h => h.1)); replace BK106 := qO (KeepBut.blk hk (g' := gb106) (o := .cells #[.slice Ao8 t102.length co8, .int .i64 t105] 28 (0, 0)) qa32 NB106_0.out qa119); replace HK := qO (KeepBut.trans qa12 hk (.inl rfl)); replace HB := qO (hb); replace HI0 := qO (hi); (try clear hb); (try clear hb2); (try clear hk); (try clear hi)))
 go_loopg [4] k (fun kq v4 w' => ∃ (x4_1 : Int) (x1001_1 : Int) (x1002_1 : Int) (x107000_1 : List (List (S43))) (x107001_1 : Int) (u107000 : Value), v4 = .int .i64 x4_1 ∧ Aside0 (spec_l00Src_store.l0 kq x4_1 s0_0 x1001_1 x1002_1 x107000_1 x107001_1 = some (r1, r2, r3, r4)) ∧ Aside0 (kq ≤ k) ∧ Aside0 (Kd.V (Kd.slice 43 k43) 41 w' w.heap.size (fun k_ => k_ ≠ gb101 ∧ k_ ≠ gb106 ∧ k_ ≠ g) u107000 x107000_1) ∧ Aside0 (w'.heap[gb101]? = some (.cells #[(.slice none 0 0), .int .i64 0] 28 (0, 0))) ∧ Aside0 (w'.heap[gb106]? = some (.cells #[u107000, .int .i64 x107001_1] 28 (0, 0))) ∧ Aside0 (IsS128 w0 w' g s0_0 x1001_1 x1002_1) ∧ Aside0 (KeepBut w w' g none) ∧ Aside0 (Below w0.heap.size w0 w'))
 case atStart => exact ⟨(t110), (t111), (t112), (t102), (t105), (.slice Ao8 t102.length co8), qa16, H', ⟨Nat.le_refl _⟩, ⟨Kd.S_V (by (with_reducible repeat (first | apply Kd.S_alloc | apply Kd.S_drewN | apply Kd.S_drew)); exact Kd.S_mono (IsS128.apartS HI0.out (Kd.S_types (Kd.S_types HO104.out BK101.out (by decide)) BK106.out (by decide)) (by decide)) (fun _ hk => ⟨hk.1.1.2, ⟨hk.1.2, hk.2⟩⟩))⟩, ⟨qa4⟩, ⟨qa32⟩, ⟨qa13⟩, ⟨qa12⟩, ⟨qa27⟩⟩
 case round =>
  clear H'
  try clear c1
  try clear p2
  try clear c6
  try clear p6
  try clear c9
  try clear c10
  try clear hcz11_0
  try clear hcz11_1
  try clear hfz11_0
  try clear hfz11_1
  obtain ⟨x4_1, x1001_1, x1002_1, x107000_1, x107001_1, u107000, rfl, HA, HK1, HO_107000, BK101, BK106, HI0, HK, HB⟩ := hrel
  cases gk with
  | zero => exact absurd HA.out (by simp [spec_l00Src_store.l0])
  | succ k1 =>
   have H := HA.out; clear HA; simp only [spec_l00Src_store.l0] at H
   by_cases c14 : x4_1 > 0
   ·rw [if_pos c14] at H
    have c14b0 : decide (0 < x4_1) = true := decide_eq_true c14; clear c14; replace H := Option.bind_eq_some_iff.mp H; obtain ⟨⟨t117, t120, t121⟩, A150, H⟩ := H; replace H : ((spec_l06Write.f k1 x107000_1 x107001_1 t117).bind fun bt122 => ((spec_l00Src_chance.f s0_0 t120 t121 6).bind fun bt126 => (if bt126.1 = true then ((spec_l00Src_next.f s0_0 bt126.2.1 bt126.2.2 (wrap64 (bt122.2 + 1))).bind fun bt129 => ((spec_l06Forget.f k1 bt122.1 bt122.2 bt129.1).bind fun bt132 => (spec_l00Src_store.l0 k1 (wrap64 (x4_1 - 1)) s0_0 bt129.2.1 bt129.2.2 bt132.1 bt132.2.1))) else (spec_l00Src_store.l0 k1 (wrap64 (x4_1 - 1)) s0_0 bt126.2.1 bt126.2.2 bt122.1 bt122.2)))) = some (r1, r2, r3, r4) := H; have A15 := qO A150; clear A150; replace H := Option.bind_eq_some_iff.mp H; obtain ⟨⟨t122, t125⟩, A160, H⟩ := H; replace H : ((spec_l00Src_chance.f s0_0 t120 t121 6).bind fun bt126 => (if bt126.1 = true then ((spec_l00Src_next.f s0_0 bt126.2.1 bt126.2.2 (wrap64 (t125 + 1))).bind fun bt129 => ((spec_l06Forget.f k1 t122 t125 bt129.1).bind fun bt132 => (spec_l00Src_store.l0 k1 (wrap64 (x4_1 - 1)) s0_0 bt129.2.1 bt129.2.2 bt132.1 bt132.2.1))) else (spec_l00Src_store.l0 k1 (wrap64 (x4_1 - 1)) s0_0 bt126.2.1 bt126.2.2 t122 t125))) = some (r1, r2, r3, r4) := H; have A16 := qO A160; clear A160; replace H := Option.bind_eq_some_iff.mp H; obtain ⟨⟨t126, t127, t128⟩, A170, H⟩ := H; replace H : (if t126 = true then ((spec_l00Src_next.f s0_0 t127 t128 (wrap64 (t125 + 1))).bind fun bt129 => ((spec_l06Forget.f k1 t122 t125 bt129.1).bind fun bt132 => (spec_l00Src_store.l0 k1 (wrap64 (x4_1 - 1)) s0_0 bt129.2.1 bt129.2.2 bt132.1 bt132.2.1))) else (spec_l00Src_store.l0 k1 (wrap64 (x4_1 - 1)) s0_0 t127 t128 t122 t125)) = some (r1, r2, r3, r4) := H; have A17 := qO A170; clear A170
    by_cases c18 : t126 = true
    ·subst c18
     have H1 : ((spec_l00Src_next.f s0_0 t127 t128 (wrap64 (t125 + 1))).bind fun bt129 => ((spec_l06Forget.f k1 t122 t125 bt129.1).bind fun bt132 => (spec_l00Src_store.l0 k1 (wrap64 (x4_1 - 1)) s0_0 bt129.2.1 bt129.2.2 bt132.1 bt132.2.1))) = some (r1, r2, r3, r4) := by rw [if_pos rfl] at H; exact H
     clear H; have H := H1; clear H1; replace H := Option.bind_eq_some_iff.mp H; obtain ⟨⟨t129, t130, t131⟩, A190, H⟩ := H; replace H : ((spec_l06Forget.f k1 t122 t125 t129).bind fun bt132 => (spec_l00Src_store.l0 k1 (wrap64 (x4_1 - 1)) s0_0 t130 t131 bt132.1 bt132.2.1)) = some (r1, r2, r3, r4) := H; have A19 := qO A190; clear A190; replace H := Option.bind_eq_some_iff.mp H; obtain ⟨⟨t132, t135, t136⟩, A200, H⟩ := H; replace H : (spec_l00Src_store.l0 k1 (wrap64 (x4_1 - 1)) s0_0 t130 t131 t132 t135) = some (r1, r2, r3, r4) := H; have A20 := qO A200; clear A200; have H' := qO H; clear H
     try go_wp2
     replace HO_107000 := qO (Kd.V_drew HO_107000.out); replace BK101 := qO (qkD BK101.out); replace BK106 := qO (qkD BK106.out); replace HI0 := qO (IsS128.drew HI0.out); replace HK := qO (keep_drew HK.out); replace HB := qO (qbD HB.out); refine start_ (n := 5) (S := fun w' => w'.cell? ⟨gb106, 0, none⟩ = some (u107000) ∧ w'.cell? ⟨gb106, 1, none⟩ = some (.int .i64 x107001_1)) (ds := [4]) #[qf,qf,qf,qf,qf] qa6 rfl rfl ⟨qc0 BK106.out, qc1 BK106.out⟩ (fun hHeld => ?_); generalize wr.drew = w21 at HO_107000 BK101 BK106 HI0 HK HB hHeld ⊢; refine qPu 1 18 #[qf,qt,qf,qf,qf] rfl rfl qa6 qa8 qa3 ?_; refine qTk 0 17 #[qt,qt,qf,qf,qf] rfl rfl qa6 qa101 hHeld qa3 ?_; refine one_ (i := 2) (N := some 19) #[qt,qt,qt,qf,qf] rfl rfl qa6 qa60 (fun K hK => ?_); refine goes_ Try.func78 qa6 rfl #[.pointer (some ⟨g, 0, none⟩)] (by rfl) rfl rfl qa0 ?_; (with_reducible refine (spec_l00Src_puts.calls k1 g s0_0 x1001_1 x1002_1 t117 t120 t121 w0 _ ?side1 ?side2 A15.out).mono ?_); (case side1 => exact qa13); (case side2 => exact qa27); rintro e w22 ⟨v118, rfl, ho0, hi, hb, hk⟩; refine ⟨_, rfl, ?_⟩; have HO119 := qO (Kd.R_lower ho0 (keep_size (w := w) (g := g) (row := none) qa12)); replace HO_107000 := qO (Kd.V_mono (Kd.V_told (Kd.V_oldK (Kd.V_mono (ok := fun k_ => (k_ ≠ gb101 ∧ (k_ ≠ gb106 ∧ k_ ≠ g))) qa58 (fun k_ hk_ => (⟨hk_, hk_.2.2⟩ : _ ∧ k_ ≠ g))) hk) (Kd.R_base ho0)) (fun _ h_ => h_.1)); replace BK101 := qO (KeepBut.blk hk (g' := gb101) (o := .cells #[.slice none 0 0, .int .i64 0] 28 (0, 0)) qa4 NB101_0.out qa119); replace BK106 := qO (KeepBut.blk hk (g' := gb106) (o := .cells #[u107000, .int .i64 x107001_1] 28 (0, 0)) qa32 NB106_0.out qa119); replace HK := qO (KeepBut.trans qa12 hk (.inl rfl)); replace HB := qO (hb); replace HI0 := qO (hi); (try clear hb); (try clear hb2); (try clear hk); (try clear hi); (try clear ho0); obtain ⟨Ao23, co23, eo23⟩ := Kd.V_slice HO_107000.out; (first | subst eo23 | (injection eo23 with f1_ f2_ f3_; have f4_ := f1_.symm; have f5_ := f3_.symm; clear f1_ f2_ f3_; subst f4_; subst f5_)); obtain ⟨Ao24, co24, eo24⟩ := Kd.R_slice HO119.out; (first | subst eo24 | (injection eo24 with f1_ f2_ f3_; have f4_ := f1_.symm; have f5_ := f3_.symm; clear f1_ f2_ f3_; subst f4_; subst f5_)); refine hK.out _ _ ⟨qc0 BK106.out, qc1 BK106.out⟩ (fun hHeld => ?_); clear hK K; refine norm_ (a' := ?_) ?_ ?_; rotate_left
     ·exact qa15
     refine one_ (i := 3) (N := some 20) #[qt,qt,qt,qt,qf] rfl rfl qa6 qa60 (fun K hK => ?_); refine goes_ Try.func73 qa6 rfl #[.agg #[.slice Ao23 x107000_1.length co23, .int .i64 x107001_1], .slice Ao24 t117.length co24] (by rfl) rfl rfl qa0 ?_; (with_reducible refine (spec_l06Write.calls k1 (fun k_ => ((k_ ≠ gb101 ∧ (k_ ≠ gb106 ∧ k_ ≠ g)) ∧ some k_ ≠ (.slice Ao24 t117.length co24 : Value).ownBlock)) _ _ x107000_1 x107001_1 _ _ t117 t122 t125 _ ?side1 ?side2 ?side3 A16.out).mono ?_); (case side1 => exact HO_107000.out); (case side2 => exact qa174); (case side3 => exact (Kd.R_reads' HO119.out).2.1); rintro e w25 ⟨v123, rfl, ho0, hb⟩; refine ⟨_, rfl, ?_⟩; have HO124 := qO (Kd.V_lower (Kd.V_mono (ok' := fun k_ => some k_ ≠ (.slice Ao24 t117.length co24 : Value).ownBlock ∧ k_ ≠ gb101 ∧ k_ ≠ gb106 ∧ k_ ≠ g) ho0 (fun k_ hk_ => ⟨Or.elim hk_ (fun hs_ => hs_.2) (fun hn_ => (Kd.fresh' (Kd.R_lt qa66) k_ hn_)), Or.elim hk_ (fun hs_ => hs_.1.1) (fun hn_ => (Kd.freshB (g := gb101) (o := .cells #[.slice none 0 0, .int .i64 0] 28 (0, 0)) qa4 k_ hn_)), Or.elim hk_ (fun hs_ => hs_.1.2.1) (fun hn_ => (Kd.freshB (g := gb106) (o := .cells #[.slice Ao23 x107000_1.length co23, .int .i64 x107001_1] 28 (0, 0)) qa32 k_ hn_)), Or.elim hk_ (fun hs_ => hs_.1.2.2) (fun hn_ => (IsS128.fresh qa13 k_ hn_))⟩)) (keep_size (w := w) (g := g) (row := none) qa12)); replace HO_107000 := qO (Kd.V_below qa58 hb); replace HO119 := qO (Kd.R_below qa66 hb); replace BK101 := qO (blk_below (g := gb101) (o := .cells #[.slice none 0 0, .int .i64 0] 28 (0, 0)) qa4 hb); replace BK106 := qO (blk_below (g := gb106) (o := .cells #[.slice Ao23 x107000_1.length co23, .int .i64 x107001_1] 28 (0, 0)) qa32 hb); replace HK := qO (KeepBut.trans qa12 (KeepBut.of_below hb g none) (.inl rfl)); replace HB := qO (below_step qa27 hb); replace HI0 := qO (IsS128.below qa13 hb); (try clear hb); (try clear hb2); (try clear hk); (try clear hi); (try clear ho0); obtain ⟨Ao26, co26, eo26⟩ := Kd.V_slice HO124.out; (first | subst eo26 | (injection eo26 with f1_ f2_ f3_; have f4_ := f1_.symm; have f5_ := f3_.symm; clear f1_ f2_ f3_; subst f4_; subst f5_)); refine hK.out _ _ ⟨qc0 BK106.out, qc1 BK106.out⟩ (fun hHeld => ?_); clear hK K; refine norm_ (a' := ?_) ?_ ?_; rotate_left
     ·exact qa15
     refine last_ (i := 4) (N := none) #[qt,qt,qt,qt,qt] rfl rfl qa6 qa60 (fun K hK => ?_); have hs27 := qc0 BK106.out; have hfs27 := blk_frozen BK106.out 0; have hns27_0 := NB101_106.out; have hms27_0 := NB106_101.out; have hs28 := qc1 BK106.out; have hfs28 := blk_frozen BK106.out 1; have hns28_0 := NB101_106.out; have hms28_0 := NB106_101.out; refine skip_ (w1 := ?_) (by rfl) rfl ?_ ?_; rotate_left
     ·go_simp
      rfl
     refine hK.out _ _ ?_; clear hK K; refine done_ qa6 ?_
     try go_wp2_with (first | ((with_reducible refine gate_callee (f := 110) rfl ?_); refine goesL_ (some 22) rfl rfl Try.func110 qa6 rfl #[.pointer (some ⟨g, 0, none⟩), .int .i64 6] rfl qa0 ?_; (with_reducible refine (spec_l00Src_chance.calls g s0_0 t120 t121 6 true t127 t128 w0 _ ?side1 ?side2 A17.out).mono ?_); (case side1 => exact qa13); (case side2 => exact qa27); rintro e w29 ⟨rfl, hi, hb, hk⟩; refine ⟨_, rfl, ?_⟩; replace HO_107000 := qO (Kd.V_mono (Kd.V_keep (Kd.V_mono (ok := fun k_ => ((k_ ≠ gb101 ∧ (k_ ≠ gb106 ∧ k_ ≠ g)) ∧ some k_ ≠ (.slice Ao24 t117.length co24 : Value).ownBlock)) (by (with_reducible repeat (first | apply Kd.V_alloc | apply Kd.V_drewN | apply Kd.V_drew)); exact (Kd.V_mono (Kd.V_far (p := ⟨gb106, 1, none⟩) (Kd.V_far (p := ⟨gb106, 0, none⟩) (Kd.V_mono HO_107000.out (fun k_ hk => (⟨hk, hk.1.2.1⟩ : _ ∧ k_ ≠ gb106))) (fun _ hk => hk.2) (.slice Ao26 t122.length co26)) (fun _ hk => hk.2) (.int .i64 t125)) (fun _ h_ => h_.1))) (fun k_ hk_ => (⟨hk_, hk_.1.2.2⟩ : _ ∧ k_ ≠ g))) hk (fun _ h => h.2)) (fun _ h => h.1)); replace BK101 := qO (KeepBut.blk hk (g' := gb101) (o := .cells #[.slice none 0 0, .int .i64 0] 28 (0, 0)) qa25 NB101_0.out qa119); replace HO119 := qO (Kd.R_mono (Kd.R_keep (IsS128.apart (show IsS128 w0 _ g s0_0 t120 t121 from by repeat (first | (with_reducible first | exact HI0.out | apply IsS128.alloc | apply IsS128.drewN | apply IsS128.drew | apply IsS128.set_1 | apply IsS128.set_2 | refine IsS128.far ?_ NB0_101.out _ | refine IsS128.far ?_ NB0_106.out _) | exact HI0.out)) (by (with_reducible repeat (first | apply Kd.R_alloc | apply Kd.R_drewN | apply Kd.R_drew)); exact (Kd.R_mono (Kd.R_far (p := ⟨gb106, 1, none⟩) (Kd.R_far (p := ⟨gb106, 0, none⟩) (Kd.R_types HO119.out BK106.out (by decide)) (fun _ hk => hk.2) (.slice Ao26 t122.length co26)) (fun _ hk => hk.2) (.int .i64 t125)) (fun _ h_ => h_.1))) qa60) hk (fun _ h => h.2)) (fun _ h => h.1)); replace BK106 := qO (KeepBut.blk hk (g' := gb106) (o := .cells #[.slice Ao26 t122.length co26, .int .i64 t125] 28 (0, 0)) (by (with_reducible repeat (first | refine qkN ?_ _ | refine qkD ?_ | refine qkA ?_ _)); refine blk_put (cs := #[.slice Ao26 t122.length co26, .int .i64 x107001_1]) ?_ 1 _ rfl; (with_reducible repeat (first | refine qkN ?_ _ | refine qkD ?_ | refine qkA ?_ _)); refine blk_put (cs := #[.slice Ao23 x107000_1.length co23, .int .i64 x107001_1]) ?_ 0 _ rfl; (with_reducible repeat (first | refine qkN ?_ _ | refine qkD ?_ | refine qkA ?_ _)); exact BK106.out) NB106_0.out qa119); replace HO124 := qO (Kd.V_mono (Kd.V_keep (Kd.V_mono (ok := fun k_ => (some k_ ≠ (.slice Ao24 t117.length co24 : Value).ownBlock ∧ (k_ ≠ gb101 ∧ (k_ ≠ gb106 ∧ k_ ≠ g)))) (by (with_reducible repeat (first | apply Kd.V_alloc | apply Kd.V_drewN | apply Kd.V_drew)); exact (Kd.V_mono (Kd.V_far (p := ⟨gb106, 1, none⟩) (Kd.V_far (p := ⟨gb106, 0, none⟩) (Kd.V_mono HO124.out (fun k_ hk => (⟨hk, hk.2.2.1⟩ : _ ∧ k_ ≠ gb106))) (fun _ hk => hk.2) (.slice Ao26 t122.length co26)) (fun _ hk => hk.2) (.int .i64 t125)) (fun _ h_ => h_.1))) (fun k_ hk_ => (⟨hk_, hk_.2.2.2⟩ : _ ∧ k_ ≠ g))) hk (fun _ h => h.2)) (fun _ h => h.1)); replace HK := qO (KeepBut.trans qa12 hk (.inl rfl)); replace HB := qO (hb); replace HI0 := qO (hi); (try clear hb); (try clear hb2); (try clear hk); (try clear hi)))
     replace HO_107000 := qO (Kd.V_drew HO_107000.out); replace HO119 := qO (Kd.R_drew HO119.out); replace HO124 := qO (Kd.V_drew HO124.out); replace BK101 := qO (qkD BK101.out); replace BK106 := qO (qkD BK106.out); replace HI0 := qO (IsS128.drew HI0.out); replace HK := qO (keep_drew HK.out); replace HB := qO (qbD HB.out); refine start_ (n := 13) (S := fun w' => w'.cell? ⟨gb106, 0, none⟩ = some (.slice Ao26 t122.length co26) ∧ w'.cell? ⟨gb106, 1, none⟩ = some (.int .i64 t125)) (ds := []) spec_l00Src_store.y0 qa6 rfl rfl ⟨qc0 BK106.out, qc1 BK106.out⟩ (fun hHeld => ?_); refine with_tabW spec_l00Src_store.tab7 spec_l00Src_store.bits7 (fun HT_ HW_ => ?_); generalize w29.drew = w30 at HO_107000 HO119 HO124 BK101 BK106 HI0 HK HB hHeld ⊢; refine qPu 1 25 spec_l00Src_store.y1 rfl rfl (any_of HT_.out qa6) qa8 qa3 ?_; refine qPu 2 26 spec_l00Src_store.y2 rfl rfl (any_of HT_.out qa6) qa8 qa3 ?_; refine qTk 0 24 spec_l00Src_store.y3 rfl rfl (take_ofW HT_.out HW_.out qa6) qa101 hHeld qa3 ?_; refine qTk 3 27 spec_l00Src_store.y4 rfl rfl (take_ofW HT_.out HW_.out qa6) qa101 hHeld qa3 ?_; refine qPu 4 28 spec_l00Src_store.y5 rfl rfl (any_of HT_.out qa6) qa8 qa3 ?_; refine join_ (σ := Value × Nat) 2 spec_l00Src_store.y6 (fun s_ => [(29, .int .i64 t129), (30, .tuple #[.agg #[s_.1, .int .i64 t135], .int .i64 t136]), (5, .pointer (some ⟨s_.2, 0, none⟩)), (23, .tuple #[.agg #[s_.1, .int .i64 t135], .int .i64 t136]), (31, .agg #[s_.1, .int .i64 t135]), (32, .int .i64 t136)]) (fun s_ w' => (w'.cell? ⟨gb106, 0, none⟩ = some (.slice Ao26 t122.length co26) ∧ w'.cell? ⟨gb106, 1, none⟩ = some (.int .i64 t125)) ∧ (Kd.R k58 58 w' w.heap.size (fun _ => True) (.slice Ao24 t117.length co24) t117) ∧ (Kd.V (Kd.slice 43 k43) 41 w' w.heap.size (fun k_ => some k_ ≠ (.slice Ao24 t117.length co24 : Value).ownBlock ∧ some k_ ≠ (s_.1 : Value).ownBlock ∧ k_ ≠ g ∧ k_ ≠ gb101 ∧ k_ ≠ gb106 ∧ k_ ≠ s_.2) (.slice Ao26 t122.length co26) t122) ∧ (Kd.S (Kd.slice 43 k43) 41 w' w.heap.size (fun _ => True) s_.1 t132) ∧ (Kd.V (Kd.slice 43 k43) 41 w' w.heap.size (fun k_ => some k_ ≠ (.slice Ao24 t117.length co24 : Value).ownBlock ∧ some k_ ≠ (s_.1 : Value).ownBlock ∧ k_ ≠ g ∧ k_ ≠ gb101 ∧ k_ ≠ gb106 ∧ k_ ≠ s_.2) (.slice Ao23 x107000_1.length co23) x107000_1) ∧ (w'.heap[gb101]? = some (.cells #[.slice none 0 0, .int .i64 0] 28 (0, 0))) ∧ (w'.heap[gb106]? = some (.cells #[.slice Ao26 t122.length co26, .int .i64 t125] 28 (0, 0))) ∧ (w'.heap[s_.2]? = some (.cells #[.slice none 0 0, .int .i64 0] 28 (0, 0))) ∧ (w.heap.size ≤ s_.2) ∧ (w0.heap.size ≤ s_.2) ∧ (g ≠ s_.2) ∧ (s_.2 ≠ g) ∧ (gb101 ≠ s_.2) ∧ (s_.2 ≠ gb101) ∧ (gb106 ≠ s_.2) ∧ (s_.2 ≠ gb106) ∧ (IsS128 w0 w' g s0_0 t130 t131) ∧ (KeepBut w w' g none) ∧ (Below w0.heap.size w0 w')) ?_ ?_; rotate_left
     ·intro hCont
      refine two_ (i := 5) (j := 10) (Ni := some 29) (Nj := some 5) spec_l00Src_store.y7 spec_l00Src_store.y8 rfl rfl rfl rfl (two_of HT_.out qa6) qa60 qa60 (fun K hK => ?_) (fun K hK => ?_)
      ·skip
       refine goes_ Try.func108 qa6 rfl #[.pointer (some ⟨g, 0, none⟩), .int .i64 (wrap64 (t125 + 1))] (by rfl) rfl rfl qa0 ?_; (with_reducible refine (spec_l00Src_next.calls g s0_0 t127 t128 (wrap64 (t125 + 1)) t129 t130 t131 w0 _ ?side1 ?side2 A19.out).mono ?_); (case side1 => exact qa13); (case side2 => exact qa27); rintro e w31 ⟨rfl, hi, hb, hk⟩; refine ⟨_, rfl, ?_⟩; replace HO_107000 := qO (Kd.V_mono (Kd.V_keep (Kd.V_mono (ok := fun k_ => ((k_ ≠ gb101 ∧ (k_ ≠ gb106 ∧ k_ ≠ g)) ∧ some k_ ≠ (.slice Ao24 t117.length co24 : Value).ownBlock)) qa58 (fun k_ hk_ => (⟨hk_, hk_.1.2.2⟩ : _ ∧ k_ ≠ g))) hk (fun _ h => h.2)) (fun _ h => h.1)); replace BK101 := qO (KeepBut.blk hk (g' := gb101) (o := .cells #[.slice none 0 0, .int .i64 0] 28 (0, 0)) qa4 NB101_0.out qa119); replace BK106 := qO (KeepBut.blk hk (g' := gb106) (o := .cells #[.slice Ao26 t122.length co26, .int .i64 t125] 28 (0, 0)) qa32 NB106_0.out qa119); replace HO119 := qO (Kd.R_mono (Kd.R_keep (IsS128.apart (show IsS128 w0 _ g s0_0 t127 t128 from by repeat (first | (with_reducible first | exact HI0.out | apply IsS128.alloc | apply IsS128.drewN | apply IsS128.drew | apply IsS128.set_1 | apply IsS128.set_2 | refine IsS128.far ?_ NB0_101.out _ | refine IsS128.far ?_ NB0_106.out _) | exact HI0.out)) qa66 qa60) hk (fun _ h => h.2)) (fun _ h => h.1)); replace HO124 := qO (Kd.V_mono (Kd.V_keep (Kd.V_mono (ok := fun k_ => (some k_ ≠ (.slice Ao24 t117.length co24 : Value).ownBlock ∧ (k_ ≠ gb101 ∧ (k_ ≠ gb106 ∧ k_ ≠ g)))) qa96 (fun k_ hk_ => (⟨hk_, hk_.2.2.2⟩ : _ ∧ k_ ≠ g))) hk (fun _ h => h.2)) (fun _ h => h.1)); replace HK := qO (KeepBut.trans qa12 hk (.inl rfl)); replace HB := qO (hb); replace HI0 := qO (hi); (try clear hb); (try clear hb2); (try clear hk); (try clear hi); refine hK.out _ _ ⟨qc0 BK106.out, qc1 BK106.out⟩ (fun hHeld => ?_); clear hK K; refine norm_ (a' := ?_) ?_ ?_; rotate_left
       ·exact qa15
       refine two_ (i := 6) (j := 10) (Ni := some 30) (Nj := some 5) spec_l00Src_store.y9 spec_l00Src_store.y10 rfl rfl rfl rfl (two_of HT_.out qa6) qa60 qa60 (fun K hK => ?_) (fun K hK => ?_)
       ·skip
        refine goes_ Try.func55 qa6 rfl #[.agg #[.slice Ao26 t122.length co26, .int .i64 t125], .int .i64 t129] (by rfl) rfl rfl qa0 ?_; (with_reducible refine (spec_l06Forget.calls k1 _ _ t122 t125 t129 t132 t135 t136 _ ?side1 ?side2 A20.out).mono ?_); (case side1 => exact qa148); (case side2 => exact (Kd.V_reads' HO124.out).2.1); rintro e w32 ⟨v133, rfl, ho0, hb⟩; refine ⟨_, rfl, ?_⟩; have HO134 := qO (Kd.S_lower ho0 (keep_size (w := w) (g := g) (row := none) qa12)); replace HO_107000 := qO (Kd.V_elder' qa58 (Kd.S_base ho0) hb); replace HO119 := qO (Kd.R_below qa66 hb); replace HO124 := qO (Kd.V_elder' qa96 (Kd.S_base ho0) hb); replace BK101 := qO (blk_below (g := gb101) (o := .cells #[.slice none 0 0, .int .i64 0] 28 (0, 0)) qa4 hb); replace BK106 := qO (blk_below (g := gb106) (o := .cells #[.slice Ao26 t122.length co26, .int .i64 t125] 28 (0, 0)) qa32 hb); replace HK := qO (KeepBut.trans qa12 (KeepBut.of_below hb g none) (.inl rfl)); replace HB := qO (below_step qa27 hb); replace HI0 := qO (IsS128.below qa13 hb); (try clear hb); (try clear hb2); (try clear hk); (try clear hi); (try clear ho0); refine hK.out _ _ ⟨qc0 BK106.out, qc1 BK106.out⟩ (fun hHeld => ?_); clear hK K; refine norm_ (a' := ?_) ?_ ?_; rotate_left
        ·exact qa15
        refine qPu 7 23 spec_l00Src_store.y11 rfl rfl (any_of HT_.out qa6) qa8 qa3 ?_; refine qPu 8 31 spec_l00Src_store.y12 rfl rfl (any_of HT_.out qa6) qa8 qa3 ?_; refine qPu 9 32 spec_l00Src_store.y13 rfl rfl (any_of HT_.out qa6) qa8 qa3 ?_; refine one_ (i := 10) (N := some 5) spec_l00Src_store.y6 rfl rfl (one_of HT_.out qa6) qa60 (fun K hK => ?_); refine box_step ?hg (N := 5) ?hd (cs := #[.slice none 0 0, .int .i64 0]) (t := 28) ?hr ?_; (case hd => rfl); (case hg => rfl); (case hr => exact qa18); intro gb137 hg w33 hbox hb; have BK137 := qO (hbox); have GW137 := qO ((qa50 : w.heap.size ≤ gb137)); have GE137 := qO ((Nat.le_trans HW0.out (qa50 : w.heap.size ≤ gb137) : w0.heap.size ≤ gb137)); have NB101_137 := qO ((qa95 : gb101 ≠ gb137)); have NB137_101 := qO (Ne.symm NB101_137.out); have NB106_137 := qO ((qa110 : gb106 ≠ gb137)); have NB137_106 := qO (Ne.symm NB106_137.out); have NB0_137 := qO ((by rw [hg]; exact Nat.ne_of_lt (IsS128.lt (show IsS128 w0 _ g s0_0 t130 t131 from by repeat (first | (with_reducible first | exact HI0.out | apply IsS128.alloc | apply IsS128.drewN | apply IsS128.drew | apply IsS128.set_1 | apply IsS128.set_2 | refine IsS128.far ?_ NB0_101.out _ | refine IsS128.far ?_ NB0_106.out _) | exact HI0.out))) : g ≠ gb137)); have NB137_0 := qO ((by rw [hg]; exact Nat.ne_of_gt (IsS128.lt (show IsS128 w0 _ g s0_0 t130 t131 from by repeat (first | (with_reducible first | exact HI0.out | apply IsS128.alloc | apply IsS128.drewN | apply IsS128.drew | apply IsS128.set_1 | apply IsS128.set_2 | refine IsS128.far ?_ NB0_101.out _ | refine IsS128.far ?_ NB0_106.out _) | exact HI0.out))) : gb137 ≠ g)); replace HO_107000 := qO (Kd.V_below (Kd.V_elderB qa58 gb137 (Nat.le_of_eq hg.symm)) hb); replace HO119 := qO (Kd.R_below qa66 hb); replace HO124 := qO (Kd.V_below (Kd.V_elderB qa96 gb137 (Nat.le_of_eq hg.symm)) hb); replace HO134 := qO (Kd.S_below (by (with_reducible repeat (first | apply Kd.S_alloc | apply Kd.S_drewN | apply Kd.S_drew)); exact HO134.out) hb); replace BK101 := qO (blk_below (g := gb101) (o := .cells #[.slice none 0 0, .int .i64 0] 28 (0, 0)) qa4 hb); replace BK106 := qO (blk_below (g := gb106) (o := .cells #[.slice Ao26 t122.length co26, .int .i64 t125] 28 (0, 0)) qa32 hb); replace HK := qO (KeepBut.trans qa12 (KeepBut.of_below hb g none) (.inl rfl)); replace HB := qO (below_step qa27 hb); replace HI0 := qO (IsS128.below qa13 hb); clear hb hbox hg; refine hK.out _ _ ⟨qc0 BK106.out, qc1 BK106.out⟩ (fun hHeld => ?_); clear hK K; refine norm_ (a' := ?_) ?_ ?_; rotate_left
        ·exact qa15
        exact norm_ (by simp only [putAll, Act.put, qzA, qzB, qzC]) (hCont (v133, gb137) _ ⟨hHeld, (by (with_reducible repeat (first | apply Kd.R_alloc | apply Kd.R_drewN | apply Kd.R_drew)); exact HO119.out), (by (with_reducible repeat (first | apply Kd.V_alloc | apply Kd.V_drewN | apply Kd.V_drew)); exact Kd.V_mono HO124.out (fun _ hk => ⟨hk.1.1.1, ⟨hk.1.2, ⟨hk.1.1.2.2.2, ⟨hk.1.1.2.1, ⟨hk.1.1.2.2.1, hk.2⟩⟩⟩⟩⟩)), (by (with_reducible repeat (first | apply Kd.S_alloc | apply Kd.S_drewN | apply Kd.S_drew)); exact HO134.out), (by (with_reducible repeat (first | apply Kd.V_alloc | apply Kd.V_drewN | apply Kd.V_drew)); exact Kd.V_mono HO_107000.out (fun _ hk => ⟨hk.1.1.2, ⟨hk.1.2, ⟨hk.1.1.1.2.2, ⟨hk.1.1.1.1, ⟨hk.1.1.1.2.1, hk.2⟩⟩⟩⟩⟩)), (by (with_reducible repeat (first | refine qkN ?_ _ | refine qkD ?_ | refine qkA ?_ _)); exact BK101.out), (by (with_reducible repeat (first | refine qkN ?_ _ | refine qkD ?_ | refine qkA ?_ _)); exact BK106.out), (by (with_reducible repeat (first | refine qkN ?_ _ | refine qkD ?_ | refine qkA ?_ _)); exact BK137.out), GW137.out, GE137.out, NB0_137.out, NB137_0.out, NB101_137.out, NB137_101.out, NB106_137.out, NB137_106.out, (by repeat (first | (with_reducible first | exact HI0.out | apply IsS128.alloc | apply IsS128.drewN | apply IsS128.drew | apply IsS128.set_1 | apply IsS128.set_2 | refine IsS128.far ?_ NB0_101.out _ | refine IsS128.far ?_ NB0_106.out _ | refine IsS128.far ?_ NB0_137.out _) | exact HI0.out)), (by repeat (first | (with_reducible first | exact HK.out | apply KeepBut.set_ | apply keep_drewN | apply keep_drew | apply keep_alloc | refine keep_far ?_ GW101.out _ | refine keep_far ?_ GW106.out _ | refine keep_far ?_ GW137.out _) | exact HK.out)), (by repeat (first | (with_reducible first | exact HB.out | apply qbA | apply qbN | apply qbD | refine qbS ?_ (IsS128.ge HI0.out) | refine qbS ?_ GE101.out | refine qbS ?_ GE106.out | refine qbS ?_ GE137.out) | exact HB.out))⟩)
       ·skip
        refine box_step ?hg (N := 5) ?hd (cs := #[.slice none 0 0, .int .i64 0]) (t := 28) ?hr ?_; (case hd => rfl); (case hg => rfl); (case hr => exact qa18); intro gb137 hg w32 hbox hb; have BK137 := qO (hbox); have GW137 := qO ((qa50 : w.heap.size ≤ gb137)); have GE137 := qO ((Nat.le_trans HW0.out (qa50 : w.heap.size ≤ gb137) : w0.heap.size ≤ gb137)); have NB101_137 := qO ((qa95 : gb101 ≠ gb137)); have NB137_101 := qO (Ne.symm NB101_137.out); have NB106_137 := qO ((qa110 : gb106 ≠ gb137)); have NB137_106 := qO (Ne.symm NB106_137.out); have NB0_137 := qO ((by rw [hg]; exact Nat.ne_of_lt (IsS128.lt (show IsS128 w0 _ g s0_0 t130 t131 from by repeat (first | (with_reducible first | exact HI0.out | apply IsS128.alloc | apply IsS128.drewN | apply IsS128.drew | apply IsS128.set_1 | apply IsS128.set_2 | refine IsS128.far ?_ NB0_101.out _ | refine IsS128.far ?_ NB0_106.out _) | exact HI0.out))) : g ≠ gb137)); have NB137_0 := qO ((by rw [hg]; exact Nat.ne_of_gt (IsS128.lt (show IsS128 w0 _ g s0_0 t130 t131 from by repeat (first | (with_reducible first | exact HI0.out | apply IsS128.alloc | apply IsS128.drewN | apply IsS128.drew | apply IsS128.set_1 | apply IsS128.set_2 | refine IsS128.far ?_ NB0_101.out _ | refine IsS128.far ?_ NB0_106.out _) | exact HI0.out))) : gb137 ≠ g)); replace HO_107000 := qO (Kd.V_below (Kd.V_elderB qa58 gb137 (Nat.le_of_eq hg.symm)) hb); replace HO119 := qO (Kd.R_below qa66 hb); replace HO124 := qO (Kd.V_below (Kd.V_elderB qa96 gb137 (Nat.le_of_eq hg.symm)) hb); replace BK101 := qO (blk_below (g := gb101) (o := .cells #[.slice none 0 0, .int .i64 0] 28 (0, 0)) qa4 hb); replace BK106 := qO (blk_below (g := gb106) (o := .cells #[.slice Ao26 t122.length co26, .int .i64 t125] 28 (0, 0)) qa32 hb); replace HK := qO (KeepBut.trans qa12 (KeepBut.of_below hb g none) (.inl rfl)); replace HB := qO (below_step qa27 hb); replace HI0 := qO (IsS128.below qa13 hb); clear hb hbox hg; refine hK.out _ _ ⟨qc0 BK106.out, qc1 BK106.out⟩ (fun hHeld => ?_); clear hK K; refine norm_ (a' := ?_) ?_ ?_; rotate_left
        ·exact qa15
        refine one_ (i := 6) (N := some 30) spec_l00Src_store.y14 rfl rfl (one_of HT_.out qa6) qa60 (fun K hK => ?_); refine goes_ Try.func55 qa6 rfl #[.agg #[.slice Ao26 t122.length co26, .int .i64 t125], .int .i64 t129] (by rfl) rfl rfl qa0 ?_; (with_reducible refine (spec_l06Forget.calls k1 _ _ t122 t125 t129 t132 t135 t136 _ ?side1 ?side2 A20.out).mono ?_); (case side1 => exact qa148); (case side2 => exact (Kd.V_reads' HO124.out).2.1); rintro e w33 ⟨v133, rfl, ho0, hb⟩; refine ⟨_, rfl, ?_⟩; have HO134 := qO (Kd.S_lower ho0 (keep_size (w := w) (g := g) (row := none) qa57)); replace HO_107000 := qO (Kd.V_elder' qa58 (Kd.S_base ho0) hb); replace HO119 := qO (Kd.R_below qa66 hb); replace HO124 := qO (Kd.V_elder' qa96 (Kd.S_base ho0) hb); replace BK101 := qO (blk_below (g := gb101) (o := .cells #[.slice none 0 0, .int .i64 0] 28 (0, 0)) qa4 hb); replace BK106 := qO (blk_below (g := gb106) (o := .cells #[.slice Ao26 t122.length co26, .int .i64 t125] 28 (0, 0)) qa32 hb); replace BK137 := qO (blk_below (g := gb137) (o := .cells #[.slice none 0 0, .int .i64 0] 28 (0, 0)) qa160 hb); replace HK := qO (KeepBut.trans qa57 (KeepBut.of_below hb g none) (.inl rfl)); replace HB := qO (below_step qa93 hb); replace HI0 := qO (IsS128.below qa71 hb); (try clear hb); (try clear hb2); (try clear hk); (try clear hi); (try clear ho0); refine hK.out _ _ ⟨qc0 BK106.out, qc1 BK106.out⟩ (fun hHeld => ?_); clear hK K; refine norm_ (a' := ?_) ?_ ?_; rotate_left
        ·exact qa15
        refine qPu 7 23 spec_l00Src_store.y15 rfl rfl (any_of HT_.out qa6) qa8 qa3 ?_; refine qPu 8 31 spec_l00Src_store.y16 rfl rfl (any_of HT_.out qa6) qa8 qa3 ?_; refine qPu 9 32 spec_l00Src_store.y6 rfl rfl (any_of HT_.out qa6) qa8 qa3 ?_
        exact norm_ (by simp only [putAll, Act.put, qzA, qzB, qzC]) (hCont (v133, gb137) _ ⟨hHeld, (by (with_reducible repeat (first | apply Kd.R_alloc | apply Kd.R_drewN | apply Kd.R_drew)); exact HO119.out), (by (with_reducible repeat (first | apply Kd.V_alloc | apply Kd.V_drewN | apply Kd.V_drew)); exact Kd.V_mono HO124.out (fun _ hk => ⟨hk.1.1.1, ⟨hk.2, ⟨hk.1.1.2.2.2, ⟨hk.1.1.2.1, ⟨hk.1.1.2.2.1, hk.1.2⟩⟩⟩⟩⟩)), (by (with_reducible repeat (first | apply Kd.S_alloc | apply Kd.S_drewN | apply Kd.S_drew)); exact HO134.out), (by (with_reducible repeat (first | apply Kd.V_alloc | apply Kd.V_drewN | apply Kd.V_drew)); exact Kd.V_mono HO_107000.out (fun _ hk => ⟨hk.1.1.2, ⟨hk.2, ⟨hk.1.1.1.2.2, ⟨hk.1.1.1.1, ⟨hk.1.1.1.2.1, hk.1.2⟩⟩⟩⟩⟩)), (by (with_reducible repeat (first | refine qkN ?_ _ | refine qkD ?_ | refine qkA ?_ _)); exact BK101.out), (by (with_reducible repeat (first | refine qkN ?_ _ | refine qkD ?_ | refine qkA ?_ _)); exact BK106.out), (by (with_reducible repeat (first | refine qkN ?_ _ | refine qkD ?_ | refine qkA ?_ _)); exact BK137.out), GW137.out, GE137.out, NB0_137.out, NB137_0.out, NB101_137.out, NB137_101.out, NB106_137.out, NB137_106.out, (by repeat (first | (with_reducible first | exact HI0.out | apply IsS128.alloc | apply IsS128.drewN | apply IsS128.drew | apply IsS128.set_1 | apply IsS128.set_2 | refine IsS128.far ?_ NB0_101.out _ | refine IsS128.far ?_ NB0_106.out _ | refine IsS128.far ?_ NB0_137.out _) | exact HI0.out)), (by repeat (first | (with_reducible first | exact HK.out | apply KeepBut.set_ | apply keep_drewN | apply keep_drew | apply keep_alloc | refine keep_far ?_ GW101.out _ | refine keep_far ?_ GW106.out _ | refine keep_far ?_ GW137.out _) | exact HK.out)), (by repeat (first | (with_reducible first | exact HB.out | apply qbA | apply qbN | apply qbD | refine qbS ?_ (IsS128.ge HI0.out) | refine qbS ?_ GE101.out | refine qbS ?_ GE106.out | refine qbS ?_ GE137.out) | exact HB.out))⟩)
      ·skip
       refine box_step ?hg (N := 5) ?hd (cs := #[.slice none 0 0, .int .i64 0]) (t := 28) ?hr ?_; (case hd => rfl); (case hg => rfl); (case hr => exact qa18); intro gb137 hg w31 hbox hb; have BK137 := qO (hbox); have GW137 := qO ((qa50 : w.heap.size ≤ gb137)); have GE137 := qO ((Nat.le_trans HW0.out (qa50 : w.heap.size ≤ gb137) : w0.heap.size ≤ gb137)); have NB101_137 := qO ((qa95 : gb101 ≠ gb137)); have NB137_101 := qO (Ne.symm NB101_137.out); have NB106_137 := qO ((qa110 : gb106 ≠ gb137)); have NB137_106 := qO (Ne.symm NB106_137.out); have NB0_137 := qO ((by rw [hg]; exact Nat.ne_of_lt (IsS128.lt (show IsS128 w0 _ g s0_0 t127 t128 from by repeat (first | (with_reducible first | exact HI0.out | apply IsS128.alloc | apply IsS128.drewN | apply IsS128.drew | apply IsS128.set_1 | apply IsS128.set_2 | refine IsS128.far ?_ NB0_101.out _ | refine IsS128.far ?_ NB0_106.out _) | exact HI0.out))) : g ≠ gb137)); have NB137_0 := qO ((by rw [hg]; exact Nat.ne_of_gt (IsS128.lt (show IsS128 w0 _ g s0_0 t127 t128 from by repeat (first | (with_reducible first | exact HI0.out | apply IsS128.alloc | apply IsS128.drewN | apply IsS128.drew | apply IsS128.set_1 | apply IsS128.set_2 | refine IsS128.far ?_ NB0_101.out _ | refine IsS128.far ?_ NB0_106.out _) | exact HI0.out))) : gb137 ≠ g)); replace HO_107000 := qO (Kd.V_below (Kd.V_elderB qa58 gb137 (Nat.le_of_eq hg.symm)) hb); replace HO119 := qO (Kd.R_below qa66 hb); replace HO124 := qO (Kd.V_below (Kd.V_elderB qa96 gb137 (Nat.le_of_eq hg.symm)) hb); replace BK101 := qO (blk_below (g := gb101) (o := .cells #[.slice none 0 0, .int .i64 0] 28 (0, 0)) qa4 hb); replace BK106 := qO (blk_below (g := gb106) (o := .cells #[.slice Ao26 t122.length co26, .int .i64 t125] 28 (0, 0)) qa32 hb); replace HK := qO (KeepBut.trans qa12 (KeepBut.of_below hb g none) (.inl rfl)); replace HB := qO (below_step qa27 hb); replace HI0 := qO (IsS128.below qa13 hb); clear hb hbox hg; refine hK.out _ _ ⟨qc0 BK106.out, qc1 BK106.out⟩ (fun hHeld => ?_); clear hK K; refine norm_ (a' := ?_) ?_ ?_; rotate_left
       ·exact qa15
       refine one_ (i := 5) (N := some 29) spec_l00Src_store.y10 rfl rfl (one_of HT_.out qa6) qa60 (fun K hK => ?_); refine goes_ Try.func108 qa6 rfl #[.pointer (some ⟨g, 0, none⟩), .int .i64 (wrap64 (t125 + 1))] (by rfl) rfl rfl qa0 ?_; (with_reducible refine (spec_l00Src_next.calls g s0_0 t127 t128 (wrap64 (t125 + 1)) t129 t130 t131 w0 _ ?side1 ?side2 A19.out).mono ?_); (case side1 => exact qa71); (case side2 => exact qa93); rintro e w32 ⟨rfl, hi, hb, hk⟩; refine ⟨_, rfl, ?_⟩; replace HO_107000 := qO (Kd.V_mono (Kd.V_keep (Kd.V_mono (ok := fun k_ => (((k_ ≠ gb101 ∧ (k_ ≠ gb106 ∧ k_ ≠ g)) ∧ some k_ ≠ (.slice Ao24 t117.length co24 : Value).ownBlock) ∧ k_ ≠ gb137)) qa58 (fun k_ hk_ => (⟨hk_, hk_.1.1.2.2⟩ : _ ∧ k_ ≠ g))) hk (fun _ h => h.2)) (fun _ h => h.1)); replace BK101 := qO (KeepBut.blk hk (g' := gb101) (o := .cells #[.slice none 0 0, .int .i64 0] 28 (0, 0)) qa4 NB101_0.out qa119); replace BK106 := qO (KeepBut.blk hk (g' := gb106) (o := .cells #[.slice Ao26 t122.length co26, .int .i64 t125] 28 (0, 0)) qa32 NB106_0.out qa119); replace HO119 := qO (Kd.R_mono (Kd.R_keep (IsS128.apart (show IsS128 w0 _ g s0_0 t127 t128 from by repeat (first | (with_reducible first | exact HI0.out | apply IsS128.alloc | apply IsS128.drewN | apply IsS128.drew | apply IsS128.set_1 | apply IsS128.set_2 | refine IsS128.far ?_ NB0_101.out _ | refine IsS128.far ?_ NB0_106.out _ | refine IsS128.far ?_ NB0_137.out _) | exact HI0.out)) qa66 qa60) hk (fun _ h => h.2)) (fun _ h => h.1)); replace HO124 := qO (Kd.V_mono (Kd.V_keep (Kd.V_mono (ok := fun k_ => ((some k_ ≠ (.slice Ao24 t117.length co24 : Value).ownBlock ∧ (k_ ≠ gb101 ∧ (k_ ≠ gb106 ∧ k_ ≠ g))) ∧ k_ ≠ gb137)) qa96 (fun k_ hk_ => (⟨hk_, hk_.1.2.2.2⟩ : _ ∧ k_ ≠ g))) hk (fun _ h => h.2)) (fun _ h => h.1)); replace BK137 := qO (KeepBut.blk hk (g' := gb137) (o := .cells #[.slice none 0 0, .int .i64 0] 28 (0, 0)) qa160 NB137_0.out qa119); replace HK := qO (KeepBut.trans qa57 hk (.inl rfl)); replace HB := qO (hb); replace HI0 := qO (hi); (try clear hb); (try clear hb2); (try clear hk); (try clear hi); refine hK.out _ _ ⟨qc0 BK106.out, qc1 BK106.out⟩ (fun hHeld => ?_); clear hK K; refine norm_ (a' := ?_) ?_ ?_; rotate_left
       ·exact qa15
       refine one_ (i := 6) (N := some 30) spec_l00Src_store.y14 rfl rfl (one_of HT_.out qa6) qa60 (fun K hK => ?_); refine goes_ Try.func55 qa6 rfl #[.agg #[.slice Ao26 t122.length co26, .int .i64 t125], .int .i64 t129] (by rfl) rfl rfl qa0 ?_; (with_reducible refine (spec_l06Forget.calls k1 _ _ t122 t125 t129 t132 t135 t136 _ ?side1 ?side2 A20.out).mono ?_); (case side1 => exact qa148); (case side2 => exact (Kd.V_reads' HO124.out).2.1); rintro e w33 ⟨v133, rfl, ho0, hb⟩; refine ⟨_, rfl, ?_⟩; have HO134 := qO (Kd.S_lower ho0 (keep_size (w := w) (g := g) (row := none) qa57)); replace HO_107000 := qO (Kd.V_elder' qa58 (Kd.S_base ho0) hb); replace HO119 := qO (Kd.R_below qa66 hb); replace HO124 := qO (Kd.V_elder' qa96 (Kd.S_base ho0) hb); replace BK101 := qO (blk_below (g := gb101) (o := .cells #[.slice none 0 0, .int .i64 0] 28 (0, 0)) qa4 hb); replace BK106 := qO (blk_below (g := gb106) (o := .cells #[.slice Ao26 t122.length co26, .int .i64 t125] 28 (0, 0)) qa32 hb); replace BK137 := qO (blk_below (g := gb137) (o := .cells #[.slice none 0 0, .int .i64 0] 28 (0, 0)) qa160 hb); replace HK := qO (KeepBut.trans qa57 (KeepBut.of_below hb g none) (.inl rfl)); replace HB := qO (below_step qa93 hb); replace HI0 := qO (IsS128.below qa71 hb); (try clear hb); (try clear hb2); (try clear hk); (try clear hi); (try clear ho0); refine hK.out _ _ ⟨qc0 BK106.out, qc1 BK106.out⟩ (fun hHeld => ?_); clear hK K; refine norm_ (a' := ?_) ?_ ?_; rotate_left
       ·exact qa15
       refine qPu 7 23 spec_l00Src_store.y15 rfl rfl (any_of HT_.out qa6) qa8 qa3 ?_; refine qPu 8 31 spec_l00Src_store.y16 rfl rfl (any_of HT_.out qa6) qa8 qa3 ?_; refine qPu 9 32 spec_l00Src_store.y6 rfl rfl (any_of HT_.out qa6) qa8 qa3 ?_
       exact norm_ (by simp only [putAll, Act.put, qzA, qzB, qzC]) (hCont (v133, gb137) _ ⟨hHeld, (by (with_reducible repeat (first | apply Kd.R_alloc | apply Kd.R_drewN | apply Kd.R_drew)); exact HO119.out), (by (with_reducible repeat (first | apply Kd.V_alloc | apply Kd.V_drewN | apply Kd.V_drew)); exact Kd.V_mono HO124.out (fun _ hk => ⟨hk.1.1.1, ⟨hk.2, ⟨hk.1.1.2.2.2, ⟨hk.1.1.2.1, ⟨hk.1.1.2.2.1, hk.1.2⟩⟩⟩⟩⟩)), (by (with_reducible repeat (first | apply Kd.S_alloc | apply Kd.S_drewN | apply Kd.S_drew)); exact HO134.out), (by (with_reducible repeat (first | apply Kd.V_alloc | apply Kd.V_drewN | apply Kd.V_drew)); exact Kd.V_mono HO_107000.out (fun _ hk => ⟨hk.1.1.2, ⟨hk.2, ⟨hk.1.1.1.2.2, ⟨hk.1.1.1.1, ⟨hk.1.1.1.2.1, hk.1.2⟩⟩⟩⟩⟩)), (by (with_reducible repeat (first | refine qkN ?_ _ | refine qkD ?_ | refine qkA ?_ _)); exact BK101.out), (by (with_reducible repeat (first | refine qkN ?_ _ | refine qkD ?_ | refine qkA ?_ _)); exact BK106.out), (by (with_reducible repeat (first | refine qkN ?_ _ | refine qkD ?_ | refine qkA ?_ _)); exact BK137.out), GW137.out, GE137.out, NB0_137.out, NB137_0.out, NB101_137.out, NB137_101.out, NB106_137.out, NB137_106.out, (by repeat (first | (with_reducible first | exact HI0.out | apply IsS128.alloc | apply IsS128.drewN | apply IsS128.drew | apply IsS128.set_1 | apply IsS128.set_2 | refine IsS128.far ?_ NB0_101.out _ | refine IsS128.far ?_ NB0_106.out _ | refine IsS128.far ?_ NB0_137.out _) | exact HI0.out)), (by repeat (first | (with_reducible first | exact HK.out | apply KeepBut.set_ | apply keep_drewN | apply keep_drew | apply keep_alloc | refine keep_far ?_ GW101.out _ | refine keep_far ?_ GW106.out _ | refine keep_far ?_ GW137.out _) | exact HK.out)), (by repeat (first | (with_reducible first | exact HB.out | apply qbA | apply qbN | apply qbD | refine qbS ?_ (IsS128.ge HI0.out) | refine qbS ?_ GE101.out | refine qbS ?_ GE106.out | refine qbS ?_ GE137.out) | exact HB.out))⟩)
     rintro ⟨v133, gb137⟩ w34 ⟨hS_, h0_, h1_, h2_, h3_, h4_, h5_, h6_, h7_, h8_, h9_, h10_, h11_, h12_, h13_, h14_, h15_, h16_, h17_⟩; have n0_ : Aside0 (Kd.R k58 58 w34 w.heap.size (fun _ => True) (.slice Ao24 t117.length co24) t117) := ⟨h0_⟩; have n1_ : Aside0 (Kd.V (Kd.slice 43 k43) 41 w34 w.heap.size (fun k_ => some k_ ≠ (.slice Ao24 t117.length co24 : Value).ownBlock ∧ some k_ ≠ (v133 : Value).ownBlock ∧ k_ ≠ g ∧ k_ ≠ gb101 ∧ k_ ≠ gb106 ∧ k_ ≠ gb137) (.slice Ao26 t122.length co26) t122) := ⟨h1_⟩; have n2_ : Aside0 (Kd.S (Kd.slice 43 k43) 41 w34 w.heap.size (fun _ => True) v133 t132) := ⟨h2_⟩; have n3_ : Aside0 (Kd.V (Kd.slice 43 k43) 41 w34 w.heap.size (fun k_ => some k_ ≠ (.slice Ao24 t117.length co24 : Value).ownBlock ∧ some k_ ≠ (v133 : Value).ownBlock ∧ k_ ≠ g ∧ k_ ≠ gb101 ∧ k_ ≠ gb106 ∧ k_ ≠ gb137) (.slice Ao23 x107000_1.length co23) x107000_1) := ⟨h3_⟩; have n4_ : Aside0 (w34.heap[gb101]? = some (.cells #[.slice none 0 0, .int .i64 0] 28 (0, 0))) := ⟨h4_⟩; have n5_ : Aside0 (w34.heap[gb106]? = some (.cells #[.slice Ao26 t122.length co26, .int .i64 t125] 28 (0, 0))) := ⟨h5_⟩; have n6_ : Aside0 (w34.heap[gb137]? = some (.cells #[.slice none 0 0, .int .i64 0] 28 (0, 0))) := ⟨h6_⟩; have n7_ : Aside0 (w.heap.size ≤ gb137) := ⟨h7_⟩; have n8_ : Aside0 (w0.heap.size ≤ gb137) := ⟨h8_⟩; have n9_ : Aside0 (g ≠ gb137) := ⟨h9_⟩; have n10_ : Aside0 (gb137 ≠ g) := ⟨h10_⟩; have n11_ : Aside0 (gb101 ≠ gb137) := ⟨h11_⟩; have n12_ : Aside0 (gb137 ≠ gb101) := ⟨h12_⟩; have n13_ : Aside0 (gb106 ≠ gb137) := ⟨h13_⟩; have n14_ : Aside0 (gb137 ≠ gb106) := ⟨h14_⟩; have n15_ : Aside0 (IsS128 w0 w34 g s0_0 t130 t131) := ⟨h15_⟩; have n16_ : Aside0 (KeepBut w w34 g none) := ⟨h16_⟩; have n17_ : Aside0 (Below w0.heap.size w0 w34) := ⟨h17_⟩; clear HO_107000 HO119 HO124 BK101 BK106 HI0 HK HB h0_ h1_ h2_ h3_ h4_ h5_ h6_ h7_ h8_ h9_ h10_ h11_ h12_ h13_ h14_ h15_ h16_ h17_; have HO119 := n0_; have HO124 := n1_; have HO134 := n2_; have HO_107000 := n3_; have BK101 := n4_; have BK106 := n5_; have BK137 := n6_; have GW137 := n7_; have GE137 := n8_; have NB0_137 := n9_; have NB137_0 := n10_; have NB101_137 := n11_; have NB137_101 := n12_; have NB106_137 := n13_; have NB137_106 := n14_; have HI0 := n15_; have HK := n16_; have HB := n17_; clear n0_ n1_ n2_ n3_ n4_ n5_ n6_ n7_ n8_ n9_ n10_ n11_ n12_ n13_ n14_ n15_ n16_ n17_; have hHeld : w34.cell? ⟨gb106, 0, none⟩ = some (.slice Ao26 t122.length co26) ∧ w34.cell? ⟨gb106, 1, none⟩ = some (.int .i64 t125) := hS_; obtain ⟨Ao35, co35, eo35⟩ := Kd.S_slice HO134.out; (first | subst eo35 | (injection eo35 with f1_ f2_ f3_; have f4_ := f1_.symm; have f5_ := f3_.symm; clear f1_ f2_ f3_; subst f4_; subst f5_)); refine norm_ (a' := ?_) ?_ ?_; rotate_left
     ·simp only [putAll, Act.put, qzA, qzB, qzC]
      rfl
     refine one_ (i := 11) (N := none) spec_l00Src_store.y17 rfl rfl (one_of HT_.out qa6) qa60 (fun K hK => ?_); have hs36 := qc0 BK137.out; have hfs36 := blk_frozen BK137.out 0; have hns36_0 := NB101_137.out; have hns36_1 := NB106_137.out; have hms36_0 := NB137_101.out; have hms36_1 := NB137_106.out; have hs37 := qc1 BK137.out; have hfs37 := blk_frozen BK137.out 1; have hns37_0 := NB101_137.out; have hns37_1 := NB106_137.out; have hms37_0 := NB137_101.out; have hms37_1 := NB137_106.out; refine skip_ (w1 := ?_) (by rfl) rfl ?_ ?_; rotate_left
     ·go_simp
      rfl
     refine hK.out _ _ ⟨((cell_far (p := ⟨gb137, _, none⟩) NB106_137.out _).trans (((cell_far (p := ⟨gb137, _, none⟩) NB106_137.out _).trans (hHeld.1)))), ((cell_far (p := ⟨gb137, _, none⟩) NB106_137.out _).trans (((cell_far (p := ⟨gb137, _, none⟩) NB106_137.out _).trans (hHeld.2))))⟩ (fun hHeld => ?_); clear hK K; refine qPu 12 6 spec_l00Src_store.y18 rfl rfl (any_of HT_.out qa6) qa8 qa3 ?_; refine done_ (done_of HT_.out qa6) ?_; have hnb38 := NB137_101.out; have hnc38 := NB101_137.out; have hnb39 := NB137_106.out; have hnc39 := NB106_137.out; have hnb40 := NB137_0.out; have hnc40 := NB0_137.out; obtain ⟨hcz41_0, hcz41_1, hfz41_0, hfz41_1⟩ := qb2 BK137.out; have hnb42 := NB106_101.out; have hnc42 := NB101_106.out; have hnb43 := NB106_0.out; have hnc43 := NB0_106.out; obtain ⟨hcz44_0, hcz44_1, hfz44_0, hfz44_1⟩ := qb2 BK106.out
     try go_wp2
     go_roundg k1
     case measure => have := HK1.out; omega
     case rel => exact ⟨(wrap64 (x4_1 - 1)), (t130), (t131), (t132), (t135), (.slice Ao35 t132.length co35), qa16, H', ⟨qa155⟩, ⟨Kd.S_V (by (with_reducible repeat (first | apply Kd.S_alloc | apply Kd.S_drewN | apply Kd.S_drew)); exact Kd.S_mono (Kd.S_far (p := ⟨gb106, 1, none⟩) (Kd.S_far (p := ⟨gb106, 0, none⟩) (Kd.S_far (p := ⟨gb137, 1, none⟩) (Kd.S_far (p := ⟨gb137, 0, none⟩) (Kd.S_types (Kd.S_types (IsS128.apartS HI0.out (Kd.S_types (Kd.S_types HO134.out BK101.out (by decide)) BK106.out (by decide)) (by decide)) BK137.out (by decide)) BK106.out (by decide)) (fun _ hk => hk.1.2) (.slice Ao35 t132.length co35)) (fun _ hk => hk.1.2) (.int .i64 t135)) (fun _ hk => hk.2) (.slice Ao35 t132.length co35)) (fun _ hk => hk.2) (.int .i64 t135)) (fun _ hk => ⟨hk.1.1.1.1.2, ⟨hk.1.1.1.2, hk.1.1.2⟩⟩))⟩, ⟨by (with_reducible repeat (first | refine qkN ?_ _ | refine qkD ?_ | refine qkA ?_ _)); refine blk_far ?_ NB101_106.out _; (with_reducible repeat (first | refine qkN ?_ _ | refine qkD ?_ | refine qkA ?_ _)); refine blk_far ?_ NB101_106.out _; (with_reducible repeat (first | refine qkN ?_ _ | refine qkD ?_ | refine qkA ?_ _)); refine blk_far ?_ NB101_137.out _; (with_reducible repeat (first | refine qkN ?_ _ | refine qkD ?_ | refine qkA ?_ _)); refine blk_far ?_ NB101_137.out _; (with_reducible repeat (first | refine qkN ?_ _ | refine qkD ?_ | refine qkA ?_ _)); exact BK101.out⟩, ⟨by (with_reducible repeat (first | refine qkN ?_ _ | refine qkD ?_ | refine qkA ?_ _)); refine blk_put (cs := #[.slice Ao35 t132.length co35, .int .i64 t125]) ?_ 1 _ rfl; (with_reducible repeat (first | refine qkN ?_ _ | refine qkD ?_ | refine qkA ?_ _)); refine blk_put (cs := #[.slice Ao26 t122.length co26, .int .i64 t125]) ?_ 0 _ rfl; (with_reducible repeat (first | refine qkN ?_ _ | refine qkD ?_ | refine qkA ?_ _)); refine blk_far ?_ NB106_137.out _; (with_reducible repeat (first | refine qkN ?_ _ | refine qkD ?_ | refine qkA ?_ _)); refine blk_far ?_ NB106_137.out _; (with_reducible repeat (first | refine qkN ?_ _ | refine qkD ?_ | refine qkA ?_ _)); exact BK106.out⟩, ⟨qa71⟩, ⟨qa57⟩, ⟨qa93⟩⟩
    ·replace c18 := Bool.eq_false_iff.mpr c18
     subst c18; have H1 : (spec_l00Src_store.l0 k1 (wrap64 (x4_1 - 1)) s0_0 t127 t128 t122 t125) = some (r1, r2, r3, r4) := by rw [if_neg (show ¬ (false = true) by decide)] at H; exact H
     clear H; have H := H1; clear H1; have H' := qO H; clear H
     try go_wp2
     replace HO_107000 := qO (Kd.V_drew HO_107000.out); replace BK101 := qO (qkD BK101.out); replace BK106 := qO (qkD BK106.out); replace HI0 := qO (IsS128.drew HI0.out); replace HK := qO (keep_drew HK.out); replace HB := qO (qbD HB.out); refine start_ (n := 5) (S := fun w' => w'.cell? ⟨gb106, 0, none⟩ = some (u107000) ∧ w'.cell? ⟨gb106, 1, none⟩ = some (.int .i64 x107001_1)) (ds := [4]) #[qf,qf,qf,qf,qf] qa6 rfl rfl ⟨qc0 BK106.out, qc1 BK106.out⟩ (fun hHeld => ?_); generalize wr.drew = w45 at HO_107000 BK101 BK106 HI0 HK HB hHeld ⊢; refine qPu 1 18 #[qf,qt,qf,qf,qf] rfl rfl qa6 qa8 qa3 ?_; refine qTk 0 17 #[qt,qt,qf,qf,qf] rfl rfl qa6 qa101 hHeld qa3 ?_; refine one_ (i := 2) (N := some 19) #[qt,qt,qt,qf,qf] rfl rfl qa6 qa60 (fun K hK => ?_); refine goes_ Try.func78 qa6 rfl #[.pointer (some ⟨g, 0, none⟩)] (by rfl) rfl rfl qa0 ?_; (with_reducible refine (spec_l00Src_puts.calls k1 g s0_0 x1001_1 x1002_1 t117 t120 t121 w0 _ ?side1 ?side2 A15.out).mono ?_); (case side1 => exact qa13); (case side2 => exact qa27); rintro e w46 ⟨v118, rfl, ho0, hi, hb, hk⟩; refine ⟨_, rfl, ?_⟩; have HO119 := qO (Kd.R_lower ho0 (keep_size (w := w) (g := g) (row := none) qa12)); replace HO_107000 := qO (Kd.V_mono (Kd.V_told (Kd.V_oldK (Kd.V_mono (ok := fun k_ => (k_ ≠ gb101 ∧ (k_ ≠ gb106 ∧ k_ ≠ g))) qa58 (fun k_ hk_ => (⟨hk_, hk_.2.2⟩ : _ ∧ k_ ≠ g))) hk) (Kd.R_base ho0)) (fun _ h_ => h_.1)); replace BK101 := qO (KeepBut.blk hk (g' := gb101) (o := .cells #[.slice none 0 0, .int .i64 0] 28 (0, 0)) qa4 NB101_0.out qa119); replace BK106 := qO (KeepBut.blk hk (g' := gb106) (o := .cells #[u107000, .int .i64 x107001_1] 28 (0, 0)) qa32 NB106_0.out qa119); replace HK := qO (KeepBut.trans qa12 hk (.inl rfl)); replace HB := qO (hb); replace HI0 := qO (hi); (try clear hb); (try clear hb2); (try clear hk); (try clear hi); (try clear ho0); obtain ⟨Ao47, co47, eo47⟩ := Kd.V_slice HO_107000.out; (first | subst eo47 | (injection eo47 with f1_ f2_ f3_; have f4_ := f1_.symm; have f5_ := f3_.symm; clear f1_ f2_ f3_; subst f4_; subst f5_)); obtain ⟨Ao48, co48, eo48⟩ := Kd.R_slice HO119.out; (first | subst eo48 | (injection eo48 with f1_ f2_ f3_; have f4_ := f1_.symm; have f5_ := f3_.symm; clear f1_ f2_ f3_; subst f4_; subst f5_)); refine hK.out _ _ ⟨qc0 BK106.out, qc1 BK106.out⟩ (fun hHeld => ?_); clear hK K; refine norm_ (a' := ?_) ?_ ?_; rotate_left
     ·exact qa15
     refine one_ (i := 3) (N := some 20) #[qt,qt,qt,qt,qf] rfl rfl qa6 qa60 (fun K hK => ?_); refine goes_ Try.func73 qa6 rfl #[.agg #[.slice Ao47 x107000_1.length co47, .int .i64 x107001_1], .slice Ao48 t117.length co48] (by rfl) rfl rfl qa0 ?_; (with_reducible refine (spec_l06Write.calls k1 (fun k_ => ((k_ ≠ gb101 ∧ (k_ ≠ gb106 ∧ k_ ≠ g)) ∧ some k_ ≠ (.slice Ao48 t117.length co48 : Value).ownBlock)) _ _ x107000_1 x107001_1 _ _ t117 t122 t125 _ ?side1 ?side2 ?side3 A16.out).mono ?_); (case side1 => exact HO_107000.out); (case side2 => exact qa174); (case side3 => exact (Kd.R_reads' HO119.out).2.1); rintro e w49 ⟨v123, rfl, ho0, hb⟩; refine ⟨_, rfl, ?_⟩; have HO124 := qO (Kd.V_lower (Kd.V_mono (ok' := fun k_ => some k_ ≠ (.slice Ao48 t117.length co48 : Value).ownBlock ∧ k_ ≠ gb101 ∧ k_ ≠ gb106 ∧ k_ ≠ g) ho0 (fun k_ hk_ => ⟨Or.elim hk_ (fun hs_ => hs_.2) (fun hn_ => (Kd.fresh' (Kd.R_lt qa66) k_ hn_)), Or.elim hk_ (fun hs_ => hs_.1.1) (fun hn_ => (Kd.freshB (g := gb101) (o := .cells #[.slice none 0 0, .int .i64 0] 28 (0, 0)) qa4 k_ hn_)), Or.elim hk_ (fun hs_ => hs_.1.2.1) (fun hn_ => (Kd.freshB (g := gb106) (o := .cells #[.slice Ao47 x107000_1.length co47, .int .i64 x107001_1] 28 (0, 0)) qa32 k_ hn_)), Or.elim hk_ (fun hs_ => hs_.1.2.2) (fun hn_ => (IsS128.fresh qa13 k_ hn_))⟩)) (keep_size (w := w) (g := g) (row := none) qa12)); replace HO_107000 := qO (Kd.V_below qa58 hb); replace HO119 := qO (Kd.R_below qa66 hb); replace BK101 := qO (blk_below (g := gb101) (o := .cells #[.slice none 0 0, .int .i64 0] 28 (0, 0)) qa4 hb); replace BK106 := qO (blk_below (g := gb106) (o := .cells #[.slice Ao47 x107000_1.length co47, .int .i64 x107001_1] 28 (0, 0)) qa32 hb); replace HK := qO (KeepBut.trans qa12 (KeepBut.of_below hb g none) (.inl rfl)); replace HB := qO (below_step qa27 hb); replace HI0 := qO (IsS128.below qa13 hb); (try clear hb); (try clear hb2); (try clear hk); (try clear hi); (try clear ho0); obtain ⟨Ao50, co50, eo50⟩ := Kd.V_slice HO124.out; (first | subst eo50 | (injection eo50 with f1_ f2_ f3_; have f4_ := f1_.symm; have f5_ := f3_.symm; clear f1_ f2_ f3_; subst f4_; subst f5_)); refine hK.out _ _ ⟨qc0 BK106.out, qc1 BK106.out⟩ (fun hHeld => ?_); clear hK K; refine norm_ (a' := ?_) ?_ ?_; rotate_left
     ·exact qa15
     refine last_ (i := 4) (N := none) #[qt,qt,qt,qt,qt] rfl rfl qa6 qa60 (fun K hK => ?_); have hs51 := qc0 BK106.out; have hfs51 := blk_frozen BK106.out 0; have hns51_0 := NB101_106.out; have hms51_0 := NB106_101.out; have hs52 := qc1 BK106.out; have hfs52 := blk_frozen BK106.out 1; have hns52_0 := NB101_106.out; have hms52_0 := NB106_101.out; refine skip_ (w1 := ?_) (by rfl) rfl ?_ ?_; rotate_left
     ·go_simp
      rfl
     refine hK.out _ _ ?_; clear hK K; refine done_ qa6 ?_
     try go_wp2_with (first | ((with_reducible refine gate_callee (f := 110) rfl ?_); refine goesL_ (some 22) rfl rfl Try.func110 qa6 rfl #[.pointer (some ⟨g, 0, none⟩), .int .i64 6] rfl qa0 ?_; (with_reducible refine (spec_l00Src_chance.calls g s0_0 t120 t121 6 false t127 t128 w0 _ ?side1 ?side2 A17.out).mono ?_); (case side1 => exact qa13); (case side2 => exact qa27); rintro e w53 ⟨rfl, hi, hb, hk⟩; refine ⟨_, rfl, ?_⟩; replace HO_107000 := qO (Kd.V_mono (Kd.V_keep (Kd.V_mono (ok := fun k_ => ((k_ ≠ gb101 ∧ (k_ ≠ gb106 ∧ k_ ≠ g)) ∧ some k_ ≠ (.slice Ao48 t117.length co48 : Value).ownBlock)) (by (with_reducible repeat (first | apply Kd.V_alloc | apply Kd.V_drewN | apply Kd.V_drew)); exact (Kd.V_mono (Kd.V_far (p := ⟨gb106, 1, none⟩) (Kd.V_far (p := ⟨gb106, 0, none⟩) (Kd.V_mono HO_107000.out (fun k_ hk => (⟨hk, hk.1.2.1⟩ : _ ∧ k_ ≠ gb106))) (fun _ hk => hk.2) (.slice Ao50 t122.length co50)) (fun _ hk => hk.2) (.int .i64 t125)) (fun _ h_ => h_.1))) (fun k_ hk_ => (⟨hk_, hk_.1.2.2⟩ : _ ∧ k_ ≠ g))) hk (fun _ h => h.2)) (fun _ h => h.1)); replace BK101 := qO (KeepBut.blk hk (g' := gb101) (o := .cells #[.slice none 0 0, .int .i64 0] 28 (0, 0)) qa25 NB101_0.out qa119); replace HO119 := qO (Kd.R_mono (Kd.R_keep (IsS128.apart (show IsS128 w0 _ g s0_0 t120 t121 from by repeat (first | (with_reducible first | exact HI0.out | apply IsS128.alloc | apply IsS128.drewN | apply IsS128.drew | apply IsS128.set_1 | apply IsS128.set_2 | refine IsS128.far ?_ NB0_101.out _ | refine IsS128.far ?_ NB0_106.out _) | exact HI0.out)) (by (with_reducible repeat (first | apply Kd.R_alloc | apply Kd.R_drewN | apply Kd.R_drew)); exact (Kd.R_mono (Kd.R_far (p := ⟨gb106, 1, none⟩) (Kd.R_far (p := ⟨gb106, 0, none⟩) (Kd.R_types HO119.out BK106.out (by decide)) (fun _ hk => hk.2) (.slice Ao50 t122.length co50)) (fun _ hk => hk.2) (.int .i64 t125)) (fun _ h_ => h_.1))) qa60) hk (fun _ h => h.2)) (fun _ h => h.1)); replace BK106 := qO (KeepBut.blk hk (g' := gb106) (o := .cells #[.slice Ao50 t122.length co50, .int .i64 t125] 28 (0, 0)) (by (with_reducible repeat (first | refine qkN ?_ _ | refine qkD ?_ | refine qkA ?_ _)); refine blk_put (cs := #[.slice Ao50 t122.length co50, .int .i64 x107001_1]) ?_ 1 _ rfl; (with_reducible repeat (first | refine qkN ?_ _ | refine qkD ?_ | refine qkA ?_ _)); refine blk_put (cs := #[.slice Ao47 x107000_1.length co47, .int .i64 x107001_1]) ?_ 0 _ rfl; (with_reducible repeat (first | refine qkN ?_ _ | refine qkD ?_ | refine qkA ?_ _)); exact BK106.out) NB106_0.out qa119); replace HO124 := qO (Kd.V_mono (Kd.V_keep (Kd.V_mono (ok := fun k_ => (some k_ ≠ (.slice Ao48 t117.length co48 : Value).ownBlock ∧ (k_ ≠ gb101 ∧ (k_ ≠ gb106 ∧ k_ ≠ g)))) (by (with_reducible repeat (first | apply Kd.V_alloc | apply Kd.V_drewN | apply Kd.V_drew)); exact (Kd.V_mono (Kd.V_far (p := ⟨gb106, 1, none⟩) (Kd.V_far (p := ⟨gb106, 0, none⟩) (Kd.V_mono HO124.out (fun k_ hk => (⟨hk, hk.2.2.1⟩ : _ ∧ k_ ≠ gb106))) (fun _ hk => hk.2) (.slice Ao50 t122.length co50)) (fun _ hk => hk.2) (.int .i64 t125)) (fun _ h_ => h_.1))) (fun k_ hk_ => (⟨hk_, hk_.2.2.2⟩ : _ ∧ k_ ≠ g))) hk (fun _ h => h.2)) (fun _ h => h.1)); replace HK := qO (KeepBut.trans qa12 hk (.inl rfl)); replace HB := qO (hb); replace HI0 := qO (hi); (try clear hb); (try clear hb2); (try clear hk); (try clear hi)))
     go_roundg k1
     case measure => have := HK1.out; omega
     case rel => exact ⟨(wrap64 (x4_1 - 1)), (t127), (t128), (t122), (t125), (.slice Ao50 t122.length co50), qa16, H', ⟨qa155⟩, ⟨by (with_reducible repeat (first | apply Kd.V_alloc | apply Kd.V_drewN | apply Kd.V_drew)); exact Kd.V_mono HO124.out (fun _ hk => ⟨hk.2.1, ⟨hk.2.2.1, hk.2.2.2⟩⟩)⟩, ⟨qa4⟩, ⟨qa32⟩, ⟨qa13⟩, ⟨qa12⟩, ⟨qa27⟩⟩
   ·rw [if_neg c14] at H
    have c14b0 : decide (0 < x4_1) = false := decide_eq_false c14; clear c14; replace H := Option.bind_eq_some_iff.mp H; obtain ⟨⟨t113, t116⟩, A540, H⟩ := H; replace H : (some (t113, t116, x1001_1, x1002_1)) = some (r1, r2, r3, r4) := H; have A54 := qO A540; clear A540; simp only [Option.some.injEq, Prod.mk.injEq] at H; obtain ⟨rfl, rfl, rfl, rfl⟩ := H; have hnb55 := NB106_101.out; have hnc55 := NB101_106.out; have hnb56 := NB106_0.out; have hnc56 := NB0_106.out; obtain ⟨hcz57_0, hcz57_1, hfz57_0, hfz57_1⟩ := qb2 BK106.out; obtain ⟨Ao58, co58, eo58⟩ := Kd.V_slice HO_107000.out; subst eo58
    go_wp2_with (first | ((with_reducible refine gate_callee (f := 72) rfl ?_); refine goesL_ (some 35) rfl rfl Try.func72 qa6 rfl #[.agg #[.slice Ao58 x107000_1.length co58, .int .i64 x107001_1]] rfl qa0 ?_; (with_reducible refine (spec_l06Own.calls k1 _ _ x107000_1 x107001_1 t113 t116 _ ?side1 ?side2 A54.out).mono ?_); (case side1 => repeat (first | exact (Kd.V_reads' HO_107000.out).2.2 | with_reducible first | refine Kd.C_alloc ?_ _ | refine Kd.C_drewN ?_ _ | refine Kd.C_drew ?_)); (case side2 => exact (Kd.V_reads' HO_107000.out).2.1); rintro e w59 ⟨v114, rfl, ho0, hb⟩; refine ⟨_, rfl, ?_⟩; have HO115 := qO (Kd.S_lower ho0 (keep_size (w := w) (g := g) (row := none) qa12)); replace HO_107000 := qO (Kd.V_elder' qa58 (Kd.S_base ho0) hb); replace BK101 := qO (blk_below (g := gb101) (o := .cells #[.slice none 0 0, .int .i64 0] 28 (0, 0)) qa4 hb); replace BK106 := qO (blk_below (g := gb106) (o := .cells #[.slice Ao58 x107000_1.length co58, .int .i64 x107001_1] 28 (0, 0)) qa32 hb); replace HK := qO (KeepBut.trans qa12 (KeepBut.of_below hb g none) (.inl rfl)); replace HB := qO (below_step qa27 hb); replace HI0 := qO (IsS128.below qa13 hb); (try clear hb); (try clear hb2); (try clear hk); (try clear hi); (try clear ho0); obtain ⟨Ao60, co60, eo60⟩ := Kd.S_slice HO115.out; subst eo60; have hnb61 := NB101_0.out; have hnc61 := NB0_101.out; obtain ⟨hcz62_0, hcz62_1, hfz62_0, hfz62_1⟩ := qb2 BK101.out))
    refine bodyPost_ret (results_cell_row rfl _ _ gb101 28 #[.slice Ao60 t113.length co60, .int .i64 t116] (0, 0) _ rfl (by (with_reducible repeat (first | refine qkN ?_ _ | refine qkD ?_ | refine qkA ?_ _)); refine blk_put (cs := #[.slice Ao60 t113.length co60, .int .i64 0]) ?_ 1 _ rfl; (with_reducible repeat (first | refine qkN ?_ _ | refine qkD ?_ | refine qkA ?_ _)); refine blk_put (cs := #[.slice none 0 0, .int .i64 0]) ?_ 0 _ rfl; (with_reducible repeat (first | refine qkN ?_ _ | refine qkD ?_ | refine qkA ?_ _)); exact BK101.out) Try.underlying28 rfl qa6) rfl ?_
    exact ⟨_, qa10, by (with_reducible repeat (first | apply Kd.S_alloc | apply Kd.S_drewN | apply Kd.S_drew)); exact Kd.S_mono (Kd.S_far (p := ⟨gb101, 1, none⟩) (Kd.S_far (p := ⟨gb101, 0, none⟩) (Kd.S_types HO115.out BK101.out (by decide)) (fun _ hk => hk.2) (.slice Ao60 t113.length co60)) (fun _ hk => hk.2) (.int .i64 t116)) (fun _ hk => trivial), qa13, qa27, qa12⟩


def spec_StoreOf.f (k : Nat) (l0 : List Int) : Option ((List (List (S43))) × Int) := (spec_l00Source.f l0).bind fun bt102 => ((spec_l00Src_store.f k bt102.1 bt102.2.1 bt102.2.2).bind fun bt106 => (some (bt106.1, bt106.2.1)))
set_option maxHeartbeats 8000000 in
set_option maxRecDepth 100000 in
theorem spec_StoreOf.calls (k : Nat) (A0 : Option Addr) (c0 : Nat) (l0 : List Int) (r1 : List (List (S43))) (r2 : Int) (w : World) (hr0 : Kd.C (Kd.int .u8) w A0 l0.length l0) (hc0 : l0.length ≤ c0) (h : spec_StoreOf.f k l0 = some (r1, r2)) :
  Calls Try.prog 18 #[.slice A0 l0.length c0] w fun e w' => ∃ v0_ : Value, e = .returned (.agg #[v0_, .int .i64 r2]) ∧ Kd.S (Kd.slice 43 k43) 41 w' w.heap.size (fun _ => True) v0_ r1 ∧ Below w.heap.size w w' := by
 have hu28 := Try.underlying28
 have HR0 := Aside0.mk hr0
 have HC0 := Aside0.mk hc0
 clear hr0 hc0
 have HB := Aside0.mk (Below.refl w.heap.size w)
 have H : ((spec_l00Source.f l0).bind fun bt102 => ((spec_l00Src_store.f k bt102.1 bt102.2.1 bt102.2.2).bind fun bt106 => (some (bt106.1, bt106.2.1)))) = some (r1, r2) := h
 clear h
 replace H := Option.bind_eq_some_iff.mp H
 obtain ⟨⟨t102, t103, t104⟩, A20, H⟩ := H
 replace H : ((spec_l00Src_store.f k t102 t103 t104).bind fun bt106 => (some (bt106.1, bt106.2.1))) = some (r1, r2) := H
 have A2 := Aside0.mk A20
 clear A20
 replace H := Option.bind_eq_some_iff.mp H
 obtain ⟨⟨t106, t109, t110, t111⟩, A30, H⟩ := H
 replace H : (some (t106, t109)) = some (r1, r2) := H
 have A3 := Aside0.mk A30
 clear A30
 simp only [Option.some.injEq, Prod.mk.injEq] at H
 obtain ⟨rfl, rfl⟩ := H
 go_enter Try.func18, Try.ntmps18
 go_wp2_with (first | ((with_reducible refine gate_dst (N := 2) rfl ?_); refine box_event ?hg (N := 2) ?hd (cs := #[.slice none 0 0, .int .i64 0]) (t := 28) ?hr ?_; (case hd => rfl); (case hg => rfl); (case hr => first | (go_simp; done) | (go_simp; rfl)); intro gb101 hg w4 hbox hb; have BK101 := Aside0.mk (hbox); have GW101 := Aside0.mk ((by rw [hg]; exact (below_size (by repeat (first | (with_reducible first | exact HB.out | apply below_alloc | apply pw_below_drewN | apply below_drew1) | exact HB.out))) : w.heap.size ≤ gb101)); have GE101 := Aside0.mk ((by rw [hg]; exact (below_size (by repeat (first | (with_reducible first | exact HB.out | apply below_alloc | apply pw_below_drewN | apply below_drew1) | exact HB.out))) : w.heap.size ≤ gb101)); replace HB := Aside0.mk (below_step (by repeat (first | (with_reducible first | exact HB.out | apply below_alloc | apply pw_below_drewN | apply below_drew1) | exact HB.out)) hb); clear hb hbox hg) | ((with_reducible refine gate_callee (f := 62) rfl ?_); refine goesL_ (some 4) rfl rfl Try.func62 (by kernel_rfl) rfl #[.slice A0 l0.length c0] rfl (by (try simp only [List.map_toArray, List.map_cons, List.map_nil]); first | done | rfl | (simp only [List.length_drop, List.length_take]; rfl)) ?_; (with_reducible refine (spec_l00Source.calls _ _ l0 t102 t103 t104 w _ ?side1 ?side2 ?side3 A2.out).mono ?_); (case side1 => repeat (first | (with_reducible first | exact HB.out | apply below_alloc | apply pw_below_drewN | apply below_drew1 | refine below_set ?_ GE101.out) | exact HB.out)); (case side2 => exact HR0.out); (case side3 => exact HC0.out); rintro e w5 ⟨g105, rfl, hi, hb, hb2⟩; refine ⟨_, rfl, ?_⟩; have HI105 := Aside0.mk (hi); have NB105_101 := Aside0.mk (IsS128.ne_blk hi (blk_below (g := gb101) (o := .cells #[.slice none 0 0, .int .i64 0] 28 (0, 0)) (by (with_reducible repeat (first | refine blk_drewN ?_ _ | refine blk_drew ?_ | refine blk_alloc ?_ _)); exact BK101.out) hb2) (by decide)); have NB101_105 := Aside0.mk (Ne.symm (IsS128.ne_blk hi (blk_below (g := gb101) (o := .cells #[.slice none 0 0, .int .i64 0] 28 (0, 0)) (by (with_reducible repeat (first | refine blk_drewN ?_ _ | refine blk_drew ?_ | refine blk_alloc ?_ _)); exact BK101.out) hb2) (by decide))); replace BK101 := Aside0.mk (blk_below (g := gb101) (o := .cells #[.slice none 0 0, .int .i64 0] 28 (0, 0)) (by (with_reducible repeat (first | refine blk_drewN ?_ _ | refine blk_drew ?_ | refine blk_alloc ?_ _)); exact BK101.out) hb2); replace HB := Aside0.mk (hb); (try clear hb); (try clear hb2); (try clear hk); (try clear hi)) | ((with_reducible refine gate_callee (f := 63) rfl ?_); refine goesL_ (some 5) rfl rfl Try.func63 (by kernel_rfl) rfl #[.pointer (some ⟨g105, 0, none⟩)] rfl (by (try simp only [List.map_toArray, List.map_cons, List.map_nil]); first | done | rfl | (simp only [List.length_drop, List.length_take]; rfl)) ?_; (with_reducible refine (spec_l00Src_store.calls k g105 t102 t103 t104 t106 t109 t110 t111 w _ ?side1 ?side2 A3.out).mono ?_); (case side1 => repeat (first | (with_reducible first | exact HI105.out | apply IsS128.alloc | apply IsS128.drewN | apply IsS128.drew | apply IsS128.set_1 | apply IsS128.set_2 | refine IsS128.far ?_ NB105_101.out _) | exact HI105.out)); (case side2 => repeat (first | (with_reducible first | exact HB.out | apply below_alloc | apply pw_below_drewN | apply below_drew1 | refine below_set ?_ (IsS128.ge HI105.out) | refine below_set ?_ GE101.out) | exact HB.out)); rintro e w6 ⟨v107, rfl, ho0, hi, hb, hk⟩; refine ⟨_, rfl, ?_⟩; have HO108 := Aside0.mk (Kd.S_lower ho0 (below_size (by repeat (first | (with_reducible first | exact HB.out | apply below_alloc | apply pw_below_drewN | apply below_drew1 | refine below_set ?_ (IsS128.ge HI105.out) | refine below_set ?_ GE101.out) | exact HB.out)))); replace BK101 := Aside0.mk (KeepBut.blk hk (g' := gb101) (o := .cells #[.slice none 0 0, .int .i64 0] 28 (0, 0)) (by (with_reducible repeat (first | refine blk_drewN ?_ _ | refine blk_drew ?_ | refine blk_alloc ?_ _)); exact BK101.out) NB101_105.out (by simp)); replace HB := Aside0.mk (hb); replace HI105 := Aside0.mk (hi); (try clear hb); (try clear hb2); (try clear hk); (try clear hi); (try clear ho0); obtain ⟨Ao7, co7, eo7⟩ := Kd.S_slice HO108.out; subst eo7; have hnb8 := NB101_105.out; have hnc8 := NB105_101.out; obtain ⟨hcz9_0, hcz9_1, hfz9_0, hfz9_1⟩ := qb2 BK101.out))
 refine bodyPost_ret (results_cell_row rfl _ _ gb101 28 #[.slice Ao7 t106.length co7, .int .i64 t109] (0, 0) _ rfl (by (with_reducible repeat (first | refine blk_drewN ?_ _ | refine blk_drew ?_ | refine blk_alloc ?_ _)); refine blk_put (cs := #[.slice Ao7 t106.length co7, .int .i64 0]) ?_ 1 _ rfl; (with_reducible repeat (first | refine blk_drewN ?_ _ | refine blk_drew ?_ | refine blk_alloc ?_ _)); refine blk_put (cs := #[.slice none 0 0, .int .i64 0]) ?_ 0 _ rfl; (with_reducible repeat (first | refine blk_drewN ?_ _ | refine blk_drew ?_ | refine blk_alloc ?_ _)); exact BK101.out) Try.underlying28 rfl (by kernel_rfl)) rfl ?_
 exact ⟨_, by first | rfl | (simp [errW_none, errW_some] <;> rfl) | (simp [*, errW_none, errW_some] <;> rfl), by (with_reducible repeat (first | apply Kd.S_alloc | apply Kd.S_drewN | apply Kd.S_drew)); exact Kd.S_mono (Kd.S_far (p := ⟨gb101, 1, none⟩) (Kd.S_far (p := ⟨gb101, 0, none⟩) (Kd.S_types HO108.out BK101.out (by decide)) (fun _ hk => hk.2) (.slice Ao7 t106.length co7)) (fun _ hk => hk.2) (.int .i64 t109)) (fun _ hk => trivial), by repeat (first | (with_reducible first | exact HB.out | apply below_alloc | apply pw_below_drewN | apply below_drew1 | refine below_set ?_ (IsS128.ge HI105.out) | refine below_set ?_ GE101.out) | exact HB.out)⟩


def laws_at.f (l0 : List Int) (a1 : Int) (a2 : Int) : Option (Int) := if a2 ≤ 1 then (some 0) else (if (l0.length : Int) = 0 then (if a2 = 0 then (none) else (some (Int.tmod (wrap64 (a1 * 7)) a2))) else (if 0 ≤ (Int.tmod a1 (l0.length : Int)) then (if (Int.tmod a1 (l0.length : Int)) < (l0.length : Int) then (if 0 ≤ (Int.tmod (wrap64 (a1 + 1)) (l0.length : Int)) then (if (Int.tmod (wrap64 (a1 + 1)) (l0.length : Int)) < (l0.length : Int) then (if a2 = 0 then (none) else (some (Int.tmod (wrap64 ((wrap64 ((wrap64 ((wrap64 (rd l0 (Int.tmod a1 (l0.length : Int)))) * 31)) + (wrap64 (rd l0 (Int.tmod (wrap64 (a1 + 1)) (l0.length : Int)))))) + (wrap64 (Int.tdiv a1 (l0.length : Int))))) a2))) else (none)) else (none)) else (none)) else (none)))
set_option maxHeartbeats 8000000 in
set_option maxRecDepth 100000 in
theorem laws_at.calls (A0 : Option Addr) (c0 : Nat) (l0 : List Int) (a1 : Int) (a2 : Int) (r : Int) (w : World) (hr0 : Kd.C (Kd.int .u8) w A0 l0.length l0) (hc0 : l0.length ≤ c0) (h : laws_at.f l0 a1 a2 = some r) :
  Calls Try.prog 19 #[.slice A0 l0.length c0, .int .i64 a1, .int .i64 a2] w fun e w' => e = .returned (.int .i64 r) ∧ Drawn0 w w' := by
 have HR0 := qO hr0; have HC0 := qO hc0; clear hr0 hc0; have H : (if a2 ≤ 1 then (some 0) else (if (l0.length : Int) = 0 then (if a2 = 0 then (none) else (some (Int.tmod (wrap64 (a1 * 7)) a2))) else (if 0 ≤ (Int.tmod a1 (l0.length : Int)) then (if (Int.tmod a1 (l0.length : Int)) < (l0.length : Int) then (if 0 ≤ (Int.tmod (wrap64 (a1 + 1)) (l0.length : Int)) then (if (Int.tmod (wrap64 (a1 + 1)) (l0.length : Int)) < (l0.length : Int) then (if a2 = 0 then (none) else (some (Int.tmod (wrap64 ((wrap64 ((wrap64 ((wrap64 (rd l0 (Int.tmod a1 (l0.length : Int)))) * 31)) + (wrap64 (rd l0 (Int.tmod (wrap64 (a1 + 1)) (l0.length : Int)))))) + (wrap64 (Int.tdiv a1 (l0.length : Int))))) a2))) else (none)) else (none)) else (none)) else (none)))) = some r := h; clear h
 by_cases c4 : a2 ≤ 1
 ·rw [if_pos c4] at H
  have c4b0 : decide (a2 ≤ 1) = true := decide_eq_true c4; clear c4; obtain rfl := Option.some.inj H
  go_enter Try.func19, Try.ntmps19
  go_wp2
  repeat (go_quiet (fail); try go_wp2)
  go_ret
  exact ⟨qa16, qa82⟩
 ·rw [if_neg c4] at H
  have c4b0 : decide (a2 ≤ 1) = false := decide_eq_false c4; clear c4
  by_cases c5 : (l0.length : Int) = 0
  ·rw [if_pos c5] at H
   have c5b0 : ((l0.length : Int) == 0) = true := beq_iff_eq.mpr c5; have c5b1 : ((l0.length : Int) != 0) = false := bne_eq_false_iff_eq.mpr c5; clear c5
   by_cases c6 : a2 = 0
   ·rw [if_pos c6] at H
    exact absurd H qa119
   ·rw [if_neg c6] at H
    have c6b0 : (a2 == 0) = false := beq_eq_false_iff_ne.mpr c6; have c6b1 : (a2 != 0) = true := bne_iff_ne.mpr c6; obtain rfl := Option.some.inj H
    go_enter Try.func19, Try.ntmps19
    go_wp2
    repeat (go_quiet (fail); try go_wp2)
    go_ret
    exact ⟨qa16, qa82⟩
  ·rw [if_neg c5] at H
   have c5b0 : ((l0.length : Int) == 0) = false := beq_eq_false_iff_ne.mpr c5; have c5b1 : ((l0.length : Int) != 0) = true := bne_iff_ne.mpr c5; have c5b2 : ¬ (l0 = []) := fun h_ => c5 (by rw [h_]; rfl)
   obtain ⟨ji7, hji7⟩ : ∃ j_ : Int, (Int.tmod a1 (l0.length : Int)) = j_ := ⟨_, rfl⟩; replace H : (if 0 ≤ (ji7) then (if (ji7) < (l0.length : Int) then (if 0 ≤ (Int.tmod (wrap64 (a1 + 1)) (l0.length : Int)) then (if (Int.tmod (wrap64 (a1 + 1)) (l0.length : Int)) < (l0.length : Int) then (if a2 = 0 then (none) else (some (Int.tmod (wrap64 ((wrap64 ((wrap64 ((wrap64 (rd l0 (ji7))) * 31)) + (wrap64 (rd l0 (Int.tmod (wrap64 (a1 + 1)) (l0.length : Int)))))) + (wrap64 (Int.tdiv a1 (l0.length : Int))))) a2))) else (none)) else (none)) else (none)) else (none)) = some r := by first | (rw [hji7] at H; exact H) | (simp only [hji7] at H ⊢; exact H)
   by_cases c8 : 0 ≤ (ji7)
   ·rw [if_pos c8] at H
    have c8b0 : decide (0 ≤ (ji7)) = true := decide_eq_true c8; clear c8
    by_cases c9 : (ji7) < (l0.length : Int)
    ·rw [if_pos c9] at H
     have c9b0 : decide ((ji7) < (l0.length : Int)) = true := decide_eq_true c9; clear c9; obtain ⟨ji10, hji10⟩ : ∃ j_ : Int, (Int.tmod (wrap64 (a1 + 1)) (l0.length : Int)) = j_ := ⟨_, rfl⟩; replace H : (if 0 ≤ (ji10) then (if (ji10) < (l0.length : Int) then (if a2 = 0 then (none) else (some (Int.tmod (wrap64 ((wrap64 ((wrap64 ((wrap64 (rd l0 (ji7))) * 31)) + (wrap64 (rd l0 (ji10))))) + (wrap64 (Int.tdiv a1 (l0.length : Int))))) a2))) else (none)) else (none)) = some r := by first | (rw [hji10] at H; exact H) | (simp only [hji10] at H ⊢; exact H)
     by_cases c11 : 0 ≤ (ji10)
     ·rw [if_pos c11] at H
      have c11b0 : decide (0 ≤ (ji10)) = true := decide_eq_true c11; clear c11
      by_cases c12 : (ji10) < (l0.length : Int)
      ·rw [if_pos c12] at H
       have c12b0 : decide ((ji10) < (l0.length : Int)) = true := decide_eq_true c12; clear c12
       by_cases c13 : a2 = 0
       ·rw [if_pos c13] at H
        exact absurd H qa119
       ·rw [if_neg c13] at H
        have c13b0 : (a2 == 0) = false := beq_eq_false_iff_ne.mpr c13; have c13b1 : (a2 != 0) = true := bne_iff_ne.mpr c13; obtain rfl := Option.some.inj H; have p101 : 0 ≤ ((ji7) : Int) := qT qa2; have q101 : (ji7) < (l0.length : Int) := qT qa2; obtain ⟨ad101, e101, hx101_0⟩ := Kd.at_int HR0.out (ji7) p101 q101
        cases e101
        replace p101 := eq_true p101; replace q101 := eq_true q101; have p102 : 0 ≤ ((ji10) : Int) := qT qa2; have q102 : (ji10) < (l0.length : Int) := qT qa2; obtain ⟨ad102, e102, hx102_0⟩ := Kd.at_int HR0.out (ji10) p102 q102; obtain rfl : ad101 = ad102 := (by injection e102); replace p102 := eq_true p102; replace q102 := eq_true q102
        go_enter Try.func19, Try.ntmps19
        go_wp2
        repeat (go_quiet (fail); try go_wp2)
        go_ret
        exact ⟨by first | rfl | (simp; done) | (simp only [← hji7, ← hji10] <;> (first | rfl | simp)) | (simp [*]; done), qa82⟩
      ·rw [if_neg c12] at H
       exact absurd H qa119
     ·rw [if_neg c11] at H
      exact absurd H qa119
    ·rw [if_neg c9] at H
     exact absurd H qa119
   ·rw [if_neg c8] at H
    exact absurd H qa119


def impl_Store_size.l0 : Nat → Int → List (List (S43)) → Int → Int → Option (Int)
 | 0, _, _, _, _ => none
 | k + 1, x3, x7, x8, x9 => if x9 < x8 then (if 0 ≤ x9 then (if x9 < (x7.length : Int) then (impl_Store_size.l0 k (wrap64 (x3 + ((rd_L4 x7 x9).length : Int))) x7 x8 (wrap64 (x9 + 1))) else (none)) else (none)) else (some x3)
def impl_Store_size.f (k : Nat) (l0_0 : List (List (S43))) (a0_1 : Int) : Option (Int) := impl_Store_size.l0 k 0 l0_0 (l0_0.length : Int) 0
set_option maxHeartbeats 8000000 in
set_option maxRecDepth 100000 in
theorem impl_Store_size.calls (k : Nat) (A0_0 : Option Addr) (c0_0 : Nat) (l0_0 : List (List (S43))) (a0_1 : Int) (r : Int) (w : World) (hr0_0 : Kd.C (Kd.slice 43 k43) w A0_0 l0_0.length l0_0) (hc0_0 : l0_0.length ≤ c0_0) (h : impl_Store_size.f k l0_0 a0_1 = some r) :
  Calls Try.prog 64 #[.agg #[.slice A0_0 l0_0.length c0_0, .int .i64 a0_1]] w fun e w' => e = .returned (.int .i64 r) ∧ Below w.heap.size w w' := by
 have hu28 := Try.underlying28; have HR0_0 := qO hr0_0; have HC0_0 := qO hc0_0; clear hr0_0 hc0_0; have HB := qO (Below.refl w.heap.size w); have H : (impl_Store_size.l0 k 0 l0_0 (l0_0.length : Int) 0) = some r := h; clear h; have H' := qO H; clear H
 go_enter Try.func64, Try.ntmps64
 go_wp2_with (first | ((with_reducible refine gate_dst (N := 1) rfl ?_); refine qX 1 #[.slice A0_0 l0_0.length c0_0, .int .i64 a0_1] 28 ?_; intro gb101 hg w2 hbox hb; have hx_ := qHX HB hb qa1; have BK101 := qO (hbox); have GW101 := qO ((qa20 : w.heap.size ≤ gb101)); have GE101 := GW101; replace HB := qO (below_step (below_step HB.out hx_) hb); clear hx_ hb hbox hg; obtain ⟨hcz3_0, hcz3_1, hfz3_0, hfz3_1⟩ := qb2 BK101.out))
 go_loopg [3, 9] k (fun kq v3 v9 w' => ∃ (x3_1 : Int) (x9_1 : Int), v3 = .int .i64 x3_1 ∧ v9 = .int .i64 x9_1 ∧ Aside0 (impl_Store_size.l0 kq x3_1 l0_0 (l0_0.length : Int) x9_1 = some r) ∧ Aside0 (kq ≤ k) ∧ Aside0 (w'.heap[gb101]? = some (.cells #[(.slice A0_0 l0_0.length c0_0), .int .i64 a0_1] 28 (0, 0))) ∧ Aside0 (Below w.heap.size w w'))
 case atStart => exact ⟨(0), (0), qa16, qa16, H', ⟨Nat.le_refl _⟩, ⟨qa4⟩, ⟨qa9⟩⟩
 case round =>
  clear H'
  try clear p2
  try clear hcz3_0
  try clear hcz3_1
  try clear hfz3_0
  try clear hfz3_1
  obtain ⟨x3_1, x9_1, rfl, rfl, HA, HK1, BK101, HB⟩ := hrel
  cases gk with
  | zero => exact absurd HA.out (by simp [impl_Store_size.l0])
  | succ k1 =>
   have H := HA.out; clear HA; simp only [impl_Store_size.l0] at H
   by_cases c4 : x9_1 < (l0_0.length : Int)
   ·rw [if_pos c4] at H
    have c4b0 : decide (x9_1 < (l0_0.length : Int)) = true := decide_eq_true c4; clear c4
    by_cases c5 : 0 ≤ x9_1
    ·rw [if_pos c5] at H
     have c5b0 : decide (0 ≤ x9_1) = true := decide_eq_true c5; clear c5
     by_cases c6 : x9_1 < (l0_0.length : Int)
     ·rw [if_pos c6] at H
      have c6b0 : decide (x9_1 < (l0_0.length : Int)) = true := decide_eq_true c6; clear c6; have H' := qO H; clear H; have p102 : 0 ≤ (x9_1 : Int) := qT qa2; have q102 : x9_1 < (l0_0.length : Int) := qT qa2; obtain ⟨ad102, A102_0, c102_0, e102, hx102_0, hl102_0, hi102_0⟩ := at_L4 HR0_0.out x9_1 p102 q102
      cases e102
      replace hx102_0 := (HB.out.cell (qL w _ hx102_0)).trans hx102_0; have HR102_0 := qO hi102_0; have HC102_0 := qO hl102_0; clear hi102_0 hl102_0; replace p102 := eq_true p102; replace q102 := eq_true q102; go_wp2
      go_roundg k1
      case measure => have := HK1.out; omega
      case rel => exact ⟨(wrap64 (x3_1 + ((rd_L4 l0_0 x9_1).length : Int))), (wrap64 (x9_1 + 1)), qa16, qa16, H', ⟨qa155⟩, ⟨qa4⟩, ⟨qa9⟩⟩
     ·rw [if_neg c6] at H
      exact absurd H qa119
    ·rw [if_neg c5] at H
     exact absurd H qa119
   ·rw [if_neg c4] at H
    have c4b0 : decide (x9_1 < (l0_0.length : Int)) = false := decide_eq_false c4; clear c4; obtain rfl := Option.some.inj H; go_wp2
    go_ret
    exact ⟨qa10, qa9⟩


def impl_SizeOf.f (k : Nat) (l0_0 : List (List (S43))) (a0_1 : Int) : Option (Int × Int) := (impl_StoreOK.f k l0_0 a0_1).bind fun t102 => (if t102 = true then ((impl_Store_size.f k l0_0 a0_1).bind fun t103 => (some (t103, 0))) else (some (0, 1)))
set_option maxHeartbeats 8000000 in
set_option maxRecDepth 100000 in
theorem impl_SizeOf.calls (k : Nat) (A0_0 : Option Addr) (c0_0 : Nat) (l0_0 : List (List (S43))) (a0_1 : Int) (r1 : Int) (r2 : Int) (w : World) (hr0_0 : Kd.C (Kd.slice 43 k43) w A0_0 l0_0.length l0_0) (hc0_0 : l0_0.length ≤ c0_0) (h : impl_SizeOf.f k l0_0 a0_1 = some (r1, r2)) :
  Calls Try.prog 20 #[.agg #[.slice A0_0 l0_0.length c0_0, .int .i64 a0_1]] w fun e w' => e = .returned (.tuple #[.int .i64 r1, .int .i64 r2]) ∧ Below w.heap.size w w' := by
 have hu28 := Try.underlying28; have HR0_0 := qO hr0_0; have HC0_0 := qO hc0_0; clear hr0_0 hc0_0; have HB := qO (Below.refl w.heap.size w); have H : ((impl_StoreOK.f k l0_0 a0_1).bind fun t102 => (if t102 = true then ((impl_Store_size.f k l0_0 a0_1).bind fun t103 => (some (t103, 0))) else (some (0, 1)))) = some (r1, r2) := h; clear h; replace H := Option.bind_eq_some_iff.mp H; obtain ⟨t102, A20, H⟩ := H; replace H : (if t102 = true then ((impl_Store_size.f k l0_0 a0_1).bind fun t103 => (some (t103, 0))) else (some (0, 1))) = some (r1, r2) := H; have A2 := qO A20; clear A20
 by_cases c3 : t102 = true
 ·subst c3
  have H1 : ((impl_Store_size.f k l0_0 a0_1).bind fun t103 => (some (t103, 0))) = some (r1, r2) := by rw [if_pos rfl] at H; exact H
  clear H; have H := H1; clear H1; replace H := Option.bind_eq_some_iff.mp H; obtain ⟨t103, A40, H⟩ := H; replace H : (some (t103, 0)) = some (r1, r2) := H; have A4 := qO A40; clear A40; simp only [Option.some.injEq, Prod.mk.injEq] at H; obtain ⟨rfl, rfl⟩ := H
  go_enter Try.func20, Try.ntmps20
  go_wp2_with (first | ((with_reducible refine gate_dst (N := 1) rfl ?_); refine qX 1 #[.slice A0_0 l0_0.length c0_0, .int .i64 a0_1] 28 ?_; intro gb101 hg w5 hbox hb; have hx_ := qHX HB hb qa1; have BK101 := qO (hbox); have GW101 := qO ((qa20 : w.heap.size ≤ gb101)); have GE101 := GW101; replace HB := qO (below_step (below_step HB.out hx_) hb); clear hx_ hb hbox hg; obtain ⟨hcz6_0, hcz6_1, hfz6_0, hfz6_1⟩ := qb2 BK101.out) | ((with_reducible refine gate_callee (f := 22) rfl ?_); refine goesL_ (some 5) rfl rfl Try.func22 qa6 rfl #[.agg #[.slice A0_0 l0_0.length c0_0, .int .i64 a0_1]] rfl qa0 ?_; (with_reducible refine (impl_StoreOK.calls k _ _ l0_0 a0_1 true _ ?side1 ?side2 A2.out).mono ?_); (case side1 => exact qa17); (case side2 => exact HC0_0.out); rintro e w7 ⟨rfl, hb⟩; have hx_ := qHX HB hb qa1; refine ⟨_, rfl, ?_⟩; replace BK101 := qO (qB BK101.out hx_ hb); replace HB := qO (below_step (below_step HB.out hx_) hb); clear hx_; (try clear hb); (try clear hb2); (try clear hk); (try clear hi); obtain ⟨hcz8_0, hcz8_1, hfz8_0, hfz8_1⟩ := qb2 BK101.out) | ((with_reducible refine gate_callee (f := 64) rfl ?_); refine goesL_ (some 8) rfl rfl Try.func64 qa6 rfl #[.agg #[.slice A0_0 l0_0.length c0_0, .int .i64 a0_1]] rfl qa0 ?_; (with_reducible refine (impl_Store_size.calls k _ _ l0_0 a0_1 t103 _ ?side1 ?side2 A4.out).mono ?_); (case side1 => exact qa17); (case side2 => exact HC0_0.out); rintro e w9 ⟨rfl, hb⟩; have hx_ := qHX HB hb qa1; refine ⟨_, rfl, ?_⟩; replace BK101 := qO (qB BK101.out hx_ hb); replace HB := qO (below_step (below_step HB.out hx_) hb); clear hx_; (try clear hb); (try clear hb2); (try clear hk); (try clear hi)))
  go_ret2
  exact ⟨qa10, qa9⟩
 ·replace c3 := Bool.eq_false_iff.mpr c3
  subst c3; have H1 : (some (0, 1)) = some (r1, r2) := by rw [if_neg (show ¬ (false = true) by decide)] at H; exact H
  clear H; have H := H1; clear H1; simp only [Option.some.injEq, Prod.mk.injEq] at H; obtain ⟨rfl, rfl⟩ := H
  go_enter Try.func20, Try.ntmps20
  go_wp2_with (first | ((with_reducible refine gate_dst (N := 1) rfl ?_); refine qX 1 #[.slice A0_0 l0_0.length c0_0, .int .i64 a0_1] 28 ?_; intro gb101 hg w10 hbox hb; have hx_ := qHX HB hb qa1; have BK101 := qO (hbox); have GW101 := qO ((qa20 : w.heap.size ≤ gb101)); have GE101 := GW101; replace HB := qO (below_step (below_step HB.out hx_) hb); clear hx_ hb hbox hg; obtain ⟨hcz11_0, hcz11_1, hfz11_0, hfz11_1⟩ := qb2 BK101.out) | ((with_reducible refine gate_callee (f := 22) rfl ?_); refine goesL_ (some 5) rfl rfl Try.func22 qa6 rfl #[.agg #[.slice A0_0 l0_0.length c0_0, .int .i64 a0_1]] rfl qa0 ?_; (with_reducible refine (impl_StoreOK.calls k _ _ l0_0 a0_1 false _ ?side1 ?side2 A2.out).mono ?_); (case side1 => exact qa17); (case side2 => exact HC0_0.out); rintro e w12 ⟨rfl, hb⟩; have hx_ := qHX HB hb qa1; refine ⟨_, rfl, ?_⟩; replace BK101 := qO (qB BK101.out hx_ hb); replace HB := qO (below_step (below_step HB.out hx_) hb); clear hx_; (try clear hb); (try clear hb2); (try clear hk); (try clear hi)))
  go_ret2
  exact ⟨qa10, qa9⟩


theorem eqA43 (d : Nat) (w : World) (x0 y0 : Int) (x1 y1 : Int) :
  (Op.equalIn (d + 2) 43 (.agg #[.int .i64 x0, .int .i64 x1]) (.agg #[.int .i64 y0, .int .i64 y1])).run Try.prog w = .ok (x0 == y0 && (x1 == y1)) w := by
 refine eqA_of Try.underlying43 qa6 ?_; refine eqf_cons (by rfl) (by go_simp; rfl) (by go_simp; rfl) (by go_simp) ?_
 exact eqf_last (by rfl) (by go_simp; rfl) (by go_simp; rfl) (by go_simp)

attribute [local go_sem high] eqA43
mutual
def laws_sameStore.j0 : Nat → Bool → List (List (S43)) → Int → List (List (S43)) → Int → Option (Bool)
 | 0, _, _, _, _, _ => none
 | k + 1, x20, x102000, x102001, x103000, x103001 => if x20 = true then (some false) else (laws_sameStore.l0 k 0 x102000 x102001 x103000 x103001)
def laws_sameStore.l0 : Nat → Int → List (List (S43)) → Int → List (List (S43)) → Int → Option (Bool)
 | 0, _, _, _, _, _ => none
 | k + 1, x5, x102000, x102001, x103000, x103001 => if x5 < (x102000.length : Int) then (if 0 ≤ x5 then (if x5 < (x103000.length : Int) then (if ((rd_L4 x102000 x5).length : Int) = ((rd_L4 x103000 x5).length : Int) then (laws_sameStore.l1 k x5 0 x102000 x102001 x103000 x103001) else (some false)) else (none)) else (none)) else (some true)
def laws_sameStore.l1 : Nat → Int → Int → List (List (S43)) → Int → List (List (S43)) → Int → Option (Bool)
 | 0, _, _, _, _, _, _ => none
 | k + 1, x5, x6, x102000, x102001, x103000, x103001 => if 0 ≤ x5 then (if x5 < (x102000.length : Int) then (if x6 < ((rd_L4 x102000 x5).length : Int) then (if 0 ≤ x6 then (if x5 < (x103000.length : Int) then (if x6 < ((rd_L4 x103000 x5).length : Int) then (if (!(((rd_T43 (rd_L4 x102000 x5) x6).f0) == ((rd_T43 (rd_L4 x103000 x5) x6).f0)) || (!(((rd_T43 (rd_L4 x102000 x5) x6).f1) == ((rd_T43 (rd_L4 x103000 x5) x6).f1)))) = true then (some false) else (laws_sameStore.l1 k x5 (wrap64 (x6 + 1)) x102000 x102001 x103000 x103001)) else (none)) else (none)) else (none)) else (laws_sameStore.l0 k (wrap64 (x5 + 1)) x102000 x102001 x103000 x103001)) else (none)) else (none)
end
def laws_sameStore.f (k : Nat) (l0_0 : List (List (S43))) (a0_1 : Int) (l1_0 : List (List (S43))) (a1_1 : Int) : Option (Bool) := if a0_1 = a1_1 then (laws_sameStore.j0 k ((l0_0.length : Int) != (l1_0.length : Int)) l0_0 a0_1 l1_0 a1_1) else (laws_sameStore.j0 k true l0_0 a0_1 l1_0 a1_1)
set_option maxHeartbeats 8000000 in
set_option maxRecDepth 100000 in
theorem laws_sameStore.calls (k : Nat) (A0_0 : Option Addr) (c0_0 : Nat) (l0_0 : List (List (S43))) (a0_1 : Int) (A1_0 : Option Addr) (c1_0 : Nat) (l1_0 : List (List (S43))) (a1_1 : Int) (r : Bool) (w : World) (hr0_0 : Kd.C (Kd.slice 43 k43) w A0_0 l0_0.length l0_0) (hc0_0 : l0_0.length ≤ c0_0) (hr1_0 : Kd.C (Kd.slice 43 k43) w A1_0 l1_0.length l1_0) (hc1_0 : l1_0.length ≤ c1_0) (h : laws_sameStore.f k l0_0 a0_1 l1_0 a1_1 = some r) :
  Calls Try.prog 21 #[.agg #[.slice A0_0 l0_0.length c0_0, .int .i64 a0_1], .agg #[.slice A1_0 l1_0.length c1_0, .int .i64 a1_1]] w fun e w' => e = .returned (.bool r) ∧ Below w.heap.size w w' := by
 have hu28 := Try.underlying28; have hu43 := Try.underlying43; have HR0_0 := qO hr0_0; have HC0_0 := qO hc0_0; clear hr0_0 hc0_0; have HR1_0 := qO hr1_0; have HC1_0 := qO hc1_0; clear hr1_0 hc1_0; have HB := qO (Below.refl w.heap.size w); have H : (if a0_1 = a1_1 then (laws_sameStore.j0 k ((l0_0.length : Int) != (l1_0.length : Int)) l0_0 a0_1 l1_0 a1_1) else (laws_sameStore.j0 k true l0_0 a0_1 l1_0 a1_1)) = some r := h; clear h; have HC3 := qO H; clear H
 go_enter Try.func21, Try.ntmps21
 go_upto_region 1 with (first | ((with_reducible refine gate_dst (N := 2) rfl ?_); (try (refine gate_guard (by rfl) ?_; dsimp only)); refine qX 2 #[.slice A0_0 l0_0.length c0_0, .int .i64 a0_1] 28 ?_; intro gb101 hg w4 hbox hb; have BK101 := qO (hbox); have GW101 := qO ((qa36 : w.heap.size ≤ gb101)); have GE101 := qO ((qa36 : w.heap.size ≤ gb101)); replace HB := qO (below_step qa62 hb); clear hb hbox hg) | ((with_reducible refine gate_dst (N := 3) rfl ?_); (try (refine gate_guard (by rfl) ?_; dsimp only)); refine qX 3 #[.slice A1_0 l1_0.length c1_0, .int .i64 a1_1] 28 ?_; intro gb102 hg w5 hbox hb; have BK102 := qO (hbox); have GW102 := qO ((qa30 : w.heap.size ≤ gb102)); have GE102 := qO ((qa30 : w.heap.size ≤ gb102)); have NB101_102 := qO ((qa7 : gb101 ≠ gb102)); have NB102_101 := qO ((qa111 : gb102 ≠ gb101)); replace BK101 := qO (blk_below (g := gb101) (o := .cells #[.slice A0_0 l0_0.length c0_0, .int .i64 a0_1] 28 (0, 0)) qa4 hb); replace HB := qO (below_step qa9 hb); clear hb hbox hg))
 repeat (go_quiet (first | ((with_reducible refine gate_dst (N := 2) rfl ?_); (try (refine gate_guard (by rfl) ?_; dsimp only)); refine qX 2 #[.slice A0_0 l0_0.length c0_0, .int .i64 a0_1] 28 ?_; intro gb101 hg w4 hbox hb; have BK101 := qO (hbox); have GW101 := qO ((qa36 : w.heap.size ≤ gb101)); have GE101 := qO ((qa36 : w.heap.size ≤ gb101)); replace HB := qO (below_step qa62 hb); clear hb hbox hg) | ((with_reducible refine gate_dst (N := 3) rfl ?_); (try (refine gate_guard (by rfl) ?_; dsimp only)); refine qX 3 #[.slice A1_0 l1_0.length c1_0, .int .i64 a1_1] 28 ?_; intro gb102 hg w5 hbox hb; have BK102 := qO (hbox); have GW102 := qO ((qa30 : w.heap.size ≤ gb102)); have GE102 := qO ((qa30 : w.heap.size ≤ gb102)); have NB101_102 := qO ((qa7 : gb101 ≠ gb102)); have NB102_101 := qO ((qa111 : gb102 ≠ gb101)); replace BK101 := qO (blk_below (g := gb101) (o := .cells #[.slice A0_0 l0_0.length c0_0, .int .i64 a0_1] 28 (0, 0)) qa4 hb); replace HB := qO (below_step qa9 hb); clear hb hbox hg)); go_upto_region 1 with (first | ((with_reducible refine gate_dst (N := 2) rfl ?_); (try (refine gate_guard (by rfl) ?_; dsimp only)); refine qX 2 #[.slice A0_0 l0_0.length c0_0, .int .i64 a0_1] 28 ?_; intro gb101 hg w4 hbox hb; have BK101 := qO (hbox); have GW101 := qO ((qa36 : w.heap.size ≤ gb101)); have GE101 := qO ((qa36 : w.heap.size ≤ gb101)); replace HB := qO (below_step qa62 hb); clear hb hbox hg) | ((with_reducible refine gate_dst (N := 3) rfl ?_); (try (refine gate_guard (by rfl) ?_; dsimp only)); refine qX 3 #[.slice A1_0 l1_0.length c1_0, .int .i64 a1_1] 28 ?_; intro gb102 hg w5 hbox hb; have BK102 := qO (hbox); have GW102 := qO ((qa30 : w.heap.size ≤ gb102)); have GE102 := qO ((qa30 : w.heap.size ≤ gb102)); have NB101_102 := qO ((qa7 : gb101 ≠ gb102)); have NB102_101 := qO ((qa111 : gb102 ≠ gb101)); replace BK101 := qO (blk_below (g := gb101) (o := .cells #[.slice A0_0 l0_0.length c0_0, .int .i64 a0_1] 28 (0, 0)) qa4 hb); replace HB := qO (below_step qa9 hb); clear hb hbox hg)))
 (try simp only [Act.put, qzA, qzB, qzC])
 go_cut [20] (fun v20 wc => ∃ (kq : Nat) (x20_2 : Bool), v20 = .bool x20_2 ∧ Aside0 (laws_sameStore.j0 kq x20_2 l0_0 a0_1 l1_0 a1_1 = some r) ∧ Aside0 (kq ≤ k) ∧ Aside0 (wc.heap[gb101]? = some (.cells #[(.slice A0_0 l0_0.length c0_0), .int .i64 a0_1] 28 (0, 0))) ∧ Aside0 (wc.heap[gb102]? = some (.cells #[(.slice A1_0 l1_0.length c1_0), .int .i64 a1_1] 28 (0, 0))) ∧ Aside0 (Below w.heap.size w wc))
 case first =>
  have H := HC3.out; clear HC3
  by_cases c6 : a0_1 = a1_1
  ·rw [if_pos c6] at H
   have c6b0 : (a0_1 == a1_1) = true := beq_iff_eq.mpr c6; have c6b1 : (a0_1 != a1_1) = false := bne_eq_false_iff_eq.mpr c6; clear c6; (first | rw [c6b0] | (simp only [i64_w, i32_w]; rw [c6b0]) | skip); have H' := qO H; clear H; have hnb7 := NB101_102.out; have hnc7 := NB102_101.out; obtain ⟨hcz8_0, hcz8_1, hfz8_0, hfz8_1⟩ := qb2 BK101.out; obtain ⟨hcz9_0, hcz9_1, hfz9_0, hfz9_1⟩ := qb2 BK102.out; go_wp2
   repeat (go_quiet (fail); try go_wp2)
   go_meet
   case rel => exact ⟨_, (((l0_0.length : Int) != (l1_0.length : Int))), qa16, H', ⟨qa175⟩, ⟨qa4⟩, ⟨qa23⟩, ⟨qa21⟩⟩
  ·rw [if_neg c6] at H
   have c6b0 : (a0_1 == a1_1) = false := beq_eq_false_iff_ne.mpr c6; have c6b1 : (a0_1 != a1_1) = true := bne_iff_ne.mpr c6; (first | rw [c6b0] | (simp only [i64_w, i32_w]; rw [c6b0]) | skip); have H' := qO H; clear H; have hnb10 := NB101_102.out; have hnc10 := NB102_101.out; obtain ⟨hcz11_0, hcz11_1, hfz11_0, hfz11_1⟩ := qb2 BK101.out; obtain ⟨hcz12_0, hcz12_1, hfz12_0, hfz12_1⟩ := qb2 BK102.out; go_wp2
   repeat (go_quiet (fail); try go_wp2)
   go_meet
   case rel => exact ⟨_, (true), qa16, H', ⟨qa175⟩, ⟨qa4⟩, ⟨qa23⟩, ⟨qa21⟩⟩
 case rest =>
  clear HC3
  try clear c1
  try clear c2
  try clear p2
  try clear c6
  try clear c6b0
  try clear c6b1
  try clear c7
  try clear c10
  try clear hcz11_0
  try clear hcz11_1
  try clear hcz12_0
  try clear hcz12_1
  try clear hcz8_0
  try clear hcz8_1
  try clear hcz9_0
  try clear hcz9_1
  try clear hfz11_0
  try clear hfz11_1
  try clear hfz12_0
  try clear hfz12_1
  try clear hfz8_0
  try clear hfz8_1
  try clear hfz9_0
  try clear hfz9_1
  obtain ⟨kq, x20_2, rfl, HA, HJ2, BK101, BK102, HB⟩ := hcut
  cases kq with
  | zero => exact absurd HA.out (by simp [laws_sameStore.j0])
  | succ kj2 =>
   have H := HA.out; clear HA; simp only [laws_sameStore.j0] at H
   by_cases c13 : x20_2 = true
   ·subst c13
    have H1 : (some false) = some r := by rw [if_pos rfl] at H; exact H
    clear H; have H := H1; clear H1; obtain rfl := Option.some.inj H; go_wp2
    repeat (go_quiet (fail); try go_wp2)
    go_ret
    exact ⟨qa10, qa21⟩
   ·replace c13 := Bool.eq_false_iff.mpr c13
    subst c13; have H1 : (laws_sameStore.l0 kj2 0 l0_0 a0_1 l1_0 a1_1) = some r := by rw [if_neg (show ¬ (false = true) by decide)] at H; exact H
    clear H; have H := H1; clear H1; have H' := qO H; clear H; go_wp2
    repeat (go_quiet (fail); try go_wp2)
    go_loopg [5] kj2 (fun kq v5 w' => ∃ (x5_2 : Int), v5 = .int .i64 x5_2 ∧ Aside0 (laws_sameStore.l0 kq x5_2 l0_0 a0_1 l1_0 a1_1 = some r) ∧ Aside0 (kq ≤ kj2) ∧ Aside0 (w'.heap[gb101]? = some (.cells #[(.slice A0_0 l0_0.length c0_0), .int .i64 a0_1] 28 (0, 0))) ∧ Aside0 (w'.heap[gb102]? = some (.cells #[(.slice A1_0 l1_0.length c1_0), .int .i64 a1_1] 28 (0, 0))) ∧ Aside0 (Below w.heap.size w w'))
    case atStart => exact ⟨(0), qa16, H', ⟨Nat.le_refl _⟩, ⟨qa4⟩, ⟨qa23⟩, ⟨qa21⟩⟩
    case round =>
     clear H'
     try clear c1
     try clear c2
     try clear p2
     try clear c6
     try clear c6b0
     try clear c6b1
     try clear c7
     try clear c10
     try clear c13
     try clear hcz11_0
     try clear hcz11_1
     try clear hcz12_0
     try clear hcz12_1
     try clear hcz8_0
     try clear hcz8_1
     try clear hcz9_0
     try clear hcz9_1
     try clear hfz11_0
     try clear hfz11_1
     try clear hfz12_0
     try clear hfz12_1
     try clear hfz8_0
     try clear hfz8_1
     try clear hfz9_0
     try clear hfz9_1
     try clear p2
     obtain ⟨x5_2, rfl, HA, HK2, BK101, BK102, HB⟩ := hrel
     cases gk with
     | zero => exact absurd HA.out (by simp [laws_sameStore.l0])
     | succ k2 =>
      have H := HA.out; clear HA; simp only [laws_sameStore.l0] at H
      by_cases c14 : x5_2 < (l0_0.length : Int)
      ·rw [if_pos c14] at H
       have c14b0 : decide (x5_2 < (l0_0.length : Int)) = true := decide_eq_true c14; clear c14
       by_cases c15 : 0 ≤ x5_2
       ·rw [if_pos c15] at H
        have c15b0 : decide (0 ≤ x5_2) = true := decide_eq_true c15; clear c15
        by_cases c16 : x5_2 < (l1_0.length : Int)
        ·rw [if_pos c16] at H
         have c16b0 : decide (x5_2 < (l1_0.length : Int)) = true := decide_eq_true c16; clear c16
         by_cases c17 : ((rd_L4 l0_0 x5_2).length : Int) = ((rd_L4 l1_0 x5_2).length : Int)
         ·rw [if_pos c17] at H
          have c17b0 : (((rd_L4 l0_0 x5_2).length : Int) == ((rd_L4 l1_0 x5_2).length : Int)) = true := beq_iff_eq.mpr c17; have c17b1 : (((rd_L4 l0_0 x5_2).length : Int) != ((rd_L4 l1_0 x5_2).length : Int)) = false := bne_eq_false_iff_eq.mpr c17; have c17b2 : ((rd_L4 l0_0 x5_2).length == (rd_L4 l1_0 x5_2).length) = true := by first | simpa using c17 | (simp at c17 ⊢; omega)
          clear c17; have H' := qO H; clear H; have hnb18 := NB101_102.out; have hnc18 := NB102_101.out; obtain ⟨hcz19_0, hcz19_1, hfz19_0, hfz19_1⟩ := qb2 BK101.out; have p103 : 0 ≤ (x5_2 : Int) := qT qa2; have q103 : x5_2 < (l0_0.length : Int) := qT qa2; obtain ⟨ad103, A103_0, c103_0, e103, hx103_0, hl103_0, hi103_0⟩ := at_L4 HR0_0.out x5_2 p103 q103
          cases e103
          replace hx103_0 := (HB.out.cell (qL w _ hx103_0)).trans hx103_0; have HR103_0 := qO hi103_0; have HC103_0 := qO hl103_0; clear hi103_0 hl103_0; replace p103 := eq_true p103; replace q103 := eq_true q103; obtain ⟨hcz20_0, hcz20_1, hfz20_0, hfz20_1⟩ := qb2 BK102.out; have p104 : 0 ≤ (x5_2 : Int) := qT qa2; have q104 : x5_2 < (l1_0.length : Int) := qT qa2; obtain ⟨ad104, A104_0, c104_0, e104, hx104_0, hl104_0, hi104_0⟩ := at_L4 HR1_0.out x5_2 p104 q104
          cases e104
          replace hx104_0 := (HB.out.cell (qL w _ hx104_0)).trans hx104_0; have HR104_0 := qO hi104_0; have HC104_0 := qO hl104_0; clear hi104_0 hl104_0; replace p104 := eq_true p104; replace q104 := eq_true q104; go_wp2
          repeat (go_quiet (fail); try go_wp2)
          go_loopg [6] k2 (fun kq v6 w' => ∃ (x6_3 : Int), v6 = .int .i64 x6_3 ∧ Aside0 (laws_sameStore.l1 kq x5_2 x6_3 l0_0 a0_1 l1_0 a1_1 = some r) ∧ Aside0 (kq ≤ k2) ∧ Aside0 (w'.heap[gb101]? = some (.cells #[(.slice (some ad103) l0_0.length c0_0), .int .i64 a0_1] 28 (0, 0))) ∧ Aside0 (w'.heap[gb102]? = some (.cells #[(.slice (some ad104) l1_0.length c1_0), .int .i64 a1_1] 28 (0, 0))) ∧ Aside0 (Below w.heap.size w w'))
          case atStart => exact ⟨(0), qa16, H', ⟨Nat.le_refl _⟩, ⟨qa4⟩, ⟨qa23⟩, ⟨qa21⟩⟩
          case round =>
           clear H'
           try clear c1
           try clear p1
           try clear q1
           try clear hx1
           try clear c2
           try clear p2
           try clear c6
           try clear c6b0
           try clear c6b1
           try clear c7
           try clear c10
           try clear p10
           try clear q10
           try clear hx10
           try clear c13
           try clear c14
           try clear c14b0
           try clear c15
           try clear c15b0
           try clear c16
           try clear c16b0
           try clear c17
           try clear c17b0
           try clear c17b1
           try clear c17b2
           try clear c18
           try clear hcz11_0
           try clear hcz11_1
           try clear hcz12_0
           try clear hcz12_1
           try clear hcz19_0
           try clear hcz19_1
           try clear hcz20_0
           try clear hcz20_1
           try clear hcz8_0
           try clear hcz8_1
           try clear hcz9_0
           try clear hcz9_1
           try clear hfz11_0
           try clear hfz11_1
           try clear hfz12_0
           try clear hfz12_1
           try clear hfz19_0
           try clear hfz19_1
           try clear hfz20_0
           try clear hfz20_1
           try clear hfz8_0
           try clear hfz8_1
           try clear hfz9_0
           try clear hfz9_1
           try clear hx103_0
           try clear hx104_0
           try clear p103
           try clear p104
           try clear p2
           try clear q103
           try clear q104
           obtain ⟨x6_3, rfl, HA, HK3, BK101, BK102, HB⟩ := hrel
           cases gk with
           | zero => exact absurd HA.out (by simp [laws_sameStore.l1])
           | succ k3 =>
            have H := HA.out; clear HA; simp only [laws_sameStore.l1] at H
            by_cases c21 : 0 ≤ x5_2
            ·rw [if_pos c21] at H
             have c21b0 : decide (0 ≤ x5_2) = true := decide_eq_true c21; clear c21
             by_cases c22 : x5_2 < (l0_0.length : Int)
             ·rw [if_pos c22] at H
              have c22b0 : decide (x5_2 < (l0_0.length : Int)) = true := decide_eq_true c22; clear c22
              by_cases c23 : x6_3 < ((rd_L4 l0_0 x5_2).length : Int)
              ·rw [if_pos c23] at H
               have c23b0 : decide (x6_3 < ((rd_L4 l0_0 x5_2).length : Int)) = true := decide_eq_true c23; clear c23
               by_cases c24 : 0 ≤ x6_3
               ·rw [if_pos c24] at H
                have c24b0 : decide (0 ≤ x6_3) = true := decide_eq_true c24; clear c24
                by_cases c25 : x5_2 < (l1_0.length : Int)
                ·rw [if_pos c25] at H
                 have c25b0 : decide (x5_2 < (l1_0.length : Int)) = true := decide_eq_true c25; clear c25
                 by_cases c26 : x6_3 < ((rd_L4 l1_0 x5_2).length : Int)
                 ·rw [if_pos c26] at H
                  have c26b0 : decide (x6_3 < ((rd_L4 l1_0 x5_2).length : Int)) = true := decide_eq_true c26; clear c26
                  by_cases c27 : (!(((rd_T43 (rd_L4 l0_0 x5_2) x6_3).f0) == ((rd_T43 (rd_L4 l1_0 x5_2) x6_3).f0)) || (!(((rd_T43 (rd_L4 l0_0 x5_2) x6_3).f1) == ((rd_T43 (rd_L4 l1_0 x5_2) x6_3).f1)))) = true
                  ·rw [if_pos c27] at H
                   have c27b0 : (!(((rd_T43 (rd_L4 l0_0 x5_2) x6_3).f0) == ((rd_T43 (rd_L4 l1_0 x5_2) x6_3).f0)) || (!(((rd_T43 (rd_L4 l0_0 x5_2) x6_3).f1) == ((rd_T43 (rd_L4 l1_0 x5_2) x6_3).f1)))) = true := c27; clear c27; obtain rfl := Option.some.inj H; have hnb28 := NB101_102.out; have hnc28 := NB102_101.out; obtain ⟨hcz29_0, hcz29_1, hfz29_0, hfz29_1⟩ := qb2 BK101.out; have p105 : 0 ≤ (x5_2 : Int) := qT qa2; have q105 : x5_2 < (l0_0.length : Int) := qT qa2; obtain ⟨ad105, A105_0, c105_0, e105, hx105_0, hl105_0, hi105_0⟩ := at_L4 HR0_0.out x5_2 p105 q105; obtain rfl : ad103 = ad105 := (by injection e105); replace hx105_0 := (HB.out.cell (qL w _ hx105_0)).trans hx105_0; have HR105_0 := qO hi105_0; have HC105_0 := qO hl105_0; clear hi105_0 hl105_0; replace p105 := eq_true p105; replace q105 := eq_true q105; have p106 : 0 ≤ (x5_2 : Int) := qT qa2; have q106 : x5_2 < (l0_0.length : Int) := qT qa2; obtain ⟨ad106, A106_0, c106_0, e106, hx106_0, hl106_0, hi106_0⟩ := at_L4 HR0_0.out x5_2 p106 q106; obtain rfl : ad103 = ad106 := (by injection e106); replace hx106_0 := (HB.out.cell (qL w _ hx106_0)).trans hx106_0; have HR106_0 := qO hi106_0; have HC106_0 := qO hl106_0; clear hi106_0 hl106_0; replace p106 := eq_true p106; replace q106 := eq_true q106; have ea_ := Option.some.inj (hx105_0.symm.trans hx106_0); injection ea_ with ea_ en_ ec_; subst ea_; subst ec_; clear en_; have p107 : 0 ≤ (x6_3 : Int) := qT qa2; have q107 : x6_3 < ((rd_L4 l0_0 x5_2).length : Int) := qT qa2; obtain ⟨ad107, e107, hx107_0, hx107_1⟩ := at_T43 HR106_0.out x6_3 p107 q107
                   cases e107
                   replace hx107_0 := (HB.out.cell (qL w _ hx107_0)).trans hx107_0; replace hx107_1 := (HB.out.cell (qL w _ hx107_1)).trans hx107_1; replace p107 := eq_true p107; replace q107 := eq_true q107; obtain ⟨hcz30_0, hcz30_1, hfz30_0, hfz30_1⟩ := qb2 BK102.out; have p108 : 0 ≤ (x5_2 : Int) := qT qa2; have q108 : x5_2 < (l1_0.length : Int) := qT qa2; obtain ⟨ad108, A108_0, c108_0, e108, hx108_0, hl108_0, hi108_0⟩ := at_L4 HR1_0.out x5_2 p108 q108; obtain rfl : ad104 = ad108 := (by injection e108); replace hx108_0 := (HB.out.cell (qL w _ hx108_0)).trans hx108_0; have HR108_0 := qO hi108_0; have HC108_0 := qO hl108_0; clear hi108_0 hl108_0; replace p108 := eq_true p108; replace q108 := eq_true q108; have p109 : 0 ≤ (x6_3 : Int) := qT qa2; have q109 : x6_3 < ((rd_L4 l1_0 x5_2).length : Int) := qT qa2; obtain ⟨ad109, e109, hx109_0, hx109_1⟩ := at_T43 HR108_0.out x6_3 p109 q109
                   cases e109
                   replace hx109_0 := (HB.out.cell (qL w _ hx109_0)).trans hx109_0; replace hx109_1 := (HB.out.cell (qL w _ hx109_1)).trans hx109_1; replace p109 := eq_true p109; replace q109 := eq_true q109; go_wp2
                   repeat (go_quiet (fail); try go_wp2)
                   go_ret
                   exact ⟨qa10, qa21⟩
                  ·rw [if_neg c27] at H
                   have c27b0 : (!(((rd_T43 (rd_L4 l0_0 x5_2) x6_3).f0) == ((rd_T43 (rd_L4 l1_0 x5_2) x6_3).f0)) || (!(((rd_T43 (rd_L4 l0_0 x5_2) x6_3).f1) == ((rd_T43 (rd_L4 l1_0 x5_2) x6_3).f1)))) = false := by simpa using c27
                   clear c27; have H' := qO H; clear H; have hnb31 := NB101_102.out; have hnc31 := NB102_101.out; obtain ⟨hcz32_0, hcz32_1, hfz32_0, hfz32_1⟩ := qb2 BK101.out; have p105 : 0 ≤ (x5_2 : Int) := qT qa2; have q105 : x5_2 < (l0_0.length : Int) := qT qa2; obtain ⟨ad105, A105_0, c105_0, e105, hx105_0, hl105_0, hi105_0⟩ := at_L4 HR0_0.out x5_2 p105 q105; obtain rfl : ad103 = ad105 := (by injection e105); replace hx105_0 := (HB.out.cell (qL w _ hx105_0)).trans hx105_0; have HR105_0 := qO hi105_0; have HC105_0 := qO hl105_0; clear hi105_0 hl105_0; replace p105 := eq_true p105; replace q105 := eq_true q105; have p106 : 0 ≤ (x5_2 : Int) := qT qa2; have q106 : x5_2 < (l0_0.length : Int) := qT qa2; obtain ⟨ad106, A106_0, c106_0, e106, hx106_0, hl106_0, hi106_0⟩ := at_L4 HR0_0.out x5_2 p106 q106; obtain rfl : ad103 = ad106 := (by injection e106); replace hx106_0 := (HB.out.cell (qL w _ hx106_0)).trans hx106_0; have HR106_0 := qO hi106_0; have HC106_0 := qO hl106_0; clear hi106_0 hl106_0; replace p106 := eq_true p106; replace q106 := eq_true q106; have ea_ := Option.some.inj (hx105_0.symm.trans hx106_0); injection ea_ with ea_ en_ ec_; subst ea_; subst ec_; clear en_; have p107 : 0 ≤ (x6_3 : Int) := qT qa2; have q107 : x6_3 < ((rd_L4 l0_0 x5_2).length : Int) := qT qa2; obtain ⟨ad107, e107, hx107_0, hx107_1⟩ := at_T43 HR106_0.out x6_3 p107 q107
                   cases e107
                   replace hx107_0 := (HB.out.cell (qL w _ hx107_0)).trans hx107_0; replace hx107_1 := (HB.out.cell (qL w _ hx107_1)).trans hx107_1; replace p107 := eq_true p107; replace q107 := eq_true q107; obtain ⟨hcz33_0, hcz33_1, hfz33_0, hfz33_1⟩ := qb2 BK102.out; have p108 : 0 ≤ (x5_2 : Int) := qT qa2; have q108 : x5_2 < (l1_0.length : Int) := qT qa2; obtain ⟨ad108, A108_0, c108_0, e108, hx108_0, hl108_0, hi108_0⟩ := at_L4 HR1_0.out x5_2 p108 q108; obtain rfl : ad104 = ad108 := (by injection e108); replace hx108_0 := (HB.out.cell (qL w _ hx108_0)).trans hx108_0; have HR108_0 := qO hi108_0; have HC108_0 := qO hl108_0; clear hi108_0 hl108_0; replace p108 := eq_true p108; replace q108 := eq_true q108; have p109 : 0 ≤ (x6_3 : Int) := qT qa2; have q109 : x6_3 < ((rd_L4 l1_0 x5_2).length : Int) := qT qa2; obtain ⟨ad109, e109, hx109_0, hx109_1⟩ := at_T43 HR108_0.out x6_3 p109 q109
                   cases e109
                   replace hx109_0 := (HB.out.cell (qL w _ hx109_0)).trans hx109_0; replace hx109_1 := (HB.out.cell (qL w _ hx109_1)).trans hx109_1; replace p109 := eq_true p109; replace q109 := eq_true q109; go_wp2
                   repeat (go_quiet (fail); try go_wp2)
                   go_roundg k3
                   case measure => have := HJ2.out; have := HK2.out; have := HK3.out; omega
                   case rel => exact ⟨(wrap64 (x6_3 + 1)), qa16, H', ⟨by have := HJ2.out; have := HK2.out; have := HK3.out; omega⟩, ⟨qa4⟩, ⟨qa23⟩, ⟨qa21⟩⟩
                 ·rw [if_neg c26] at H
                  exact absurd H qa119
                ·rw [if_neg c25] at H
                 exact absurd H qa119
               ·rw [if_neg c24] at H
                exact absurd H qa119
              ·rw [if_neg c23] at H
               have c23b0 : decide (x6_3 < ((rd_L4 l0_0 x5_2).length : Int)) = false := decide_eq_false c23; clear c23; have H' := qO H; clear H; have hnb34 := NB101_102.out; have hnc34 := NB102_101.out; obtain ⟨hcz35_0, hcz35_1, hfz35_0, hfz35_1⟩ := qb2 BK101.out; have p105 : 0 ≤ (x5_2 : Int) := qT qa2; have q105 : x5_2 < (l0_0.length : Int) := qT qa2; obtain ⟨ad105, A105_0, c105_0, e105, hx105_0, hl105_0, hi105_0⟩ := at_L4 HR0_0.out x5_2 p105 q105; obtain rfl : ad103 = ad105 := (by injection e105); replace hx105_0 := (HB.out.cell (qL w _ hx105_0)).trans hx105_0; have HR105_0 := qO hi105_0; have HC105_0 := qO hl105_0; clear hi105_0 hl105_0; replace p105 := eq_true p105; replace q105 := eq_true q105; go_wp2
               repeat (go_quiet (fail); try go_wp2)
               go_roundg k3
               case measure => have := HJ2.out; have := HK2.out; have := HK3.out; omega
               case rel => exact ⟨(wrap64 (x5_2 + 1)), qa16, H', ⟨by have := HJ2.out; have := HK2.out; have := HK3.out; omega⟩, ⟨qa4⟩, ⟨qa23⟩, ⟨qa21⟩⟩
             ·rw [if_neg c22] at H
              exact absurd H qa119
            ·rw [if_neg c21] at H
             exact absurd H qa119
         ·rw [if_neg c17] at H
          have c17b0 : (((rd_L4 l0_0 x5_2).length : Int) == ((rd_L4 l1_0 x5_2).length : Int)) = false := beq_eq_false_iff_ne.mpr c17; have c17b1 : (((rd_L4 l0_0 x5_2).length : Int) != ((rd_L4 l1_0 x5_2).length : Int)) = true := bne_iff_ne.mpr c17; have c17b2 : ((rd_L4 l0_0 x5_2).length == (rd_L4 l1_0 x5_2).length) = false := by first | simpa using c17 | (simp at c17 ⊢; omega)
          obtain rfl := Option.some.inj H; have hnb36 := NB101_102.out; have hnc36 := NB102_101.out; obtain ⟨hcz37_0, hcz37_1, hfz37_0, hfz37_1⟩ := qb2 BK101.out; have p103 : 0 ≤ (x5_2 : Int) := qT qa2; have q103 : x5_2 < (l0_0.length : Int) := qT qa2; obtain ⟨ad103, A103_0, c103_0, e103, hx103_0, hl103_0, hi103_0⟩ := at_L4 HR0_0.out x5_2 p103 q103
          cases e103
          replace hx103_0 := (HB.out.cell (qL w _ hx103_0)).trans hx103_0; have HR103_0 := qO hi103_0; have HC103_0 := qO hl103_0; clear hi103_0 hl103_0; replace p103 := eq_true p103; replace q103 := eq_true q103; obtain ⟨hcz38_0, hcz38_1, hfz38_0, hfz38_1⟩ := qb2 BK102.out; have p104 : 0 ≤ (x5_2 : Int) := qT qa2; have q104 : x5_2 < (l1_0.length : Int) := qT qa2; obtain ⟨ad104, A104_0, c104_0, e104, hx104_0, hl104_0, hi104_0⟩ := at_L4 HR1_0.out x5_2 p104 q104
          cases e104
          replace hx104_0 := (HB.out.cell (qL w _ hx104_0)).trans hx104_0; have HR104_0 := qO hi104_0; have HC104_0 := qO hl104_0; clear hi104_0 hl104_0; replace p104 := eq_true p104; replace q104 := eq_true q104; go_wp2
          repeat (go_quiet (fail); try go_wp2)
          go_ret
          exact ⟨qa10, qa21⟩
        ·rw [if_neg c16] at H
         exact absurd H qa119
       ·rw [if_neg c15] at H
        exact absurd H qa119
      ·rw [if_neg c14] at H
       have c14b0 : decide (x5_2 < (l0_0.length : Int)) = false := decide_eq_false c14; clear c14; obtain rfl := Option.some.inj H; have hnb39 := NB101_102.out; have hnc39 := NB102_101.out; obtain ⟨hcz40_0, hcz40_1, hfz40_0, hfz40_1⟩ := qb2 BK101.out; go_wp2
       repeat (go_quiet (fail); try go_wp2)
       go_ret
       exact ⟨qa10, qa21⟩


def impl_isKey.f (a0 : Int) : Option (Bool) := (impl_within.f a0 0 15).bind fun t101 => (some t101)
set_option maxHeartbeats 8000000 in
set_option maxRecDepth 100000 in
theorem impl_isKey.calls (a0 : Int) (r : Bool) (w : World) (h : impl_isKey.f a0 = some r) :
  Calls Try.prog 67 #[.int .i64 a0] w fun e w' => e = .returned (.bool r) ∧ Drawn0 w w' := by
 have H : ((impl_within.f a0 0 15).bind fun t101 => (some t101)) = some r := h; clear h; replace H := Option.bind_eq_some_iff.mp H; obtain ⟨t101, A20, H⟩ := H; replace H : (some t101) = some r := H; have A2 := qO A20; clear A20; obtain rfl := Option.some.inj H
 go_enter Try.func67, Try.ntmps67
 go_wp2_with (first | ((with_reducible refine gate_callee (f := 65) rfl ?_); refine goesL_ (some 4) rfl rfl Try.func65 qa6 rfl #[.int .i64 a0, .int .i64 0, .int .i64 15] rfl qa0 ?_; (with_reducible refine (impl_within.calls a0 0 15 t101 _ A2.out).mono ?_); rintro e w' ⟨rfl, ⟨nd, rfl⟩⟩; refine ⟨_, rfl, ?_⟩))
 go_ret
 exact ⟨qa16, qa82⟩


section
open Go.Shelf
attribute [local go_sem] Oper.semAt_some
def bw.upto {α : Type} (f : Nat → α) (k : Nat) : List α := (List.range k).map f
theorem bw.upto_succ {α : Type} (f : Nat → α) (k : Nat) : bw.upto f (k + 1) = bw.upto f k ++ [f k] := by simp [bw.upto, List.range_succ]
theorem bw.upto_length {α : Type} (f : Nat → α) (k : Nat) : (bw.upto f k).length = k := by simp [bw.upto]
def bw.g (zs : List S43) (k : Nat) : Int × S43 := (((zs.length - 1 - k : Nat) : Int), zs.getD (zs.length - 1 - k) z43)
def bw.Cells (W : World) (ad : Addr) (zs : List S43) : Prop := ∀ j, j < zs.length → W.cell? (ad.add (j * 2)) = some (.int .i64 (zs.getD j z43).f0) ∧ W.cell? ⟨(ad.add (j * 2)).block, (ad.add (j * 2)).off + 1, none⟩ = some (.int .i64 (zs.getD j z43).f1)
set_option maxRecDepth 100000 in
set_option maxHeartbeats 2000000 in
theorem bw.one_in (F : Fence) (n : Nat) (hf : F.fn 130) (hro : F.round = none) (hn : 1 ≤ n) (l Bs n₀ : Nat) (ad : Addr) (cap : Nat) (zs : List S43) (hb : ad.block < n₀) (hBsn : Bs < n₀) (hreach : zs.length ≤ 9223372036854775807) (J Jx : List (Int × S43) → World → Prop)
    (hY : ∀ pre x W, J pre W → pre.length < zs.length → YieldAt F (n - 1) Try.prog l #[.int .i64 x.1, .agg #[.int .i64 x.2.f0, .int .i64 x.2.f1]] W fun e W' =>
      (e = .returned (.bool true) ∧ J (pre ++ [x]) W' ∧ Below n₀ W W') ∨ (e = .returned (.bool false) ∧ Jx (pre ++ [x]) W'))
    (W : World) (hBs : W.cell? ⟨Bs, 0, none⟩ = some (.slice (some ad) zs.length cap)) (hc : bw.Cells W ad zs) (h0 : J [] W) :
    CallsIn F n Try.prog 130 #[.func (.yield l) #[] #[], .pointer (some ⟨Bs, 0, none⟩)] W fun e W' => (∃ v, e = .returned v) ∧
      ((∃ ys, ys = bw.upto (bw.g zs) zs.length ∧ J ys W') ∨ (∃ pre, (∃ k, k ≤ zs.length ∧ pre = bw.upto (bw.g zs) k) ∧ Jx pre W')) := by
  refine callsIn_of_wp Try.func130 rfl hf ?_ hro
  simp only [Try.ntmps130, List.size_toArray, List.length_cons, List.length_nil, Nat.reduceAdd, Nat.reduceSub, Array.replicate_succ, Array.replicate_zero, List.push_toArray, List.append_toArray, List.nil_append, List.cons_append]
  have hw1 : IntKind.i64.wrap ((zs.length : Int) - 1) = (zs.length : Int) - 1 := by rw [i64_w]; unfold wrap64; omega
  gi_wp2
  gi_loopw [3] (fun i wr => ∃ (k : Nat) (m : Int), k ≤ zs.length ∧ i = .int .i64 m ∧ m = (zs.length : Int) - 1 - (k : Int) ∧ J (bw.upto (bw.g zs) k) wr ∧ Below n₀ W wr)
    (fun i _ => (intOf i + 1).toNat)
  case atStart => exact ⟨0, _, Nat.zero_le _, rfl, by first | omega | (rw [hw1]; omega), h0, Below.refl _ _⟩
  case round =>
    obtain ⟨k, m, hk, rfl, hm, hJs, hnx⟩ := hrel
    have hBs' : wr.cell? ⟨Bs, 0, none⟩ = some (.slice (some ad) zs.length cap) := (hnx.cell (p := ⟨Bs, 0, none⟩) hBsn).trans hBs
    by_cases hlt : k < zs.length
    · obtain ⟨j, hj, rfl⟩ : ∃ j : Nat, j = zs.length - 1 - k ∧ m = (j : Int) := ⟨zs.length - 1 - k, rfl, by omega⟩
      obtain ⟨hx0, hx1⟩ := hc j (by omega)
      replace hx0 := (hnx.cell (p := ad.add (j * 2)) (by rw [add_block]; exact hb)).trans hx0
      replace hx1 := (hnx.cell (p := ⟨(ad.add (j * 2)).block, (ad.add (j * 2)).off + 1, none⟩) (by show (ad.add (j * 2)).block < n₀; rw [add_block]; exact hb)).trans hx1
      obtain ⟨fn, tmps, assign, body, hy, hR⟩ := hY _ (bw.g zs k) wr hJs (by rw [bw.upto_length]; exact hlt)
      have hg : bw.g zs k = ((j : Int), zs.getD j z43) := by rw [hj]; rfl
      rw [hg] at hy hR
      dsimp only at hy
      generalize hzj : zs.getD j z43 = z at hx0 hx1 hy hR hg
      have p1 : (0 : Int) ≤ (j : Int) := by omega
      have p2 : (j : Int) < (zs.length : Int) := by omega
      have p3 : j < zs.length := by omega
      have HJ := Aside0.mk hj
      clear hj hm
      gi_wp2
      refine hR.mono ?_
      rintro e W3 (⟨rfl, hJ3, hk3⟩ | ⟨rfl, hJx3⟩)
      · gi_wp2
        go_roundw
        case rel => exact ⟨k + 1, _, by omega, rfl, by have h_ := HJ.out; first | omega | (rw [i64_w]; unfold wrap64; omega), by rw [bw.upto_succ, hg]; exact hJ3, hnx.trans hk3⟩
        case measure => (simp only [intOf, i64_w]; first | omega | (unfold wrap64; omega))
      · gi_wp2
        refine bodyPost_ret (results_none rfl _ _ _) rfl ?_
        exact ⟨⟨_, rfl⟩, .inr ⟨_, ⟨k + 1, by omega, by rw [bw.upto_succ, hg]⟩, hJx3⟩⟩
    · obtain rfl : k = zs.length := by omega
      obtain rfl : m = -1 := by omega
      gi_wp2
      go_end0
      exact ⟨⟨_, rfl⟩, .inl ⟨_, rfl, hJs⟩⟩
set_option maxRecDepth 100000 in
set_option maxHeartbeats 1000000 in
theorem bw.nil_in (F : Fence) (n : Nat) (hf : F.fn 130) (hro : F.round = none) (l Bs : Nat) (A : Option Addr) (cap : Nat) (J : List (Int × S43) → World → Prop) (W : World) (hBs : W.cell? ⟨Bs, 0, none⟩ = some (.slice A 0 cap)) (h0 : J [] W) :
    CallsIn F n Try.prog 130 #[.func (.yield l) #[] #[], .pointer (some ⟨Bs, 0, none⟩)] W fun e W' => (∃ v, e = .returned v) ∧ J [] W' := by
  refine callsIn_of_wp Try.func130 rfl hf ?_ hro
  simp only [Try.ntmps130, List.size_toArray, List.length_cons, List.length_nil, Nat.reduceAdd, Nat.reduceSub, Array.replicate_succ, Array.replicate_zero, List.push_toArray, List.append_toArray, List.nil_append, List.cons_append]
  gi_wp2
  gi_loopw [3] (fun i wr => i = .int .i64 (-1) ∧ J [] wr) (fun _ _ => 0)
  case atStart => exact ⟨by first | rfl | (simp; done) | (simp [i64_w, wrap64]; done), h0⟩
  case round =>
    obtain ⟨rfl, hJs⟩ := hrel
    gi_wp2
    go_end0
    exact ⟨⟨_, rfl⟩, hJs⟩
set_option maxHeartbeats 1000000 in
theorem bw.make_in (F : Fence) (n : Nat) (hf : F.fn 112) (hro : F.round = none) (a : Option Addr) (len cap : Nat) (w : World) :
    CallsIn F n Try.prog 112 #[.slice a len cap] w fun e w' => e = .returned (.func (.func 130) #[] #[.pointer (some ⟨w.heap.size, 0, none⟩)]) ∧ w' = w.alloc (.cells #[.slice a len cap] 41) := by
  refine callsIn_of_wp Try.func112 rfl hf ?_ hro
  simp only [Try.ntmps112, List.size_toArray, List.length_cons, List.length_nil, Nat.reduceAdd, Nat.reduceSub, Array.replicate_succ, Array.replicate_zero, List.push_toArray, List.append_toArray, List.nil_append, List.cons_append]
  gi_wp2
  go_ret
  exact ⟨rfl, rfl⟩
theorem bw.Cells_of {W : World} {A : Option Addr} {zs : List S43} (h : Kd.C k43 W A zs.length zs) (hz : 0 < zs.length) : ∃ ad, A = some ad ∧ ad.block < W.heap.size ∧ bw.Cells W ad zs := by
  obtain ⟨ad, e, h0, _⟩ := at_T43 h 0 (by omega) (by omega)
  refine ⟨ad, e, ?_, fun j hj => ?_⟩
  · have := World.block_lt_of_cell? W _ h0
    rwa [add_block] at this
  · obtain ⟨ad', e', h1, h2⟩ := at_T43 h (j : Int) (by omega) (by omega)
    rw [e] at e'
    cases e'
    simp only [Int.toNat_natCast] at h1 h2
    exact ⟨h1, h2⟩
theorem bw.stops (F : Fence) (n : Nat) (hf : F.fn 130) (hro : F.round = none) (hn : 1 ≤ n) (Bs n₀ : Nat) (A : Option Addr) (cap : Nat) (zs : List S43) (hreach : zs.length ≤ 9223372036854775807) (w w1 : World) (hBs : Bs < n₀) (hn₀ : n₀ ≤ w.heap.size) (hw1 : w1.heap.size ≤ n₀) (hb1 : Below w1.heap.size w1 w)
    (hc : w.cell? ⟨Bs, 0, none⟩ = some (.slice A zs.length cap)) (hI : Kd.C k43 w1 A zs.length zs) :
    SeqStopsK F n Try.prog 130 #[.pointer (some ⟨Bs, 0, none⟩)] (fun x : Int × S43 => #[Value.int .i64 x.1, .agg #[.int .i64 x.2.f0, .int .i64 x.2.f1]]) (Below n₀) (fun ys => ys = bw.upto (bw.g zs) zs.length) (fun pre => ∃ k, k ≤ zs.length ∧ pre = bw.upto (bw.g zs) k) zs.length w := fun l J Jx W hW _ _ hY h0 => by
  have hc' := (hW.cell (p := ⟨Bs, 0, none⟩) (Nat.lt_of_lt_of_le hBs hn₀)).trans hc
  by_cases hz : 0 < zs.length
  · obtain ⟨ad, rfl, hbl, hcs⟩ := bw.Cells_of hI hz
    have hcW : bw.Cells W ad zs := fun j hj => by
      obtain ⟨h1, h2⟩ := hcs j hj
      have b1 : (ad.add (j * 2)).block < w1.heap.size := by rw [add_block]; exact hbl
      exact ⟨(hW.cell (p := ad.add (j * 2)) (by omega)).trans ((hb1.cell b1).trans h1), (hW.cell (p := ⟨(ad.add (j * 2)).block, (ad.add (j * 2)).off + 1, none⟩) (by show (ad.add (j * 2)).block < _; omega)).trans ((hb1.cell (p := ⟨(ad.add (j * 2)).block, (ad.add (j * 2)).off + 1, none⟩) b1).trans h2)⟩
    exact bw.one_in F n hf hro hn l Bs n₀ ad cap zs (by omega) hBs hreach J Jx hY W hc' hcW h0
  · have hz0 : zs.length = 0 := by omega
    rw [hz0] at hc' ⊢
    exact (bw.nil_in F n hf hro l Bs A cap J W hc' h0).mono fun e W' ⟨he, hj⟩ => ⟨he, .inl ⟨_, rfl, hj⟩⟩
def bw.val (zs : List S43) (ts : Int) : Int := match (bw.upto (bw.g zs) zs.length).find? (fun p => decide (p.2.f0 ≤ ts)) with | some p => p.2.f1 | none => 0
theorem bw.val_none {zs : List S43} {ts : Int} (h : ∀ p ∈ bw.upto (bw.g zs) zs.length, ¬ p.2.f0 ≤ ts) : bw.val zs ts = 0 := by
  unfold bw.val
  rw [List.find?_eq_none.2 (fun p hp => by simpa using h p hp)]
theorem bw.val_some {zs : List S43} {ts : Int} {k : Nat} {q : List (Int × S43)} {x : Int × S43} (hk : k ≤ zs.length) (e : bw.upto (bw.g zs) k = q ++ [x]) (h : ∀ p ∈ q, ¬ p.2.f0 ≤ ts) (hx : x.2.f0 ≤ ts) : bw.val zs ts = x.2.f1 := by
  have hpre : bw.upto (bw.g zs) zs.length = bw.upto (bw.g zs) k ++ ((List.range (zs.length - k)).map (k + ·)).map (bw.g zs) := by
    unfold bw.upto
    rw [← List.map_append, ← List.range_add]
    congr 2
    omega
  unfold bw.val
  rw [hpre, e, List.append_assoc, List.find?_append, List.find?_eq_none.2 (fun p hp => by simpa using h p hp)]
  simp [hx]
def bw.No (pre : List (Int × S43)) (ts : Int) : Prop := ∀ p ∈ pre, ¬ p.2.f0 ≤ ts
def bw.Hit (pre : List (Int × S43)) (ts : Int) : Prop := ∃ q x, pre = q ++ [x] ∧ bw.No q ts ∧ x.2.f0 ≤ ts
theorem bw.No_nil (ts : Int) : bw.No [] ts := fun p hp => by cases hp
theorem bw.No_snoc {pre : List (Int × S43)} {x : Int × S43} {ts : Int} (h : bw.No pre ts) (hx : ¬ x.2.f0 ≤ ts) : bw.No (pre ++ [x]) ts := fun p hq => by
  rcases List.mem_append.1 hq with h2 | h2
  · exact h p h2
  · rw [List.mem_singleton.1 h2]; exact hx
def bw.last (pre : List (Int × S43)) : Int := match pre.getLast? with | some p => p.2.f1 | none => 0
theorem bw.last_snoc (q : List (Int × S43)) (x : Int × S43) : bw.last (q ++ [x]) = x.2.f1 := by simp [bw.last]
set_option maxRecDepth 100000 in
set_option maxHeartbeats 4000000 in
theorem bw.readAt_in (F : Fence) (n : Nat) (h3 : F.fn 68) (h4 : F.fn 112) (h5 : F.fn 130) (hro : F.round = none) (hn : 6 ≤ n) (A0_0 : Option Addr) (c0_0 : Nat) (l0_0 : List (List (S43))) (a0_1 : Int) (a1 : Int) (a2 : Int) (w : World) (hr0_0 : Kd.C (Kd.slice 43 k43) w A0_0 l0_0.length l0_0) (h0 : 0 ≤ a1) (h1 : a1 < (l0_0.length : Int)) :
    CallsIn F n Try.prog 68 #[.agg #[.slice A0_0 l0_0.length c0_0, .int .i64 a0_1], .int .i64 a1, .int .i64 a2] w fun e w' => e = .returned (.int .i64 (bw.val (rd_L4 l0_0 a1) a2)) ∧ Below w.heap.size w w' := by
  have hn1 : 1 ≤ n := by omega
  have hu29 := Try.underlying28
  have hu61 := Try.underlying43
  obtain ⟨ad, A', c', rfl, hx, hl', hrow⟩ := at_L4 hr0_0 a1 h0 h1
  have hreach : (rd_L4 l0_0 a1).length ≤ 9223372036854775807 := hrow.2.1
  have hblk := World.block_lt_of_cell? w _ hx
  have p1 := eq_true h0
  have p2 := eq_true h1
  generalize rd_L4 l0_0 a1 = zs at hx hl' hrow hreach ⊢
  obtain ⟨W1, hW1⟩ : ∃ W1, w.alloc (.cells #[.slice (some ad) l0_0.length c0_0, .int .i64 a0_1] 28) = W1 := ⟨_, rfl⟩
  obtain ⟨W2, hW2⟩ : ∃ W2, W1.alloc (.cells #[.int .i64 a2] 3) = W2 := ⟨_, rfl⟩
  obtain ⟨W3, hW3⟩ : ∃ W3, W2.alloc (.cells #[.int .i64 0] 3) = W3 := ⟨_, rfl⟩
  obtain ⟨W0, hW0⟩ : ∃ W0, W3.alloc (.cells #[.slice A' zs.length c'] 41) = W0 := ⟨_, rfl⟩
  have s1 : W1.heap.size = w.heap.size + 1 := by rw [← hW1]; simp
  have s2 : W2.heap.size = w.heap.size + 2 := by rw [← hW2]; simp; omega
  have s3 : W3.heap.size = w.heap.size + 3 := by rw [← hW3]; simp; omega
  have s0 : W0.heap.size = w.heap.size + 4 := by rw [← hW0]; simp; omega
  have hB3 : Below w.heap.size w W3 := by rw [← hW3, ← hW2, ← hW1]; exact (((Below.refl _ w).alloc (Nat.le_refl _) _).alloc (by simp) _).alloc (by simp; omega) _
  have hB0 : Below w.heap.size w W0 := by rw [← hW0]; exact hB3.alloc (by omega) _
  have bT : Boxed W0 (w.heap.size + 1) 3 (.int .i64 a2) := by
    have := ((Boxed.new W1 3 (.int .i64 a2)).alloc (.cells #[.int .i64 0] 3)).alloc (.cells #[.slice A' zs.length c'] 41)
    rw [hW2, hW3, hW0, s1] at this; exact this
  have bR : Boxed W0 (w.heap.size + 2) 3 (.int .i64 0) := by
    have := (Boxed.new W2 3 (.int .i64 0)).alloc (.cells #[.slice A' zs.length c'] 41)
    rw [hW3, hW0, s2] at this; exact this
  have bS : Boxed W0 (w.heap.size + 3) 41 (.slice A' zs.length c') := by
    have := Boxed.new W3 41 (.slice A' zs.length c')
    rw [hW0, s3] at this; exact this
  have hs1 : W3.cell? ⟨w.heap.size, 0, none⟩ = some (.slice (some ad) l0_0.length c0_0) := by
    have hb : W1.heap[w.heap.size]? = some (.cells #[.slice (some ad) l0_0.length c0_0, .int .i64 a0_1] 28 (0, 0)) := by rw [← hW1]; exact World.alloc_heap_new w _
    have hb3 : W3.heap[w.heap.size]? = some (.cells #[.slice (some ad) l0_0.length c0_0, .int .i64 a0_1] 28 (0, 0)) := by
      rw [← hW3, ← hW2]
      exact blk_alloc (blk_alloc hb _) _
    exact (blk_cell hb3 0).trans rfl
  have hx3 : W3.cell? (ad.add a1.toNat) = some (.slice A' zs.length c') := (hB3.cell hblk).trans hx
  refine callsIn_of_wp_marks Try.func68 rfl h3 ?_ hro
  simp only [Try.ntmps68, List.size_toArray, List.length_cons, List.length_nil, Nat.reduceAdd, Nat.reduceSub, Array.replicate_succ, Array.replicate_zero, List.push_toArray, List.append_toArray, List.nil_append, List.cons_append]
  gi_wp2_with (gi_at_call 112; refine (bw.make_in F (n - 1) h4 hro _ _ _ _).mono ?_; rintro e w' ⟨rfl, rfl⟩)
  clear hs1 hx3 hW1 hW2 hW3 hW0 hx hu29
  refine wpIn_rangeFunc_ownH hro hn1 (gf := 130) (lb := #[.pointer (some ⟨w.heap.size + 3, 0, none⟩)]) rfl h5 (enters_of Try.func130 (by kernel_rfl) rfl)
    (bw.stops F (n - 1) h5 hro (by omega) (w.heap.size + 3) (w.heap.size + 4) A' c' zs hreach W0 w (by omega) (by omega) (by omega) hB0 bS.cell hrow) belowK_t (belowK_b (by omega)) (Below.refl _ _) (fun _ => rfl)
    (fun pre W => (((bw.No pre a2 ∧ Boxed W (w.heap.size + 2) 3 (.int .i64 0)) ∧ Boxed W (w.heap.size + 1) 3 (.int .i64 a2)) ∧ Boxed W (w.heap.size + 3) 41 (.slice A' zs.length c')) ∧ Below w.heap.size w W)
    (fun c pre W => ((c = .ret ∧ bw.Hit pre a2) ∧ Boxed W (w.heap.size + 2) 3 (.int .i64 (bw.last pre))) ∧ Below w.heap.size w W)
    (OwnFrom.and (OwnFrom.and (OwnFrom.and (OwnFrom.and (ownFrom_pure _ _) (Own.from (boxed_own _ _ _) _)) (Own.from (boxed_own _ _ _) _)) (Own.from (boxed_own _ _ _) _)) (ownFrom_below (Nat.le_refl _) (by omega)))
    (fun c => OwnFrom.and (OwnFrom.and (ownFrom_pure _ _) (Own.from (boxed_own _ _ (fun pre => .int .i64 (bw.last pre))) _)) (ownFrom_below (Nat.le_refl _) (by omega)))
    ⟨⟨⟨⟨bw.No_nil a2, bR⟩, bT⟩, bS⟩, hB0⟩
    (fun x a' W => ∃ Bx, w.heap.size + 3 < Bx ∧ W.heap[Bx]? = some (.cells #[.int .i64 x.2.f0, .int .i64 x.2.f1] 43 (0, 0)) ∧ a' = { tmps := #[.agg #[.slice (some ad) l0_0.length c0_0, .int .i64 a0_1], .int .i64 a1, .int .i64 a2, .pointer (some ⟨w.heap.size, 0, none⟩), undef, .pointer (some ⟨w.heap.size + 1, 0, none⟩), .pointer (some ⟨w.heap.size + 2, 0, none⟩), undef, .pointer (some ⟨Bx, 0, none⟩), .pointer (some ⟨w.heap.size, 0, none⟩), .slice (some ad) l0_0.length c0_0, .int .i64 a1, .pointer (some (ad.add a1.toNat)), .slice A' zs.length c', .func (.func 130) #[] #[.pointer (some ⟨w.heap.size + 3, 0, none⟩)], .int .i64 x.1, .agg #[.int .i64 x.2.f0, .int .i64 x.2.f1], undef, undef, undef, undef, undef, undef], defers := [] })
    (fun x a' _ X Y row hs hg hr => by
      obtain ⟨Bx, e1, e2, e3⟩ := hs
      exact ⟨Bx, e1, (hg.block Bx (Array.getElem?_eq_some_iff.1 e2).1 (fun e' => by obtain ⟨_, o, ho, hc⟩ := hr Bx e'.symm; rw [e2] at ho; cases ho; cases hc)).trans e2, e3⟩)
    ?assign ?body ?done ?stop
  case assign =>
    rintro l pre x W K ⟨⟨⟨⟨hp, bR1⟩, bT1⟩, bS1⟩, hB1⟩ hK
    have hlt := bS1.lt
    gi_wp2
    exact hK _ _ ((KeepsOthers.alloc _ _).from _) ((Below.refl _ W).alloc (by omega) _) ⟨⟨⟨⟨hp, bR1.alloc _⟩, bT1.alloc _⟩, bS1.alloc _⟩, hB1.alloc hB1.size _⟩ ⟨W.heap.size, hlt, World.alloc_heap_new W _, rfl⟩
  case body =>
    rintro l pre x a' W hl ⟨r, hr⟩ ⟨⟨⟨⟨hp, bR1⟩, bT1⟩, bS1⟩, hB1⟩ ⟨Bx, hBx, bX, rfl⟩ hlt
    have cT := bT1.cell
    have cR := bR1.cell
    have fR := bR1.frozen
    have cX0 : W.cell? ⟨Bx, 0, none⟩ = some (.int .i64 x.2.f0) := (blk_cell bX 0).trans rfl
    have cX1 : W.cell? ⟨Bx, 1, none⟩ = some (.int .i64 x.2.f1) := (blk_cell bX 1).trans rfl
    by_cases hcmp : x.2.f0 ≤ a2
    · have hd : decide (x.2.f0 ≤ a2) = true := decide_eq_true hcmp
      have HC := Aside0.mk hcmp
      clear hcmp
      gi_wp2
      exact ⟨(KeepsOthers.setCell _ _ _).from _, ⟨⟨rfl, ⟨pre, x, rfl, hp, HC.out⟩⟩, by rw [bw.last_snoc]; exact bR1.set _⟩, hB1.setCell (p := ⟨w.heap.size + 2, 0, none⟩) (by show w.heap.size ≤ w.heap.size + 2; omega) _⟩
    · have hd : decide (x.2.f0 ≤ a2) = false := decide_eq_false hcmp
      have HC := Aside0.mk hcmp
      clear hcmp
      gi_wp2
      exact ⟨KeepsFrom.refl _ _, Below.refl _ _, ⟨⟨⟨bw.No_snoc hp (by have := HC.out; omega), bR1⟩, bT1⟩, bS1⟩, hB1⟩
  case done =>
    rintro D ys W hD rfl ⟨⟨⟨⟨hp, bR1⟩, bT1⟩, bS1⟩, hB1⟩ hK
    have cR := bR1.cell
    have fR := bR1.frozen
    gi_wp2
    have hK' := (KeepsOthers.setCell W ⟨w.heap.size + 2, 0, none⟩ (.int .i64 0)).same D _ hK rfl
    refine ⟨by simp, .inl ⟨_, _, rfl, run_takeDeferred hK', ?_⟩⟩
    have hc5 := cell_kept (bR1.set (.int .i64 0)).cell (grownBy_putObj' _ D (.deferred none)) (fun r e => by cases e; exact ⟨_, hK', rfl⟩)
    refine ⟨.int .i64 0, ?_, by rw [bw.val_none hp], (hB1.setCell (p := ⟨w.heap.size + 2, 0, none⟩) (by show w.heap.size ≤ w.heap.size + 2; omega) _).trans (belowK_b (w := w) (Nat.le_refl _) _ D _ _ (by omega) hK' rfl rfl)⟩
    simp [results, Try.f68, go_sem, hc5]
  case stop =>
    rintro D c pre W hD ⟨k, hk, hpre⟩ ⟨⟨⟨rfl, q, x, rfl, hq, hx2⟩, bR1⟩, hB1⟩ hK
    gi_wp2
    refine ⟨by simp, .inl ⟨_, _, rfl, run_takeDeferred hK, ?_⟩⟩
    have hc5 := cell_kept bR1.cell (grownBy_putObj' _ D (.deferred none)) (fun r e => by cases e; exact ⟨_, hK, rfl⟩)
    refine ⟨.int .i64 (bw.last (q ++ [x])), ?_, by rw [bw.last_snoc, bw.val_some hk hpre.symm hq hx2], hB1.trans (belowK_b (w := w) (Nat.le_refl _) W D _ _ (by omega) hK rfl rfl)⟩
    simp [results, Try.f68, go_sem, hc5]
def impl_Store_readAt.f (l0_0 : List (List (S43))) (a0_1 : Int) (a1 : Int) (a2 : Int) : Option (Int) := if 0 ≤ a1 then (if a1 < (l0_0.length : Int) then (some (bw.val (rd_L4 l0_0 a1) a2)) else (none)) else (none)
theorem impl_Store_readAt.calls (A0_0 : Option Addr) (c0_0 : Nat) (l0_0 : List (List (S43))) (a0_1 : Int) (a1 : Int) (a2 : Int) (r : Int) (w : World) (hr0_0 : Kd.C (Kd.slice 43 k43) w A0_0 l0_0.length l0_0) (hc0_0 : l0_0.length ≤ c0_0) (h : impl_Store_readAt.f l0_0 a0_1 a1 a2 = some r) :
    Calls Try.prog 68 #[.agg #[.slice A0_0 l0_0.length c0_0, .int .i64 a0_1], .int .i64 a1, .int .i64 a2] w fun e w' => e = .returned (.int .i64 r) ∧ Below w.heap.size w w' := by
  unfold impl_Store_readAt.f at h
  by_cases h0 : 0 ≤ a1
  · rw [if_pos h0] at h
    by_cases h1 : a1 < (l0_0.length : Int)
    · rw [if_pos h1] at h
      obtain rfl := Option.some.inj h
      exact (callsIn_wide (n := 6)).1 (bw.readAt_in Fence.wide 6 trivial trivial trivial rfl (Nat.le_refl _) A0_0 c0_0 l0_0 a0_1 a1 a2 w hr0_0 h0 h1)
    · rw [if_neg h1] at h; cases h
  · rw [if_neg h0] at h; cases h
end


def impl_ReadAt.f (k : Nat) (l0_0 : List (List (S43))) (a0_1 : Int) (a1 : Int) (a2 : Int) : Option (Int × Int) := (impl_StoreOK.f k l0_0 a0_1).bind fun t102 => (if t102 = true then ((impl_isKey.f a1).bind fun t103 => (if t103 = true then ((impl_Store_isHour.f l0_0 a0_1 a2).bind fun t104 => (if t104 = true then ((impl_Store_readAt.f l0_0 a0_1 a1 a2).bind fun t105 => (some (t105, 0))) else (some (0, 4)))) else (some (0, 4)))) else (some (0, 1)))
set_option maxHeartbeats 8000000 in
set_option maxRecDepth 100000 in
theorem impl_ReadAt.calls (k : Nat) (A0_0 : Option Addr) (c0_0 : Nat) (l0_0 : List (List (S43))) (a0_1 : Int) (a1 : Int) (a2 : Int) (r1 : Int) (r2 : Int) (w : World) (hr0_0 : Kd.C (Kd.slice 43 k43) w A0_0 l0_0.length l0_0) (hc0_0 : l0_0.length ≤ c0_0) (h : impl_ReadAt.f k l0_0 a0_1 a1 a2 = some (r1, r2)) :
  Calls Try.prog 23 #[.agg #[.slice A0_0 l0_0.length c0_0, .int .i64 a0_1], .int .i64 a1, .int .i64 a2] w fun e w' => e = .returned (.tuple #[.int .i64 r1, .int .i64 r2]) ∧ Below w.heap.size w w' := by
 have hu28 := Try.underlying28; have HR0_0 := qO hr0_0; have HC0_0 := qO hc0_0; clear hr0_0 hc0_0; have HB := qO (Below.refl w.heap.size w); have H : ((impl_StoreOK.f k l0_0 a0_1).bind fun t102 => (if t102 = true then ((impl_isKey.f a1).bind fun t103 => (if t103 = true then ((impl_Store_isHour.f l0_0 a0_1 a2).bind fun t104 => (if t104 = true then ((impl_Store_readAt.f l0_0 a0_1 a1 a2).bind fun t105 => (some (t105, 0))) else (some (0, 4)))) else (some (0, 4)))) else (some (0, 1)))) = some (r1, r2) := h; clear h; replace H := Option.bind_eq_some_iff.mp H; obtain ⟨t102, A40, H⟩ := H; replace H : (if t102 = true then ((impl_isKey.f a1).bind fun t103 => (if t103 = true then ((impl_Store_isHour.f l0_0 a0_1 a2).bind fun t104 => (if t104 = true then ((impl_Store_readAt.f l0_0 a0_1 a1 a2).bind fun t105 => (some (t105, 0))) else (some (0, 4)))) else (some (0, 4)))) else (some (0, 1))) = some (r1, r2) := H; have A4 := qO A40; clear A40
 by_cases c5 : t102 = true
 ·subst c5
  have H1 : ((impl_isKey.f a1).bind fun t103 => (if t103 = true then ((impl_Store_isHour.f l0_0 a0_1 a2).bind fun t104 => (if t104 = true then ((impl_Store_readAt.f l0_0 a0_1 a1 a2).bind fun t105 => (some (t105, 0))) else (some (0, 4)))) else (some (0, 4)))) = some (r1, r2) := by rw [if_pos rfl] at H; exact H
  clear H; have H := H1; clear H1; replace H := Option.bind_eq_some_iff.mp H; obtain ⟨t103, A60, H⟩ := H; replace H : (if t103 = true then ((impl_Store_isHour.f l0_0 a0_1 a2).bind fun t104 => (if t104 = true then ((impl_Store_readAt.f l0_0 a0_1 a1 a2).bind fun t105 => (some (t105, 0))) else (some (0, 4)))) else (some (0, 4))) = some (r1, r2) := H; have A6 := qO A60; clear A60
  by_cases c7 : t103 = true
  ·subst c7
   have H1 : ((impl_Store_isHour.f l0_0 a0_1 a2).bind fun t104 => (if t104 = true then ((impl_Store_readAt.f l0_0 a0_1 a1 a2).bind fun t105 => (some (t105, 0))) else (some (0, 4)))) = some (r1, r2) := by rw [if_pos rfl] at H; exact H
   clear H; have H := H1; clear H1; replace H := Option.bind_eq_some_iff.mp H; obtain ⟨t104, A80, H⟩ := H; replace H : (if t104 = true then ((impl_Store_readAt.f l0_0 a0_1 a1 a2).bind fun t105 => (some (t105, 0))) else (some (0, 4))) = some (r1, r2) := H; have A8 := qO A80; clear A80
   by_cases c9 : t104 = true
   ·subst c9
    have H1 : ((impl_Store_readAt.f l0_0 a0_1 a1 a2).bind fun t105 => (some (t105, 0))) = some (r1, r2) := by rw [if_pos rfl] at H; exact H
    clear H; have H := H1; clear H1; replace H := Option.bind_eq_some_iff.mp H; obtain ⟨t105, A100, H⟩ := H; replace H : (some (t105, 0)) = some (r1, r2) := H; have A10 := qO A100; clear A100; simp only [Option.some.injEq, Prod.mk.injEq] at H; obtain ⟨rfl, rfl⟩ := H
    go_enter Try.func23, Try.ntmps23
    go_wp2_with (first | ((with_reducible refine gate_dst (N := 3) rfl ?_); refine qX 3 #[.slice A0_0 l0_0.length c0_0, .int .i64 a0_1] 28 ?_; intro gb101 hg w11 hbox hb; have hx_ := qHX HB hb qa1; have BK101 := qO (hbox); have GW101 := qO ((qa20 : w.heap.size ≤ gb101)); have GE101 := GW101; replace HB := qO (below_step (below_step HB.out hx_) hb); clear hx_ hb hbox hg; obtain ⟨hcz12_0, hcz12_1, hfz12_0, hfz12_1⟩ := qb2 BK101.out) | ((with_reducible refine gate_callee (f := 22) rfl ?_); refine goesL_ (some 10) rfl rfl Try.func22 qa6 rfl #[.agg #[.slice A0_0 l0_0.length c0_0, .int .i64 a0_1]] rfl qa0 ?_; (with_reducible refine (impl_StoreOK.calls k _ _ l0_0 a0_1 true _ ?side1 ?side2 A4.out).mono ?_); (case side1 => exact qa17); (case side2 => exact HC0_0.out); rintro e w13 ⟨rfl, hb⟩; have hx_ := qHX HB hb qa1; refine ⟨_, rfl, ?_⟩; replace BK101 := qO (qB BK101.out hx_ hb); replace HB := qO (below_step (below_step HB.out hx_) hb); clear hx_; (try clear hb); (try clear hb2); (try clear hk); (try clear hi)) | ((with_reducible refine gate_callee (f := 67) rfl ?_); refine goesL_ (some 14) rfl rfl Try.func67 qa6 rfl #[.int .i64 a1] rfl qa0 ?_; (with_reducible refine (impl_isKey.calls a1 true _ A6.out).mono ?_); rintro e w' ⟨rfl, ⟨nd, rfl⟩⟩; refine ⟨_, rfl, ?_⟩; obtain ⟨hcz14_0, hcz14_1, hfz14_0, hfz14_1⟩ := qb2 BK101.out) | (go_at_call 57; (with_reducible refine (impl_Store_isHour.calls _ _ l0_0 a0_1 a2 true _ ?side1 ?side2 A8.out).mono ?_); (case side1 => exact qa134); (case side2 => exact HC0_0.out); rintro e w15 ⟨rfl, hb⟩; have hx_ := qHX HB hb qa1; replace BK101 := qO (qB BK101.out hx_ hb); replace HB := qO (below_step (below_step HB.out hx_) hb); clear hx_; (try clear hb); (try clear hb2); (try clear hk); (try clear hi); obtain ⟨hcz16_0, hcz16_1, hfz16_0, hfz16_1⟩ := qb2 BK101.out) | ((with_reducible refine gate_callee (f := 68) rfl ?_); refine goesL_ (some 25) rfl rfl Try.func68 qa6 rfl #[.agg #[.slice A0_0 l0_0.length c0_0, .int .i64 a0_1], .int .i64 a1, .int .i64 a2] rfl qa0 ?_; (with_reducible refine (impl_Store_readAt.calls _ _ l0_0 a0_1 a1 a2 t105 _ ?side1 ?side2 A10.out).mono ?_); (case side1 => exact qa17); (case side2 => exact HC0_0.out); rintro e w17 ⟨rfl, hb⟩; have hx_ := qHX HB hb qa1; refine ⟨_, rfl, ?_⟩; replace BK101 := qO (qB BK101.out hx_ hb); replace HB := qO (below_step (below_step HB.out hx_) hb); clear hx_; (try clear hb); (try clear hb2); (try clear hk); (try clear hi)))
    go_ret2
    exact ⟨qa10, qa9⟩
   ·replace c9 := Bool.eq_false_iff.mpr c9
    subst c9; have H1 : (some (0, 4)) = some (r1, r2) := by rw [if_neg (show ¬ (false = true) by decide)] at H; exact H
    clear H; have H := H1; clear H1; simp only [Option.some.injEq, Prod.mk.injEq] at H; obtain ⟨rfl, rfl⟩ := H
    go_enter Try.func23, Try.ntmps23
    go_wp2_with (first | ((with_reducible refine gate_dst (N := 3) rfl ?_); refine qX 3 #[.slice A0_0 l0_0.length c0_0, .int .i64 a0_1] 28 ?_; intro gb101 hg w18 hbox hb; have hx_ := qHX HB hb qa1; have BK101 := qO (hbox); have GW101 := qO ((qa20 : w.heap.size ≤ gb101)); have GE101 := GW101; replace HB := qO (below_step (below_step HB.out hx_) hb); clear hx_ hb hbox hg; obtain ⟨hcz19_0, hcz19_1, hfz19_0, hfz19_1⟩ := qb2 BK101.out) | ((with_reducible refine gate_callee (f := 22) rfl ?_); refine goesL_ (some 10) rfl rfl Try.func22 qa6 rfl #[.agg #[.slice A0_0 l0_0.length c0_0, .int .i64 a0_1]] rfl qa0 ?_; (with_reducible refine (impl_StoreOK.calls k _ _ l0_0 a0_1 true _ ?side1 ?side2 A4.out).mono ?_); (case side1 => exact qa17); (case side2 => exact HC0_0.out); rintro e w20 ⟨rfl, hb⟩; have hx_ := qHX HB hb qa1; refine ⟨_, rfl, ?_⟩; replace BK101 := qO (qB BK101.out hx_ hb); replace HB := qO (below_step (below_step HB.out hx_) hb); clear hx_; (try clear hb); (try clear hb2); (try clear hk); (try clear hi)) | ((with_reducible refine gate_callee (f := 67) rfl ?_); refine goesL_ (some 14) rfl rfl Try.func67 qa6 rfl #[.int .i64 a1] rfl qa0 ?_; (with_reducible refine (impl_isKey.calls a1 true _ A6.out).mono ?_); rintro e w' ⟨rfl, ⟨nd, rfl⟩⟩; refine ⟨_, rfl, ?_⟩; obtain ⟨hcz21_0, hcz21_1, hfz21_0, hfz21_1⟩ := qb2 BK101.out) | (go_at_call 57; (with_reducible refine (impl_Store_isHour.calls _ _ l0_0 a0_1 a2 false _ ?side1 ?side2 A8.out).mono ?_); (case side1 => exact qa134); (case side2 => exact HC0_0.out); rintro e w22 ⟨rfl, hb⟩; have hx_ := qHX HB hb qa1; replace BK101 := qO (qB BK101.out hx_ hb); replace HB := qO (below_step (below_step HB.out hx_) hb); clear hx_; (try clear hb); (try clear hb2); (try clear hk); (try clear hi)))
    go_ret2
    exact ⟨qa10, qa9⟩
  ·replace c7 := Bool.eq_false_iff.mpr c7
   subst c7; have H1 : (some (0, 4)) = some (r1, r2) := by rw [if_neg (show ¬ (false = true) by decide)] at H; exact H
   clear H; have H := H1; clear H1; simp only [Option.some.injEq, Prod.mk.injEq] at H; obtain ⟨rfl, rfl⟩ := H
   go_enter Try.func23, Try.ntmps23
   go_wp2_with (first | ((with_reducible refine gate_dst (N := 3) rfl ?_); refine qX 3 #[.slice A0_0 l0_0.length c0_0, .int .i64 a0_1] 28 ?_; intro gb101 hg w23 hbox hb; have hx_ := qHX HB hb qa1; have BK101 := qO (hbox); have GW101 := qO ((qa20 : w.heap.size ≤ gb101)); have GE101 := GW101; replace HB := qO (below_step (below_step HB.out hx_) hb); clear hx_ hb hbox hg; obtain ⟨hcz24_0, hcz24_1, hfz24_0, hfz24_1⟩ := qb2 BK101.out) | ((with_reducible refine gate_callee (f := 22) rfl ?_); refine goesL_ (some 10) rfl rfl Try.func22 qa6 rfl #[.agg #[.slice A0_0 l0_0.length c0_0, .int .i64 a0_1]] rfl qa0 ?_; (with_reducible refine (impl_StoreOK.calls k _ _ l0_0 a0_1 true _ ?side1 ?side2 A4.out).mono ?_); (case side1 => exact qa17); (case side2 => exact HC0_0.out); rintro e w25 ⟨rfl, hb⟩; have hx_ := qHX HB hb qa1; refine ⟨_, rfl, ?_⟩; replace BK101 := qO (qB BK101.out hx_ hb); replace HB := qO (below_step (below_step HB.out hx_) hb); clear hx_; (try clear hb); (try clear hb2); (try clear hk); (try clear hi)) | ((with_reducible refine gate_callee (f := 67) rfl ?_); refine goesL_ (some 14) rfl rfl Try.func67 qa6 rfl #[.int .i64 a1] rfl qa0 ?_; (with_reducible refine (impl_isKey.calls a1 false _ A6.out).mono ?_); rintro e w' ⟨rfl, ⟨nd, rfl⟩⟩; refine ⟨_, rfl, ?_⟩))
   go_ret2
   exact ⟨qa10, qa9⟩
 ·replace c5 := Bool.eq_false_iff.mpr c5
  subst c5; have H1 : (some (0, 1)) = some (r1, r2) := by rw [if_neg (show ¬ (false = true) by decide)] at H; exact H
  clear H; have H := H1; clear H1; simp only [Option.some.injEq, Prod.mk.injEq] at H; obtain ⟨rfl, rfl⟩ := H
  go_enter Try.func23, Try.ntmps23
  go_wp2_with (first | ((with_reducible refine gate_dst (N := 3) rfl ?_); refine qX 3 #[.slice A0_0 l0_0.length c0_0, .int .i64 a0_1] 28 ?_; intro gb101 hg w26 hbox hb; have hx_ := qHX HB hb qa1; have BK101 := qO (hbox); have GW101 := qO ((qa20 : w.heap.size ≤ gb101)); have GE101 := GW101; replace HB := qO (below_step (below_step HB.out hx_) hb); clear hx_ hb hbox hg; obtain ⟨hcz27_0, hcz27_1, hfz27_0, hfz27_1⟩ := qb2 BK101.out) | ((with_reducible refine gate_callee (f := 22) rfl ?_); refine goesL_ (some 10) rfl rfl Try.func22 qa6 rfl #[.agg #[.slice A0_0 l0_0.length c0_0, .int .i64 a0_1]] rfl qa0 ?_; (with_reducible refine (impl_StoreOK.calls k _ _ l0_0 a0_1 false _ ?side1 ?side2 A4.out).mono ?_); (case side1 => exact qa17); (case side2 => exact HC0_0.out); rintro e w28 ⟨rfl, hb⟩; have hx_ := qHX HB hb qa1; refine ⟨_, rfl, ?_⟩; replace BK101 := qO (qB BK101.out hx_ hb); replace HB := qO (below_step (below_step HB.out hx_) hb); clear hx_; (try clear hb); (try clear hb2); (try clear hk); (try clear hi)))
  go_ret2
  exact ⟨qa10, qa9⟩


def impl_sameNow.l0 : Nat → Int → List (List (S43)) → Int → List (List (S43)) → Int → Option (Bool)
 | 0, _, _, _, _, _ => none
 | k + 1, x6, x102000, x102001, x103000, x103001 => if x6 < 16 then ((impl_Store_readAt.f x102000 x102001 x6 x102001).bind fun t103 => ((impl_Store_readAt.f x103000 x103001 x6 x103001).bind fun t104 => (if t103 = t104 then (impl_sameNow.l0 k (wrap64 (x6 + 1)) x102000 x102001 x103000 x103001) else (some false)))) else (some true)
def impl_sameNow.f (k : Nat) (l0_0 : List (List (S43))) (a0_1 : Int) (l1_0 : List (List (S43))) (a1_1 : Int) : Option (Bool) := impl_sameNow.l0 k 0 l0_0 a0_1 l1_0 a1_1
def impl_sameNow.T4 : Bool × List (List Nat × List Nat) := (true, [([], []), ([], []), ([], []), ([2], [2]), ([0, 1, 3], [0, 1, 3]), ([], []), ([], []), ([], []), ([7], [7]), ([5, 6, 8, 4], [5, 6, 8]), ([4, 9], [4, 9])])
def impl_sameNow.B4 : List Nat := [0, 0, 0, 4, 15, 0, 0, 0, 128, 511, 1023]
theorem impl_sameNow.tab4 : rtab .any (opsOf Try.f69 4) = impl_sameNow.T4 := by kernel_rfl
theorem impl_sameNow.bits4 : waitsOk impl_sameNow.T4.2 impl_sameNow.B4 = true := by kernel_rfl
def impl_sameNow.y0 := #[qf,qf,qf,qf,qf,qf,qf,qf,qf,qf,qf]
def impl_sameNow.y1 := #[qf,qt,qf,qf,qf,qf,qf,qf,qf,qf,qf]
def impl_sameNow.y2 := #[qf,qt,qt,qf,qf,qf,qf,qf,qf,qf,qf]
def impl_sameNow.y3 := #[qf,qt,qt,qf,qf,qf,qt,qf,qf,qf,qf]
def impl_sameNow.y4 := #[qf,qt,qt,qf,qf,qf,qt,qt,qf,qf,qf]
def impl_sameNow.y5 := #[qt,qt,qt,qf,qf,qf,qt,qt,qf,qf,qf]
def impl_sameNow.y6 := #[qt,qt,qt,qt,qf,qf,qt,qt,qf,qf,qf]
def impl_sameNow.y7 := #[qt,qt,qt,qt,qf,qt,qt,qt,qf,qf,qf]
def impl_sameNow.y8 := #[qt,qt,qt,qt,qf,qt,qt,qt,qt,qf,qf]
def impl_sameNow.y9 := #[qt,qt,qt,qt,qt,qt,qt,qt,qt,qf,qf]
def impl_sameNow.y10 := #[qt,qt,qt,qt,qt,qt,qt,qt,qt,qt,qf]
def impl_sameNow.y11 := #[qt,qt,qt,qt,qt,qt,qt,qt,qt,qt,qt]
set_option maxHeartbeats 8000000 in
set_option maxRecDepth 100000 in
theorem impl_sameNow.calls (k : Nat) (A0_0 : Option Addr) (c0_0 : Nat) (l0_0 : List (List (S43))) (a0_1 : Int) (A1_0 : Option Addr) (c1_0 : Nat) (l1_0 : List (List (S43))) (a1_1 : Int) (r : Bool) (w : World) (hr0_0 : Kd.C (Kd.slice 43 k43) w A0_0 l0_0.length l0_0) (hc0_0 : l0_0.length ≤ c0_0) (hr1_0 : Kd.C (Kd.slice 43 k43) w A1_0 l1_0.length l1_0) (hc1_0 : l1_0.length ≤ c1_0) (h : impl_sameNow.f k l0_0 a0_1 l1_0 a1_1 = some r) :
  Calls Try.prog 69 #[.agg #[.slice A0_0 l0_0.length c0_0, .int .i64 a0_1], .agg #[.slice A1_0 l1_0.length c1_0, .int .i64 a1_1]] w fun e w' => e = .returned (.bool r) ∧ Below w.heap.size w w' := by
 have hu28 := Try.underlying28; have HR0_0 := qO hr0_0; have HC0_0 := qO hc0_0; clear hr0_0 hc0_0; have HR1_0 := qO hr1_0; have HC1_0 := qO hc1_0; clear hr1_0 hc1_0; have HB := qO (Below.refl w.heap.size w); have H : (impl_sameNow.l0 k 0 l0_0 a0_1 l1_0 a1_1) = some r := h; clear h; have H' := qO H; clear H
 go_enter Try.func69, Try.ntmps69
 go_wp2_with (first | ((with_reducible refine gate_dst (N := 2) rfl ?_); refine qX 2 #[.slice A0_0 l0_0.length c0_0, .int .i64 a0_1] 28 ?_; intro gb101 hg w3 hbox hb; have hx_ := qHX HB hb qa1; have BK101 := qO (hbox); have GW101 := qO ((qa20 : w.heap.size ≤ gb101)); have GE101 := GW101; replace HB := qO (below_step (below_step HB.out hx_) hb); clear hx_ hb hbox hg) | ((with_reducible refine gate_dst (N := 3) rfl ?_); refine qX 3 #[.slice A1_0 l1_0.length c1_0, .int .i64 a1_1] 28 ?_; intro gb102 hg w4 hbox hb; have hx_ := qHX HB hb qa1; have BK102 := qO (hbox); have GW102 := qO ((qa20 : w.heap.size ≤ gb102)); have GE102 := GW102; have NB101_102 := qO ((qa7 : gb101 ≠ gb102)); have NB102_101 := qO (Ne.symm NB101_102.out); replace BK101 := qO (qB BK101.out hx_ hb); replace HB := qO (below_step (below_step HB.out hx_) hb); clear hx_ hb hbox hg))
 go_loopg [6] k (fun kq v6 w' => ∃ (x6_1 : Int), v6 = .int .i64 x6_1 ∧ Aside0 (impl_sameNow.l0 kq x6_1 l0_0 a0_1 l1_0 a1_1 = some r) ∧ Aside0 (kq ≤ k) ∧ Aside0 (w'.heap[gb101]? = some (.cells #[(.slice A0_0 l0_0.length c0_0), .int .i64 a0_1] 28 (0, 0))) ∧ Aside0 (w'.heap[gb102]? = some (.cells #[(.slice A1_0 l1_0.length c1_0), .int .i64 a1_1] 28 (0, 0))) ∧ Aside0 (Below w.heap.size w w'))
 case atStart => exact ⟨(0), qa16, H', ⟨Nat.le_refl _⟩, ⟨qa4⟩, ⟨qa23⟩, ⟨qa21⟩⟩
 case round =>
  clear H'
  try clear c1
  try clear p2
  obtain ⟨x6_1, rfl, HA, HK1, BK101, BK102, HB⟩ := hrel
  cases gk with
  | zero => exact absurd HA.out (by simp [impl_sameNow.l0])
  | succ k1 =>
   have H := HA.out; clear HA; simp only [impl_sameNow.l0] at H
   by_cases c5 : x6_1 < 16
   ·rw [if_pos c5] at H
    have c5b0 : decide (x6_1 < 16) = true := decide_eq_true c5; clear c5; replace H := Option.bind_eq_some_iff.mp H; obtain ⟨t103, A60, H⟩ := H; replace H : ((impl_Store_readAt.f l1_0 a1_1 x6_1 a1_1).bind fun t104 => (if t103 = t104 then (impl_sameNow.l0 k1 (wrap64 (x6_1 + 1)) l0_0 a0_1 l1_0 a1_1) else (some false))) = some r := H; have A6 := qO A60; clear A60; replace H := Option.bind_eq_some_iff.mp H; obtain ⟨t104, A70, H⟩ := H; replace H : (if t103 = t104 then (impl_sameNow.l0 k1 (wrap64 (x6_1 + 1)) l0_0 a0_1 l1_0 a1_1) else (some false)) = some r := H; have A7 := qO A70; clear A70
    by_cases c8 : t103 = t104
    ·rw [if_pos c8] at H
     have c8b0 : (t103 == t104) = true := beq_iff_eq.mpr c8; have c8b1 : (t103 != t104) = false := bne_eq_false_iff_eq.mpr c8; clear c8; have H' := qO H; clear H
     try go_wp2
     replace BK101 := qO (qkD BK101.out); replace BK102 := qO (qkD BK102.out); replace HB := qO (qbD HB.out); refine start_ (n := 11) (S := fun w' => w'.cell? ⟨gb101, 0, none⟩ = some (.slice A0_0 l0_0.length c0_0) ∧ w'.cell? ⟨gb101, 1, none⟩ = some (.int .i64 a0_1) ∧ w'.cell? ⟨gb102, 0, none⟩ = some (.slice A1_0 l1_0.length c1_0) ∧ w'.cell? ⟨gb102, 1, none⟩ = some (.int .i64 a1_1)) (ds := []) impl_sameNow.y0 qa6 rfl rfl ⟨qc0 BK101.out, qc1 BK101.out, qc0 BK102.out, qc1 BK102.out⟩ (fun hHeld => ?_); refine with_tabW impl_sameNow.tab4 impl_sameNow.bits4 (fun HT_ HW_ => ?_); generalize wr.drew = w9 at BK101 BK102 HB hHeld ⊢; refine qPu 1 10 impl_sameNow.y1 rfl rfl (any_of HT_.out qa6) qa8 qa3 ?_; refine qPu 2 11 impl_sameNow.y2 rfl rfl (any_of HT_.out qa6) qa8 qa3 ?_; refine qPu 6 15 impl_sameNow.y3 rfl rfl (any_of HT_.out qa6) qa8 qa3 ?_; refine qPu 7 16 impl_sameNow.y4 rfl rfl (any_of HT_.out qa6) qa8 qa3 ?_; refine qTk 0 9 impl_sameNow.y5 rfl rfl (take_ofW HT_.out HW_.out qa6) qa49 hHeld qa3 ?_; refine qTk 3 12 impl_sameNow.y6 rfl rfl (take_ofW HT_.out HW_.out qa6) qa49 hHeld qa3 ?_; refine qTk 5 14 impl_sameNow.y7 rfl rfl (take_ofW HT_.out HW_.out qa6) qa49 hHeld qa3 ?_; refine qTk 8 17 impl_sameNow.y8 rfl rfl (take_ofW HT_.out HW_.out qa6) qa49 hHeld qa3 ?_; refine one_ (i := 4) (N := some 13) impl_sameNow.y9 rfl rfl (one_of HT_.out qa6) qa60 (fun K hK => ?_); refine goes_ Try.func68 qa6 rfl #[.agg #[.slice A0_0 l0_0.length c0_0, .int .i64 a0_1], .int .i64 x6_1, .int .i64 a0_1] (by rfl) rfl rfl qa0 ?_; (with_reducible refine (impl_Store_readAt.calls _ _ l0_0 a0_1 x6_1 a0_1 t103 _ ?side1 ?side2 A6.out).mono ?_); (case side1 => exact qa17); (case side2 => exact HC0_0.out); rintro e w10 ⟨rfl, hb⟩; have hx_ := qHX HB hb qa1; refine ⟨_, rfl, ?_⟩; replace BK101 := qO (qB BK101.out hx_ hb); replace BK102 := qO (qB BK102.out hx_ hb); replace HB := qO (below_step (below_step HB.out hx_) hb); clear hx_; (try clear hb); (try clear hb2); (try clear hk); (try clear hi); refine hK.out _ _ ⟨qc0 BK101.out, qc1 BK101.out, qc0 BK102.out, qc1 BK102.out⟩ (fun hHeld => ?_); clear hK K; refine norm_ (a' := ?_) ?_ ?_; rotate_left
     ·exact qa15
     refine one_ (i := 9) (N := some 18) impl_sameNow.y10 rfl rfl (one_of HT_.out qa6) qa60 (fun K hK => ?_); refine goes_ Try.func68 qa6 rfl #[.agg #[.slice A1_0 l1_0.length c1_0, .int .i64 a1_1], .int .i64 x6_1, .int .i64 a1_1] (by rfl) rfl rfl qa0 ?_; (with_reducible refine (impl_Store_readAt.calls _ _ l1_0 a1_1 x6_1 a1_1 t104 _ ?side1 ?side2 A7.out).mono ?_); (case side1 => exact qa105); (case side2 => exact HC1_0.out); rintro e w11 ⟨rfl, hb⟩; have hx_ := qHX HB hb qa1; refine ⟨_, rfl, ?_⟩; replace BK101 := qO (qB BK101.out hx_ hb); replace BK102 := qO (qB BK102.out hx_ hb); replace HB := qO (below_step (below_step HB.out hx_) hb); clear hx_; (try clear hb); (try clear hb2); (try clear hk); (try clear hi); refine hK.out _ _ ⟨qc0 BK101.out, qc1 BK101.out, qc0 BK102.out, qc1 BK102.out⟩ (fun hHeld => ?_); clear hK K; refine norm_ (a' := ?_) ?_ ?_; rotate_left
     ·exact qa15
     refine qPu 10 19 impl_sameNow.y11 rfl rfl (any_of HT_.out qa6) qa8 qa3 ?_; refine done_ (done_of HT_.out qa6) ?_
     try go_wp2
     go_roundg k1
     case measure => have := HK1.out; omega
     case rel => exact ⟨(wrap64 (x6_1 + 1)), qa16, H', ⟨qa155⟩, ⟨qa4⟩, ⟨qa23⟩, ⟨qa21⟩⟩
    ·rw [if_neg c8] at H
     have c8b0 : (t103 == t104) = false := beq_eq_false_iff_ne.mpr c8; have c8b1 : (t103 != t104) = true := bne_iff_ne.mpr c8; obtain rfl := Option.some.inj H
     try go_wp2
     replace BK101 := qO (qkD BK101.out); replace BK102 := qO (qkD BK102.out); replace HB := qO (qbD HB.out); refine start_ (n := 11) (S := fun w' => w'.cell? ⟨gb101, 0, none⟩ = some (.slice A0_0 l0_0.length c0_0) ∧ w'.cell? ⟨gb101, 1, none⟩ = some (.int .i64 a0_1) ∧ w'.cell? ⟨gb102, 0, none⟩ = some (.slice A1_0 l1_0.length c1_0) ∧ w'.cell? ⟨gb102, 1, none⟩ = some (.int .i64 a1_1)) (ds := []) impl_sameNow.y0 qa6 rfl rfl ⟨qc0 BK101.out, qc1 BK101.out, qc0 BK102.out, qc1 BK102.out⟩ (fun hHeld => ?_); refine with_tabW impl_sameNow.tab4 impl_sameNow.bits4 (fun HT_ HW_ => ?_); generalize wr.drew = w12 at BK101 BK102 HB hHeld ⊢; refine qPu 1 10 impl_sameNow.y1 rfl rfl (any_of HT_.out qa6) qa8 qa3 ?_; refine qPu 2 11 impl_sameNow.y2 rfl rfl (any_of HT_.out qa6) qa8 qa3 ?_; refine qPu 6 15 impl_sameNow.y3 rfl rfl (any_of HT_.out qa6) qa8 qa3 ?_; refine qPu 7 16 impl_sameNow.y4 rfl rfl (any_of HT_.out qa6) qa8 qa3 ?_; refine qTk 0 9 impl_sameNow.y5 rfl rfl (take_ofW HT_.out HW_.out qa6) qa49 hHeld qa3 ?_; refine qTk 3 12 impl_sameNow.y6 rfl rfl (take_ofW HT_.out HW_.out qa6) qa49 hHeld qa3 ?_; refine qTk 5 14 impl_sameNow.y7 rfl rfl (take_ofW HT_.out HW_.out qa6) qa49 hHeld qa3 ?_; refine qTk 8 17 impl_sameNow.y8 rfl rfl (take_ofW HT_.out HW_.out qa6) qa49 hHeld qa3 ?_; refine one_ (i := 4) (N := some 13) impl_sameNow.y9 rfl rfl (one_of HT_.out qa6) qa60 (fun K hK => ?_); refine goes_ Try.func68 qa6 rfl #[.agg #[.slice A0_0 l0_0.length c0_0, .int .i64 a0_1], .int .i64 x6_1, .int .i64 a0_1] (by rfl) rfl rfl qa0 ?_; (with_reducible refine (impl_Store_readAt.calls _ _ l0_0 a0_1 x6_1 a0_1 t103 _ ?side1 ?side2 A6.out).mono ?_); (case side1 => exact qa17); (case side2 => exact HC0_0.out); rintro e w13 ⟨rfl, hb⟩; have hx_ := qHX HB hb qa1; refine ⟨_, rfl, ?_⟩; replace BK101 := qO (qB BK101.out hx_ hb); replace BK102 := qO (qB BK102.out hx_ hb); replace HB := qO (below_step (below_step HB.out hx_) hb); clear hx_; (try clear hb); (try clear hb2); (try clear hk); (try clear hi); refine hK.out _ _ ⟨qc0 BK101.out, qc1 BK101.out, qc0 BK102.out, qc1 BK102.out⟩ (fun hHeld => ?_); clear hK K; refine norm_ (a' := ?_) ?_ ?_; rotate_left
     ·exact qa15
     refine one_ (i := 9) (N := some 18) impl_sameNow.y10 rfl rfl (one_of HT_.out qa6) qa60 (fun K hK => ?_); refine goes_ Try.func68 qa6 rfl #[.agg #[.slice A1_0 l1_0.length c1_0, .int .i64 a1_1], .int .i64 x6_1, .int .i64 a1_1] (by rfl) rfl rfl qa0 ?_; (with_reducible refine (impl_Store_readAt.calls _ _ l1_0 a1_1 x6_1 a1_1 t104 _ ?side1 ?side2 A7.out).mono ?_); (case side1 => exact qa105); (case side2 => exact HC1_0.out); rintro e w14 ⟨rfl, hb⟩; have hx_ := qHX HB hb qa1; refine ⟨_, rfl, ?_⟩; replace BK101 := qO (qB BK101.out hx_ hb); replace BK102 := qO (qB BK102.out hx_ hb); replace HB := qO (below_step (below_step HB.out hx_) hb); clear hx_; (try clear hb); (try clear hb2); (try clear hk); (try clear hi); refine hK.out _ _ ⟨qc0 BK101.out, qc1 BK101.out, qc0 BK102.out, qc1 BK102.out⟩ (fun hHeld => ?_); clear hK K; refine norm_ (a' := ?_) ?_ ?_; rotate_left
     ·exact qa15
     refine qPu 10 19 impl_sameNow.y11 rfl rfl (any_of HT_.out qa6) qa8 qa3 ?_; refine done_ (done_of HT_.out qa6) ?_
     try go_wp2
     go_ret
     exact ⟨qa10, qa21⟩
   ·rw [if_neg c5] at H
    have c5b0 : decide (x6_1 < 16) = false := decide_eq_false c5; clear c5; obtain rfl := Option.some.inj H; go_wp2
    go_ret
    exact ⟨qa10, qa21⟩


def impl_SameAt.f (k : Nat) (l0_0 : List (List (S43))) (a0_1 : Int) (l1_0 : List (List (S43))) (a1_1 : Int) : Option (Bool × Int) := (impl_StoreOK.f k l0_0 a0_1).bind fun t103 => (if t103 = true then ((impl_StoreOK.f k l1_0 a1_1).bind fun t104 => (if t104 = true then ((impl_sameNow.f k l0_0 a0_1 l1_0 a1_1).bind fun t105 => (some (t105, 0))) else (some (false, 1)))) else (some (false, 1)))
set_option maxHeartbeats 8000000 in
set_option maxRecDepth 100000 in
theorem impl_SameAt.calls (k : Nat) (A0_0 : Option Addr) (c0_0 : Nat) (l0_0 : List (List (S43))) (a0_1 : Int) (A1_0 : Option Addr) (c1_0 : Nat) (l1_0 : List (List (S43))) (a1_1 : Int) (r1 : Bool) (r2 : Int) (w : World) (hr0_0 : Kd.C (Kd.slice 43 k43) w A0_0 l0_0.length l0_0) (hc0_0 : l0_0.length ≤ c0_0) (hr1_0 : Kd.C (Kd.slice 43 k43) w A1_0 l1_0.length l1_0) (hc1_0 : l1_0.length ≤ c1_0) (h : impl_SameAt.f k l0_0 a0_1 l1_0 a1_1 = some (r1, r2)) :
  Calls Try.prog 24 #[.agg #[.slice A0_0 l0_0.length c0_0, .int .i64 a0_1], .agg #[.slice A1_0 l1_0.length c1_0, .int .i64 a1_1]] w fun e w' => e = .returned (.tuple #[.bool r1, .int .i64 r2]) ∧ Below w.heap.size w w' := by
 have hu28 := Try.underlying28; have HR0_0 := qO hr0_0; have HC0_0 := qO hc0_0; clear hr0_0 hc0_0; have HR1_0 := qO hr1_0; have HC1_0 := qO hc1_0; clear hr1_0 hc1_0; have HB := qO (Below.refl w.heap.size w); have H : ((impl_StoreOK.f k l0_0 a0_1).bind fun t103 => (if t103 = true then ((impl_StoreOK.f k l1_0 a1_1).bind fun t104 => (if t104 = true then ((impl_sameNow.f k l0_0 a0_1 l1_0 a1_1).bind fun t105 => (some (t105, 0))) else (some (false, 1)))) else (some (false, 1)))) = some (r1, r2) := h; clear h; replace H := Option.bind_eq_some_iff.mp H; obtain ⟨t103, A30, H⟩ := H; replace H : (if t103 = true then ((impl_StoreOK.f k l1_0 a1_1).bind fun t104 => (if t104 = true then ((impl_sameNow.f k l0_0 a0_1 l1_0 a1_1).bind fun t105 => (some (t105, 0))) else (some (false, 1)))) else (some (false, 1))) = some (r1, r2) := H; have A3 := qO A30; clear A30
 by_cases c4 : t103 = true
 ·subst c4
  have H1 : ((impl_StoreOK.f k l1_0 a1_1).bind fun t104 => (if t104 = true then ((impl_sameNow.f k l0_0 a0_1 l1_0 a1_1).bind fun t105 => (some (t105, 0))) else (some (false, 1)))) = some (r1, r2) := by rw [if_pos rfl] at H; exact H
  clear H; have H := H1; clear H1; replace H := Option.bind_eq_some_iff.mp H; obtain ⟨t104, A50, H⟩ := H; replace H : (if t104 = true then ((impl_sameNow.f k l0_0 a0_1 l1_0 a1_1).bind fun t105 => (some (t105, 0))) else (some (false, 1))) = some (r1, r2) := H; have A5 := qO A50; clear A50
  by_cases c6 : t104 = true
  ·subst c6
   have H1 : ((impl_sameNow.f k l0_0 a0_1 l1_0 a1_1).bind fun t105 => (some (t105, 0))) = some (r1, r2) := by rw [if_pos rfl] at H; exact H
   clear H; have H := H1; clear H1; replace H := Option.bind_eq_some_iff.mp H; obtain ⟨t105, A70, H⟩ := H; replace H : (some (t105, 0)) = some (r1, r2) := H; have A7 := qO A70; clear A70; simp only [Option.some.injEq, Prod.mk.injEq] at H; obtain ⟨rfl, rfl⟩ := H
   go_enter Try.func24, Try.ntmps24
   go_wp2_with (first | ((with_reducible refine gate_dst (N := 2) rfl ?_); refine qX 2 #[.slice A0_0 l0_0.length c0_0, .int .i64 a0_1] 28 ?_; intro gb101 hg w8 hbox hb; have hx_ := qHX HB hb qa1; have BK101 := qO (hbox); have GW101 := qO ((qa20 : w.heap.size ≤ gb101)); have GE101 := GW101; replace HB := qO (below_step (below_step HB.out hx_) hb); clear hx_ hb hbox hg) | ((with_reducible refine gate_dst (N := 3) rfl ?_); refine qX 3 #[.slice A1_0 l1_0.length c1_0, .int .i64 a1_1] 28 ?_; intro gb102 hg w9 hbox hb; have hx_ := qHX HB hb qa1; have BK102 := qO (hbox); have GW102 := qO ((qa20 : w.heap.size ≤ gb102)); have GE102 := GW102; have NB101_102 := qO ((qa7 : gb101 ≠ gb102)); have NB102_101 := qO (Ne.symm NB101_102.out); replace BK101 := qO (qB BK101.out hx_ hb); replace HB := qO (below_step (below_step HB.out hx_) hb); clear hx_ hb hbox hg; have hnb10 := NB101_102.out; have hnc10 := NB102_101.out; obtain ⟨hcz11_0, hcz11_1, hfz11_0, hfz11_1⟩ := qb2 BK101.out) | ((with_reducible refine gate_callee (f := 22) rfl ?_); refine goesL_ (some 7) rfl rfl Try.func22 qa6 rfl #[.agg #[.slice A0_0 l0_0.length c0_0, .int .i64 a0_1]] rfl qa0 ?_; (with_reducible refine (impl_StoreOK.calls k _ _ l0_0 a0_1 true _ ?side1 ?side2 A3.out).mono ?_); (case side1 => exact qa17); (case side2 => exact HC0_0.out); rintro e w12 ⟨rfl, hb⟩; have hx_ := qHX HB hb qa1; refine ⟨_, rfl, ?_⟩; replace BK101 := qO (qB BK101.out hx_ hb); replace BK102 := qO (qB BK102.out hx_ hb); replace HB := qO (below_step (below_step HB.out hx_) hb); clear hx_; (try clear hb); (try clear hb2); (try clear hk); (try clear hi); obtain ⟨hcz13_0, hcz13_1, hfz13_0, hfz13_1⟩ := qb2 BK102.out) | (go_at_call 22; (with_reducible refine (impl_StoreOK.calls k _ _ l1_0 a1_1 true _ ?side1 ?side2 A5.out).mono ?_); (case side1 => exact qa105); (case side2 => exact HC1_0.out); rintro e w14 ⟨rfl, hb⟩; have hx_ := qHX HB hb qa1; replace BK101 := qO (qB BK101.out hx_ hb); replace BK102 := qO (qB BK102.out hx_ hb); replace HB := qO (below_step (below_step HB.out hx_) hb); clear hx_; (try clear hb); (try clear hb2); (try clear hk); (try clear hi); obtain ⟨hcz15_0, hcz15_1, hfz15_0, hfz15_1⟩ := qb2 BK101.out; obtain ⟨hcz16_0, hcz16_1, hfz16_0, hfz16_1⟩ := qb2 BK102.out) | ((with_reducible refine gate_callee (f := 69) rfl ?_); refine goesL_ (some 16) rfl rfl Try.func69 qa6 rfl #[.agg #[.slice A0_0 l0_0.length c0_0, .int .i64 a0_1], .agg #[.slice A1_0 l1_0.length c1_0, .int .i64 a1_1]] rfl qa0 ?_; (with_reducible refine (impl_sameNow.calls k _ _ l0_0 a0_1 _ _ l1_0 a1_1 t105 _ ?side1 ?side2 ?side3 ?side4 A7.out).mono ?_); (case side1 => exact qa17); (case side2 => exact HC0_0.out); (case side3 => exact qa105); (case side4 => exact HC1_0.out); rintro e w17 ⟨rfl, hb⟩; have hx_ := qHX HB hb qa1; refine ⟨_, rfl, ?_⟩; replace BK101 := qO (qB BK101.out hx_ hb); replace BK102 := qO (qB BK102.out hx_ hb); replace HB := qO (below_step (below_step HB.out hx_) hb); clear hx_; (try clear hb); (try clear hb2); (try clear hk); (try clear hi)))
   go_ret2
   exact ⟨qa10, qa21⟩
  ·replace c6 := Bool.eq_false_iff.mpr c6
   subst c6; have H1 : (some (false, 1)) = some (r1, r2) := by rw [if_neg (show ¬ (false = true) by decide)] at H; exact H
   clear H; have H := H1; clear H1; simp only [Option.some.injEq, Prod.mk.injEq] at H; obtain ⟨rfl, rfl⟩ := H
   go_enter Try.func24, Try.ntmps24
   go_wp2_with (first | ((with_reducible refine gate_dst (N := 2) rfl ?_); refine qX 2 #[.slice A0_0 l0_0.length c0_0, .int .i64 a0_1] 28 ?_; intro gb101 hg w18 hbox hb; have hx_ := qHX HB hb qa1; have BK101 := qO (hbox); have GW101 := qO ((qa20 : w.heap.size ≤ gb101)); have GE101 := GW101; replace HB := qO (below_step (below_step HB.out hx_) hb); clear hx_ hb hbox hg) | ((with_reducible refine gate_dst (N := 3) rfl ?_); refine qX 3 #[.slice A1_0 l1_0.length c1_0, .int .i64 a1_1] 28 ?_; intro gb102 hg w19 hbox hb; have hx_ := qHX HB hb qa1; have BK102 := qO (hbox); have GW102 := qO ((qa20 : w.heap.size ≤ gb102)); have GE102 := GW102; have NB101_102 := qO ((qa7 : gb101 ≠ gb102)); have NB102_101 := qO (Ne.symm NB101_102.out); replace BK101 := qO (qB BK101.out hx_ hb); replace HB := qO (below_step (below_step HB.out hx_) hb); clear hx_ hb hbox hg; have hnb20 := NB101_102.out; have hnc20 := NB102_101.out; obtain ⟨hcz21_0, hcz21_1, hfz21_0, hfz21_1⟩ := qb2 BK101.out) | ((with_reducible refine gate_callee (f := 22) rfl ?_); refine goesL_ (some 7) rfl rfl Try.func22 qa6 rfl #[.agg #[.slice A0_0 l0_0.length c0_0, .int .i64 a0_1]] rfl qa0 ?_; (with_reducible refine (impl_StoreOK.calls k _ _ l0_0 a0_1 true _ ?side1 ?side2 A3.out).mono ?_); (case side1 => exact qa17); (case side2 => exact HC0_0.out); rintro e w22 ⟨rfl, hb⟩; have hx_ := qHX HB hb qa1; refine ⟨_, rfl, ?_⟩; replace BK101 := qO (qB BK101.out hx_ hb); replace BK102 := qO (qB BK102.out hx_ hb); replace HB := qO (below_step (below_step HB.out hx_) hb); clear hx_; (try clear hb); (try clear hb2); (try clear hk); (try clear hi); obtain ⟨hcz23_0, hcz23_1, hfz23_0, hfz23_1⟩ := qb2 BK102.out) | (go_at_call 22; (with_reducible refine (impl_StoreOK.calls k _ _ l1_0 a1_1 false _ ?side1 ?side2 A5.out).mono ?_); (case side1 => exact qa105); (case side2 => exact HC1_0.out); rintro e w24 ⟨rfl, hb⟩; have hx_ := qHX HB hb qa1; replace BK101 := qO (qB BK101.out hx_ hb); replace BK102 := qO (qB BK102.out hx_ hb); replace HB := qO (below_step (below_step HB.out hx_) hb); clear hx_; (try clear hb); (try clear hb2); (try clear hk); (try clear hi)))
   go_ret2
   exact ⟨qa10, qa21⟩
 ·replace c4 := Bool.eq_false_iff.mpr c4
  subst c4; have H1 : (some (false, 1)) = some (r1, r2) := by rw [if_neg (show ¬ (false = true) by decide)] at H; exact H
  clear H; have H := H1; clear H1; simp only [Option.some.injEq, Prod.mk.injEq] at H; obtain ⟨rfl, rfl⟩ := H
  go_enter Try.func24, Try.ntmps24
  go_wp2_with (first | ((with_reducible refine gate_dst (N := 2) rfl ?_); refine qX 2 #[.slice A0_0 l0_0.length c0_0, .int .i64 a0_1] 28 ?_; intro gb101 hg w25 hbox hb; have hx_ := qHX HB hb qa1; have BK101 := qO (hbox); have GW101 := qO ((qa20 : w.heap.size ≤ gb101)); have GE101 := GW101; replace HB := qO (below_step (below_step HB.out hx_) hb); clear hx_ hb hbox hg) | ((with_reducible refine gate_dst (N := 3) rfl ?_); refine qX 3 #[.slice A1_0 l1_0.length c1_0, .int .i64 a1_1] 28 ?_; intro gb102 hg w26 hbox hb; have hx_ := qHX HB hb qa1; have BK102 := qO (hbox); have GW102 := qO ((qa20 : w.heap.size ≤ gb102)); have GE102 := GW102; have NB101_102 := qO ((qa7 : gb101 ≠ gb102)); have NB102_101 := qO (Ne.symm NB101_102.out); replace BK101 := qO (qB BK101.out hx_ hb); replace HB := qO (below_step (below_step HB.out hx_) hb); clear hx_ hb hbox hg; have hnb27 := NB101_102.out; have hnc27 := NB102_101.out; obtain ⟨hcz28_0, hcz28_1, hfz28_0, hfz28_1⟩ := qb2 BK101.out) | ((with_reducible refine gate_callee (f := 22) rfl ?_); refine goesL_ (some 7) rfl rfl Try.func22 qa6 rfl #[.agg #[.slice A0_0 l0_0.length c0_0, .int .i64 a0_1]] rfl qa0 ?_; (with_reducible refine (impl_StoreOK.calls k _ _ l0_0 a0_1 false _ ?side1 ?side2 A3.out).mono ?_); (case side1 => exact qa17); (case side2 => exact HC0_0.out); rintro e w29 ⟨rfl, hb⟩; have hx_ := qHX HB hb qa1; refine ⟨_, rfl, ?_⟩; replace BK101 := qO (qB BK101.out hx_ hb); replace BK102 := qO (qB BK102.out hx_ hb); replace HB := qO (below_step (below_step HB.out hx_) hb); clear hx_; (try clear hb); (try clear hb2); (try clear hk); (try clear hi)))
  go_ret2
  exact ⟨qa10, qa21⟩


mutual
def laws_FnForget.j0 : Nat → List Int → List Int → Bool → Option (Bool)
 | 0, _, _, _ => none
 | k + 1, x0, x1, x32 => if x32 = true then (some true) else ((spec_StoreOf.f k x0).bind fun bt101 => ((laws_at.f x1 0 (wrap64 (bt101.2 + 1))).bind fun t106 => ((impl_Forget.f k bt101.1 bt101.2 t106).bind fun bt107 => ((spec_Forget.f k bt101.1 bt101.2 t106).bind fun bt114 => ((impl_SizeOf.f k bt101.1 bt101.2).bind fun bt121 => ((impl_SizeOf.f k bt107.1 bt107.2.1).bind fun bt123 => (if bt107.2.2.2 = 0 then ((laws_sameStore.f k bt107.1 bt107.2.1 bt114.1 bt114.2.1).bind fun t125 => (if t125 = true then (if bt107.2.2.1 = bt114.2.2.1 then (if bt121.2 = 0 then (if bt123.2 = 0 then (if (wrap64 (bt121.1 - bt123.1)) = bt107.2.2.1 then ((impl_StoreOK.f k bt107.1 bt107.2.1).bind fun t126 => (laws_FnForget.j1 k t106 (!t126) bt101.1 bt101.2 bt107.1 bt107.2.1)) else (laws_FnForget.j1 k t106 true bt101.1 bt101.2 bt107.1 bt107.2.1)) else (laws_FnForget.j1 k t106 true bt101.1 bt101.2 bt107.1 bt107.2.1)) else (laws_FnForget.j1 k t106 true bt101.1 bt101.2 bt107.1 bt107.2.1)) else (laws_FnForget.j1 k t106 true bt101.1 bt101.2 bt107.1 bt107.2.1)) else (laws_FnForget.j1 k t106 true bt101.1 bt101.2 bt107.1 bt107.2.1))) else (laws_FnForget.j1 k t106 true bt101.1 bt101.2 bt107.1 bt107.2.1))))))))
def laws_FnForget.j1 : Nat → Int → Bool → List (List (S43)) → Int → List (List (S43)) → Int → Option (Bool)
 | 0, _, _, _, _, _, _ => none
 | k + 1, x6, x96, x106000, x106001, x114000, x114001 => if x96 = true then (none) else (laws_FnForget.l0 k x6 0 x106000 x106001 x114000 x114001)
def laws_FnForget.l0 : Nat → Int → Int → List (List (S43)) → Int → List (List (S43)) → Int → Option (Bool)
 | 0, _, _, _, _, _, _ => none
 | k + 1, x6, x17, x106000, x106001, x114000, x114001 => if x17 < 16 then (if 0 ≤ x17 then (if x17 < (x114000.length : Int) then (if ((rd_L4 x114000 x17).length : Int) > 1 then (if 1 < ((rd_L4 x114000 x17).length : Int) then (laws_FnForget.j3 k x6 x17 (decide (((rd_T43 (rd_L4 x114000 x17) 1).f0) ≤ x6)) x106000 x106001 x114000 x114001) else (none)) else (laws_FnForget.j3 k x6 x17 false x106000 x106001 x114000 x114001)) else (none)) else (none)) else ((impl_SameAt.f k x106000 x106001 x114000 x114001).bind fun bt127 => (if bt127.2 = 0 then (some bt127.1) else (none)))
def laws_FnForget.j3 : Nat → Int → Int → Bool → List (List (S43)) → Int → List (List (S43)) → Int → Option (Bool)
 | 0, _, _, _, _, _, _, _ => none
 | k + 1, x6, x17, x119, x106000, x106001, x114000, x114001 => if x119 = true then (none) else (laws_FnForget.l1 k x6 x17 x6 x106000 x106001 x114000 x114001)
def laws_FnForget.l1 : Nat → Int → Int → Int → List (List (S43)) → Int → List (List (S43)) → Int → Option (Bool)
 | 0, _, _, _, _, _, _, _ => none
 | k + 1, x6, x17, x18, x106000, x106001, x114000, x114001 => if x18 ≤ x106001 then ((impl_ReadAt.f k x106000 x106001 x17 x18).bind fun bt132 => ((impl_ReadAt.f k x114000 x114001 x17 x18).bind fun bt134 => (if bt132.2 = 0 then (if bt134.2 = 0 then (if bt132.1 = bt134.1 then (laws_FnForget.l1 k x6 x17 (wrap64 (x18 + 1)) x106000 x106001 x114000 x114001) else (none)) else (none)) else (none)))) else (laws_FnForget.l0 k x6 (wrap64 (x17 + 1)) x106000 x106001 x114000 x114001)
end
def laws_FnForget.f (k : Nat) (l0 : List Int) (l1 : List Int) : Option (Bool) := if (l0.length : Int) > 1048576 then (laws_FnForget.j0 k l0 l1 true) else (laws_FnForget.j0 k l0 l1 (decide ((l1.length : Int) > 1048576)))
set_option maxHeartbeats 8000000 in
set_option maxRecDepth 100000 in
theorem laws_FnForget.calls (k : Nat) (A0 : Option Addr) (c0 : Nat) (l0 : List Int) (A1 : Option Addr) (c1 : Nat) (l1 : List Int) (r : Bool) (w : World) (hr0 : Kd.C (Kd.int .u8) w A0 l0.length l0) (hc0 : l0.length ≤ c0) (hr1 : Kd.C (Kd.int .u8) w A1 l1.length l1) (hc1 : l1.length ≤ c1) (h : laws_FnForget.f k l0 l1 = some r) :
  Calls Try.prog 4 #[.slice A0 l0.length c0, .slice A1 l1.length c1] w fun e w' => e = .returned (.bool r) ∧ Below w.heap.size w w' := by
 have hu28 := Try.underlying28; have HR0 := qO hr0; have HC0 := qO hc0; clear hr0 hc0; have HR1 := qO hr1; have HC1 := qO hc1; clear hr1 hc1; have HB := qO (Below.refl w.heap.size w); have H : (if (l0.length : Int) > 1048576 then (laws_FnForget.j0 k l0 l1 true) else (laws_FnForget.j0 k l0 l1 (decide ((l1.length : Int) > 1048576)))) = some r := h; clear h; have HC3 := qO H; clear H
 go_enter Try.func4, Try.ntmps4
 go_upto_region 1 with (fail)
 go_cut [32] (fun v32 wc => ∃ (kq : Nat) (x32_2 : Bool), v32 = .bool x32_2 ∧ Aside0 (laws_FnForget.j0 kq l0 l1 x32_2 = some r) ∧ Aside0 (kq ≤ k) ∧ Aside0 (Below w.heap.size w wc))
 case first =>
  have H := HC3.out; clear HC3
  by_cases c4 : (l0.length : Int) > 1048576
  ·rw [if_pos c4] at H
   have c4b0 : decide (1048576 < (l0.length : Int)) = true := decide_eq_true c4; have c4b1 : decide (1048576 < l0.length) = true := decide_eq_true qa34; clear c4; (first | rw [c4b0] | (simp only [i64_w, i32_w]; rw [c4b0]) | skip); have H' := qO H; clear H; go_wp2
   go_meet
   case rel => exact ⟨_, (true), qa16, H', ⟨qa175⟩, ⟨qa62⟩⟩
  ·rw [if_neg c4] at H
   have c4b0 : decide (1048576 < (l0.length : Int)) = false := decide_eq_false c4; have c4b1 : decide (1048576 < l0.length) = false := decide_eq_false qa34; clear c4; (first | rw [c4b0] | (simp only [i64_w, i32_w]; rw [c4b0]) | skip); have H' := qO H; clear H; go_wp2
   go_meet
   case rel => exact ⟨_, (decide ((l1.length : Int) > 1048576)), qa16, H', ⟨qa175⟩, ⟨qa62⟩⟩
 case rest =>
  clear HC3
  try clear c1
  try clear p2
  try clear c4
  try clear c4b0
  try clear c4b1
  obtain ⟨kq, x32_2, rfl, HA, HJ2, HB⟩ := hcut
  cases kq with
  | zero => exact absurd HA.out (by simp [laws_FnForget.j0])
  | succ kj2 =>
   have H := HA.out; clear HA; simp only [laws_FnForget.j0] at H
   by_cases c5 : x32_2 = true
   ·subst c5
    have H1 : (some true) = some r := by rw [if_pos rfl] at H; exact H
    clear H; have H := H1; clear H1; obtain rfl := Option.some.inj H; go_wp2
    go_ret
    exact ⟨qa10, qa62⟩
   ·replace c5 := Bool.eq_false_iff.mpr c5
    subst c5; have H1 : ((spec_StoreOf.f kj2 l0).bind fun bt101 => ((laws_at.f l1 0 (wrap64 (bt101.2 + 1))).bind fun t106 => ((impl_Forget.f kj2 bt101.1 bt101.2 t106).bind fun bt107 => ((spec_Forget.f kj2 bt101.1 bt101.2 t106).bind fun bt114 => ((impl_SizeOf.f kj2 bt101.1 bt101.2).bind fun bt121 => ((impl_SizeOf.f kj2 bt107.1 bt107.2.1).bind fun bt123 => (if bt107.2.2.2 = 0 then ((laws_sameStore.f kj2 bt107.1 bt107.2.1 bt114.1 bt114.2.1).bind fun t125 => (if t125 = true then (if bt107.2.2.1 = bt114.2.2.1 then (if bt121.2 = 0 then (if bt123.2 = 0 then (if (wrap64 (bt121.1 - bt123.1)) = bt107.2.2.1 then ((impl_StoreOK.f kj2 bt107.1 bt107.2.1).bind fun t126 => (laws_FnForget.j1 kj2 t106 (!t126) bt101.1 bt101.2 bt107.1 bt107.2.1)) else (laws_FnForget.j1 kj2 t106 true bt101.1 bt101.2 bt107.1 bt107.2.1)) else (laws_FnForget.j1 kj2 t106 true bt101.1 bt101.2 bt107.1 bt107.2.1)) else (laws_FnForget.j1 kj2 t106 true bt101.1 bt101.2 bt107.1 bt107.2.1)) else (laws_FnForget.j1 kj2 t106 true bt101.1 bt101.2 bt107.1 bt107.2.1)) else (laws_FnForget.j1 kj2 t106 true bt101.1 bt101.2 bt107.1 bt107.2.1))) else (laws_FnForget.j1 kj2 t106 true bt101.1 bt101.2 bt107.1 bt107.2.1)))))))) = some r := by rw [if_neg (show ¬ (false = true) by decide)] at H; exact H
    clear H; have H := H1; clear H1; replace H := Option.bind_eq_some_iff.mp H; obtain ⟨⟨t101, t104⟩, A60, H⟩ := H; replace H : ((laws_at.f l1 0 (wrap64 (t104 + 1))).bind fun t106 => ((impl_Forget.f kj2 t101 t104 t106).bind fun bt107 => ((spec_Forget.f kj2 t101 t104 t106).bind fun bt114 => ((impl_SizeOf.f kj2 t101 t104).bind fun bt121 => ((impl_SizeOf.f kj2 bt107.1 bt107.2.1).bind fun bt123 => (if bt107.2.2.2 = 0 then ((laws_sameStore.f kj2 bt107.1 bt107.2.1 bt114.1 bt114.2.1).bind fun t125 => (if t125 = true then (if bt107.2.2.1 = bt114.2.2.1 then (if bt121.2 = 0 then (if bt123.2 = 0 then (if (wrap64 (bt121.1 - bt123.1)) = bt107.2.2.1 then ((impl_StoreOK.f kj2 bt107.1 bt107.2.1).bind fun t126 => (laws_FnForget.j1 kj2 t106 (!t126) t101 t104 bt107.1 bt107.2.1)) else (laws_FnForget.j1 kj2 t106 true t101 t104 bt107.1 bt107.2.1)) else (laws_FnForget.j1 kj2 t106 true t101 t104 bt107.1 bt107.2.1)) else (laws_FnForget.j1 kj2 t106 true t101 t104 bt107.1 bt107.2.1)) else (laws_FnForget.j1 kj2 t106 true t101 t104 bt107.1 bt107.2.1)) else (laws_FnForget.j1 kj2 t106 true t101 t104 bt107.1 bt107.2.1))) else (laws_FnForget.j1 kj2 t106 true t101 t104 bt107.1 bt107.2.1))))))) = some r := H; have A6 := qO A60; clear A60; replace H := Option.bind_eq_some_iff.mp H; obtain ⟨t106, A70, H⟩ := H; replace H : ((impl_Forget.f kj2 t101 t104 t106).bind fun bt107 => ((spec_Forget.f kj2 t101 t104 t106).bind fun bt114 => ((impl_SizeOf.f kj2 t101 t104).bind fun bt121 => ((impl_SizeOf.f kj2 bt107.1 bt107.2.1).bind fun bt123 => (if bt107.2.2.2 = 0 then ((laws_sameStore.f kj2 bt107.1 bt107.2.1 bt114.1 bt114.2.1).bind fun t125 => (if t125 = true then (if bt107.2.2.1 = bt114.2.2.1 then (if bt121.2 = 0 then (if bt123.2 = 0 then (if (wrap64 (bt121.1 - bt123.1)) = bt107.2.2.1 then ((impl_StoreOK.f kj2 bt107.1 bt107.2.1).bind fun t126 => (laws_FnForget.j1 kj2 t106 (!t126) t101 t104 bt107.1 bt107.2.1)) else (laws_FnForget.j1 kj2 t106 true t101 t104 bt107.1 bt107.2.1)) else (laws_FnForget.j1 kj2 t106 true t101 t104 bt107.1 bt107.2.1)) else (laws_FnForget.j1 kj2 t106 true t101 t104 bt107.1 bt107.2.1)) else (laws_FnForget.j1 kj2 t106 true t101 t104 bt107.1 bt107.2.1)) else (laws_FnForget.j1 kj2 t106 true t101 t104 bt107.1 bt107.2.1))) else (laws_FnForget.j1 kj2 t106 true t101 t104 bt107.1 bt107.2.1)))))) = some r := H; have A7 := qO A70; clear A70; replace H := Option.bind_eq_some_iff.mp H; obtain ⟨⟨t107, t110, t111, t112⟩, A80, H⟩ := H; replace H : ((spec_Forget.f kj2 t101 t104 t106).bind fun bt114 => ((impl_SizeOf.f kj2 t101 t104).bind fun bt121 => ((impl_SizeOf.f kj2 t107 t110).bind fun bt123 => (if t112 = 0 then ((laws_sameStore.f kj2 t107 t110 bt114.1 bt114.2.1).bind fun t125 => (if t125 = true then (if t111 = bt114.2.2.1 then (if bt121.2 = 0 then (if bt123.2 = 0 then (if (wrap64 (bt121.1 - bt123.1)) = t111 then ((impl_StoreOK.f kj2 t107 t110).bind fun t126 => (laws_FnForget.j1 kj2 t106 (!t126) t101 t104 t107 t110)) else (laws_FnForget.j1 kj2 t106 true t101 t104 t107 t110)) else (laws_FnForget.j1 kj2 t106 true t101 t104 t107 t110)) else (laws_FnForget.j1 kj2 t106 true t101 t104 t107 t110)) else (laws_FnForget.j1 kj2 t106 true t101 t104 t107 t110)) else (laws_FnForget.j1 kj2 t106 true t101 t104 t107 t110))) else (laws_FnForget.j1 kj2 t106 true t101 t104 t107 t110))))) = some r := H; have A8 := qO A80; clear A80; replace H := Option.bind_eq_some_iff.mp H; obtain ⟨⟨t114, t117, t118, t119⟩, A90, H⟩ := H; replace H : ((impl_SizeOf.f kj2 t101 t104).bind fun bt121 => ((impl_SizeOf.f kj2 t107 t110).bind fun bt123 => (if t112 = 0 then ((laws_sameStore.f kj2 t107 t110 t114 t117).bind fun t125 => (if t125 = true then (if t111 = t118 then (if bt121.2 = 0 then (if bt123.2 = 0 then (if (wrap64 (bt121.1 - bt123.1)) = t111 then ((impl_StoreOK.f kj2 t107 t110).bind fun t126 => (laws_FnForget.j1 kj2 t106 (!t126) t101 t104 t107 t110)) else (laws_FnForget.j1 kj2 t106 true t101 t104 t107 t110)) else (laws_FnForget.j1 kj2 t106 true t101 t104 t107 t110)) else (laws_FnForget.j1 kj2 t106 true t101 t104 t107 t110)) else (laws_FnForget.j1 kj2 t106 true t101 t104 t107 t110)) else (laws_FnForget.j1 kj2 t106 true t101 t104 t107 t110))) else (laws_FnForget.j1 kj2 t106 true t101 t104 t107 t110)))) = some r := H; have A9 := qO A90; clear A90; replace H := Option.bind_eq_some_iff.mp H; obtain ⟨⟨t121, t122⟩, A100, H⟩ := H; replace H : ((impl_SizeOf.f kj2 t107 t110).bind fun bt123 => (if t112 = 0 then ((laws_sameStore.f kj2 t107 t110 t114 t117).bind fun t125 => (if t125 = true then (if t111 = t118 then (if t122 = 0 then (if bt123.2 = 0 then (if (wrap64 (t121 - bt123.1)) = t111 then ((impl_StoreOK.f kj2 t107 t110).bind fun t126 => (laws_FnForget.j1 kj2 t106 (!t126) t101 t104 t107 t110)) else (laws_FnForget.j1 kj2 t106 true t101 t104 t107 t110)) else (laws_FnForget.j1 kj2 t106 true t101 t104 t107 t110)) else (laws_FnForget.j1 kj2 t106 true t101 t104 t107 t110)) else (laws_FnForget.j1 kj2 t106 true t101 t104 t107 t110)) else (laws_FnForget.j1 kj2 t106 true t101 t104 t107 t110))) else (laws_FnForget.j1 kj2 t106 true t101 t104 t107 t110))) = some r := H; have A10 := qO A100; clear A100; replace H := Option.bind_eq_some_iff.mp H; obtain ⟨⟨t123, t124⟩, A110, H⟩ := H; replace H : (if t112 = 0 then ((laws_sameStore.f kj2 t107 t110 t114 t117).bind fun t125 => (if t125 = true then (if t111 = t118 then (if t122 = 0 then (if t124 = 0 then (if (wrap64 (t121 - t123)) = t111 then ((impl_StoreOK.f kj2 t107 t110).bind fun t126 => (laws_FnForget.j1 kj2 t106 (!t126) t101 t104 t107 t110)) else (laws_FnForget.j1 kj2 t106 true t101 t104 t107 t110)) else (laws_FnForget.j1 kj2 t106 true t101 t104 t107 t110)) else (laws_FnForget.j1 kj2 t106 true t101 t104 t107 t110)) else (laws_FnForget.j1 kj2 t106 true t101 t104 t107 t110)) else (laws_FnForget.j1 kj2 t106 true t101 t104 t107 t110))) else (laws_FnForget.j1 kj2 t106 true t101 t104 t107 t110)) = some r := H; have A11 := qO A110; clear A110; have HC12 := qO H; clear H
    go_upto_region 9 with (first | ((with_reducible refine gate_callee (f := 18) rfl ?_); refine goesL_ (some 34) rfl rfl Try.func18 qa6 rfl #[.slice A0 l0.length c0] rfl qa0 ?_; (with_reducible refine (spec_StoreOf.calls kj2 _ _ l0 t101 t104 _ ?side1 ?side2 A6.out).mono ?_); (case side1 => exact qa173); (case side2 => exact HC0.out); rintro e w13 ⟨v102, rfl, ho0, hb⟩; refine ⟨_, rfl, ?_⟩; have HO103 := qO (Kd.S_lower ho0 (below_size qa62)); replace HB := qO (below_step qa62 hb); (try clear hb); (try clear hb2); (try clear hk); (try clear hi); (try clear ho0)) | ((with_reducible refine gate_dst (N := 5) rfl ?_); (try (refine gate_guard (by rfl) ?_; dsimp only)); refine qX 5 #[.slice none 0 0, .int .i64 0] 28 ?_; intro gb105 hg w14 hbox hb; have BK105 := qO (hbox); have GW105 := qO ((qa36 : w.heap.size ≤ gb105)); have GE105 := qO ((qa36 : w.heap.size ≤ gb105)); replace HO103 := qO (Kd.S_below qa70 hb); replace HB := qO (below_step qa62 hb); clear hb hbox hg; obtain ⟨Ao15, co15, eo15⟩ := Kd.S_slice HO103.out; subst eo15; obtain ⟨hcz16_0, hcz16_1, hfz16_0, hfz16_1⟩ := qb2 BK105.out) | ((with_reducible refine gate_callee (f := 19) rfl ?_); refine goesL_ (some 39) rfl rfl Try.func19 qa6 rfl #[.slice A1 l1.length c1, .int .i64 0, .int .i64 (wrap64 (t104 + 1))] rfl qa0 ?_; (with_reducible refine (laws_at.calls _ _ l1 0 (wrap64 (t104 + 1)) t106 _ ?side1 ?side2 A7.out).mono ?_); (case side1 => exact Kd.C_below HR1.out (by repeat (first | (with_reducible first | exact HB.out | apply qbA | apply qbN | apply qbD | refine qbS ?_ GE105.out) | exact HB.out))); (case side2 => exact HC1.out); rintro e w' ⟨rfl, ⟨nd, rfl⟩⟩; refine ⟨_, rfl, ?_⟩) | ((with_reducible refine gate_callee (f := 14) rfl ?_); refine goesL_ (some 43) rfl rfl Try.func14 qa6 rfl #[.agg #[.slice Ao15 t101.length co15, .int .i64 t104], .int .i64 t106] rfl qa0 ?_; (with_reducible refine (impl_Forget.calls kj2 _ _ t101 t104 t106 t107 t110 t111 t112 _ ?side1 ?side2 A8.out).mono ?_); (case side1 => refine (Kd.S_reads' (e := 41) (base := w.heap.size) (ok := fun k_ => True) (n := t101.length) (c := co15) ?_).2.2; exact (by (with_reducible repeat (first | apply Kd.S_alloc | apply Kd.S_drewN | apply Kd.S_drew)); exact (Kd.S_mono (Kd.S_far (p := ⟨gb105, 1, none⟩) (Kd.S_far (p := ⟨gb105, 0, none⟩) (Kd.S_types HO103.out BK105.out (by decide)) (fun _ hk => hk.2) (.slice Ao15 t101.length co15)) (fun _ hk => hk.2) (.int .i64 t104)) (fun _ h_ => h_.1)))); (case side2 => exact (Kd.S_reads' HO103.out).2.1); rintro e w17 ⟨v108, rfl, ho0, hb⟩; refine ⟨_, rfl, ?_⟩; have HO109 := qO (Kd.S_lower (Kd.S_new' ho0 (Kd.S_lt qa115)) (below_size qa149)); replace HO103 := qO (Kd.S_elder' qa115 (Kd.S_base ho0) hb); replace BK105 := qO (blk_below (g := gb105) (o := .cells #[.slice Ao15 t101.length co15, .int .i64 t104] 28 (0, 0)) (by (with_reducible repeat (first | refine qkN ?_ _ | refine qkD ?_ | refine qkA ?_ _)); refine blk_put (cs := #[.slice Ao15 t101.length co15, .int .i64 0]) ?_ 1 _ rfl; (with_reducible repeat (first | refine qkN ?_ _ | refine qkD ?_ | refine qkA ?_ _)); refine blk_put (cs := #[.slice none 0 0, .int .i64 0]) ?_ 0 _ rfl; (with_reducible repeat (first | refine qkN ?_ _ | refine qkD ?_ | refine qkA ?_ _)); exact BK105.out) hb); replace HB := qO (below_step qa149 hb); (try clear hb); (try clear hb2); (try clear hk); (try clear hi); (try clear ho0)) | ((with_reducible refine gate_dst (N := 7) rfl ?_); (try (refine gate_guard (by rfl) ?_; dsimp only)); refine qX 7 #[.slice none 0 0, .int .i64 0] 28 ?_; intro gb113 hg w18 hbox hb; have BK113 := qO (hbox); have GW113 := qO ((qa154 : w.heap.size ≤ gb113)); have GE113 := qO ((qa154 : w.heap.size ≤ gb113)); have NB105_113 := qO ((qa144 : gb105 ≠ gb113)); have NB113_105 := qO ((qa145 : gb113 ≠ gb105)); replace HO103 := qO (Kd.S_below qa70 hb); replace HO109 := qO (Kd.S_below qa81 hb); replace BK105 := qO (blk_below (g := gb105) (o := .cells #[.slice Ao15 t101.length co15, .int .i64 t104] 28 (0, 0)) qa53 hb); replace HB := qO (below_step qa149 hb); clear hb hbox hg; obtain ⟨Ao19, co19, eo19⟩ := Kd.S_slice HO109.out; subst eo19; have hnb20 := NB113_105.out; have hnc20 := NB105_113.out; obtain ⟨hcz21_0, hcz21_1, hfz21_0, hfz21_1⟩ := qb2 BK113.out; obtain ⟨hcz22_0, hcz22_1, hfz22_0, hfz22_1⟩ := qb2 BK105.out) | ((with_reducible refine gate_callee (f := 12) rfl ?_); refine goesL_ (some 50) rfl rfl Try.func12 qa6 rfl #[.agg #[.slice Ao15 t101.length co15, .int .i64 t104], .int .i64 t106] rfl qa0 ?_; (with_reducible refine (spec_Forget.calls kj2 _ _ t101 t104 t106 t114 t117 t118 t119 _ ?side1 ?side2 A9.out).mono ?_); (case side1 => refine (Kd.S_reads' (e := 41) (base := w.heap.size) (ok := fun k_ => (True ∧ some k_ ≠ (.slice Ao19 t107.length co19 : Value).ownBlock)) (n := t101.length) (c := co15) ?_).2.2; exact (by (with_reducible repeat (first | apply Kd.S_alloc | apply Kd.S_drewN | apply Kd.S_drew)); exact (Kd.S_mono (Kd.S_far (p := ⟨gb113, 1, none⟩) (Kd.S_far (p := ⟨gb113, 0, none⟩) (Kd.S_types HO103.out BK113.out (by decide)) (fun _ hk => hk.2) (.slice Ao19 t107.length co19)) (fun _ hk => hk.2) (.int .i64 t110)) (fun _ h_ => h_.1)))); (case side2 => exact (Kd.S_reads' HO103.out).2.1); rintro e w23 ⟨v115, rfl, ho0, hb⟩; refine ⟨_, rfl, ?_⟩; have HO116 := qO (Kd.S_lower (Kd.S_new' (Kd.S_new' ho0 (Kd.S_lt qa116)) (Kd.S_lt qa117)) (below_size qa141)); replace HO103 := qO (Kd.S_elder' qa116 (Kd.S_base ho0) hb); replace HO109 := qO (Kd.S_elder' qa117 (Kd.S_base ho0) hb); replace BK105 := qO (blk_below (g := gb105) (o := .cells #[.slice Ao15 t101.length co15, .int .i64 t104] 28 (0, 0)) (by (with_reducible repeat (first | refine qkN ?_ _ | refine qkD ?_ | refine qkA ?_ _)); refine blk_far ?_ NB105_113.out _; (with_reducible repeat (first | refine qkN ?_ _ | refine qkD ?_ | refine qkA ?_ _)); refine blk_far ?_ NB105_113.out _; (with_reducible repeat (first | refine qkN ?_ _ | refine qkD ?_ | refine qkA ?_ _)); exact BK105.out) hb); replace BK113 := qO (blk_below (g := gb113) (o := .cells #[.slice Ao19 t107.length co19, .int .i64 t110] 28 (0, 0)) (by (with_reducible repeat (first | refine qkN ?_ _ | refine qkD ?_ | refine qkA ?_ _)); refine blk_put (cs := #[.slice Ao19 t107.length co19, .int .i64 0]) ?_ 1 _ rfl; (with_reducible repeat (first | refine qkN ?_ _ | refine qkD ?_ | refine qkA ?_ _)); refine blk_put (cs := #[.slice none 0 0, .int .i64 0]) ?_ 0 _ rfl; (with_reducible repeat (first | refine qkN ?_ _ | refine qkD ?_ | refine qkA ?_ _)); exact BK113.out) hb); replace HB := qO (below_step qa141 hb); (try clear hb); (try clear hb2); (try clear hk); (try clear hi); (try clear ho0)) | ((with_reducible refine gate_dst (N := 10) rfl ?_); (try (refine gate_guard (by rfl) ?_; dsimp only)); refine qX 10 #[.slice none 0 0, .int .i64 0] 28 ?_; intro gb120 hg w24 hbox hb; have BK120 := qO (hbox); have GW120 := qO ((qa150 : w.heap.size ≤ gb120)); have GE120 := qO ((qa150 : w.heap.size ≤ gb120)); have NB105_120 := qO ((qa144 : gb105 ≠ gb120)); have NB120_105 := qO ((qa145 : gb120 ≠ gb105)); have NB113_120 := qO ((by rw [hg]; exact Nat.ne_of_lt (blk_lt (g := gb113) (o := .cells #[.slice Ao19 t107.length co19, .int .i64 t110] 28 (0, 0)) (by (with_reducible repeat (first | refine qkN ?_ _ | refine qkD ?_ | refine qkA ?_ _)); exact BK113.out)) : gb113 ≠ gb120)); have NB120_113 := qO ((by rw [hg]; exact Nat.ne_of_gt (blk_lt (g := gb113) (o := .cells #[.slice Ao19 t107.length co19, .int .i64 t110] 28 (0, 0)) (by (with_reducible repeat (first | refine qkN ?_ _ | refine qkD ?_ | refine qkA ?_ _)); exact BK113.out)) : gb120 ≠ gb113)); replace HO103 := qO (Kd.S_below qa70 hb); replace HO109 := qO (Kd.S_below qa81 hb); replace HO116 := qO (Kd.S_below qa91 hb); replace BK105 := qO (blk_below (g := gb105) (o := .cells #[.slice Ao15 t101.length co15, .int .i64 t104] 28 (0, 0)) qa53 hb); replace BK113 := qO (blk_below (g := gb113) (o := .cells #[.slice Ao19 t107.length co19, .int .i64 t110] 28 (0, 0)) qa56 hb); replace HB := qO (below_step qa141 hb); clear hb hbox hg; obtain ⟨Ao25, co25, eo25⟩ := Kd.S_slice HO116.out; subst eo25; have hnb26 := NB120_105.out; have hnc26 := NB105_120.out; have hnb27 := NB120_113.out; have hnc27 := NB113_120.out; obtain ⟨hcz28_0, hcz28_1, hfz28_0, hfz28_1⟩ := qb2 BK120.out; obtain ⟨hcz29_0, hcz29_1, hfz29_0, hfz29_1⟩ := qb2 BK105.out) | ((with_reducible refine gate_callee (f := 20) rfl ?_); refine goesL_ (some 56) rfl rfl Try.func20 qa6 rfl #[.agg #[.slice Ao15 t101.length co15, .int .i64 t104]] rfl qa0 ?_; (with_reducible refine (impl_SizeOf.calls kj2 _ _ t101 t104 t121 t122 _ ?side1 ?side2 A10.out).mono ?_); (case side1 => refine (Kd.S_reads' (e := 41) (base := w.heap.size) (ok := fun k_ => ((True ∧ some k_ ≠ (.slice Ao19 t107.length co19 : Value).ownBlock) ∧ some k_ ≠ (.slice Ao25 t114.length co25 : Value).ownBlock)) (n := t101.length) (c := co15) ?_).2.2; exact (by (with_reducible repeat (first | apply Kd.S_alloc | apply Kd.S_drewN | apply Kd.S_drew)); exact (Kd.S_mono (Kd.S_far (p := ⟨gb120, 1, none⟩) (Kd.S_far (p := ⟨gb120, 0, none⟩) (Kd.S_types HO103.out BK120.out (by decide)) (fun _ hk => hk.2) (.slice Ao25 t114.length co25)) (fun _ hk => hk.2) (.int .i64 t117)) (fun _ h_ => h_.1)))); (case side2 => exact (Kd.S_reads' HO103.out).2.1); rintro e w30 ⟨rfl, hb⟩; refine ⟨_, rfl, ?_⟩; replace HO103 := qO (Kd.S_below (by (with_reducible repeat (first | apply Kd.S_alloc | apply Kd.S_drewN | apply Kd.S_drew)); exact (Kd.S_mono (Kd.S_far (p := ⟨gb120, 1, none⟩) (Kd.S_far (p := ⟨gb120, 0, none⟩) (Kd.S_types HO103.out BK120.out (by decide)) (fun _ hk => hk.2) (.slice Ao25 t114.length co25)) (fun _ hk => hk.2) (.int .i64 t117)) (fun _ h_ => h_.1))) hb); replace HO109 := qO (Kd.S_below (by (with_reducible repeat (first | apply Kd.S_alloc | apply Kd.S_drewN | apply Kd.S_drew)); exact (Kd.S_mono (Kd.S_far (p := ⟨gb120, 1, none⟩) (Kd.S_far (p := ⟨gb120, 0, none⟩) (Kd.S_types HO109.out BK120.out (by decide)) (fun _ hk => hk.2) (.slice Ao25 t114.length co25)) (fun _ hk => hk.2) (.int .i64 t117)) (fun _ h_ => h_.1))) hb); replace HO116 := qO (Kd.S_below (by (with_reducible repeat (first | apply Kd.S_alloc | apply Kd.S_drewN | apply Kd.S_drew)); exact (Kd.S_mono (Kd.S_far (p := ⟨gb120, 1, none⟩) (Kd.S_far (p := ⟨gb120, 0, none⟩) (Kd.S_types HO116.out BK120.out (by decide)) (fun _ hk => hk.2) (.slice Ao25 t114.length co25)) (fun _ hk => hk.2) (.int .i64 t117)) (fun _ h_ => h_.1))) hb); replace BK105 := qO (blk_below (g := gb105) (o := .cells #[.slice Ao15 t101.length co15, .int .i64 t104] 28 (0, 0)) (by (with_reducible repeat (first | refine qkN ?_ _ | refine qkD ?_ | refine qkA ?_ _)); refine blk_far ?_ NB105_120.out _; (with_reducible repeat (first | refine qkN ?_ _ | refine qkD ?_ | refine qkA ?_ _)); refine blk_far ?_ NB105_120.out _; (with_reducible repeat (first | refine qkN ?_ _ | refine qkD ?_ | refine qkA ?_ _)); exact BK105.out) hb); replace BK113 := qO (blk_below (g := gb113) (o := .cells #[.slice Ao19 t107.length co19, .int .i64 t110] 28 (0, 0)) (by (with_reducible repeat (first | refine qkN ?_ _ | refine qkD ?_ | refine qkA ?_ _)); refine blk_far ?_ NB113_120.out _; (with_reducible repeat (first | refine qkN ?_ _ | refine qkD ?_ | refine qkA ?_ _)); refine blk_far ?_ NB113_120.out _; (with_reducible repeat (first | refine qkN ?_ _ | refine qkD ?_ | refine qkA ?_ _)); exact BK113.out) hb); replace BK120 := qO (blk_below (g := gb120) (o := .cells #[.slice Ao25 t114.length co25, .int .i64 t117] 28 (0, 0)) (by (with_reducible repeat (first | refine qkN ?_ _ | refine qkD ?_ | refine qkA ?_ _)); refine blk_put (cs := #[.slice Ao25 t114.length co25, .int .i64 0]) ?_ 1 _ rfl; (with_reducible repeat (first | refine qkN ?_ _ | refine qkD ?_ | refine qkA ?_ _)); refine blk_put (cs := #[.slice none 0 0, .int .i64 0]) ?_ 0 _ rfl; (with_reducible repeat (first | refine qkN ?_ _ | refine qkD ?_ | refine qkA ?_ _)); exact BK120.out) hb); replace HB := qO (below_step qa31 hb); (try clear hb); (try clear hb2); (try clear hk); (try clear hi); obtain ⟨hcz31_0, hcz31_1, hfz31_0, hfz31_1⟩ := qb2 BK113.out) | ((with_reducible refine gate_callee (f := 20) rfl ?_); refine goesL_ (some 61) rfl rfl Try.func20 qa6 rfl #[.agg #[.slice Ao19 t107.length co19, .int .i64 t110]] rfl qa0 ?_; (with_reducible refine (impl_SizeOf.calls kj2 _ _ t107 t110 t123 t124 _ ?side1 ?side2 A11.out).mono ?_); (case side1 => exact qa77); (case side2 => exact qa189); rintro e w32 ⟨rfl, hb⟩; refine ⟨_, rfl, ?_⟩; replace HO103 := qO (Kd.S_below qa70 hb); replace HO109 := qO (Kd.S_below qa81 hb); replace HO116 := qO (Kd.S_below qa91 hb); replace BK105 := qO (blk_below (g := gb105) (o := .cells #[.slice Ao15 t101.length co15, .int .i64 t104] 28 (0, 0)) qa53 hb); replace BK113 := qO (blk_below (g := gb113) (o := .cells #[.slice Ao19 t107.length co19, .int .i64 t110] 28 (0, 0)) qa56 hb); replace BK120 := qO (blk_below (g := gb120) (o := .cells #[.slice Ao25 t114.length co25, .int .i64 t117] 28 (0, 0)) qa61 hb); replace HB := qO (below_step qa31 hb); (try clear hb); (try clear hb2); (try clear hk); (try clear hi)))
    (try simp only [Act.put, qzA, qzB, qzC])
    go_cut [96] (fun v96 wc => ∃ (kq : Nat) (x96_11 : Bool), v96 = .bool x96_11 ∧ Aside0 (laws_FnForget.j1 kq t106 x96_11 t101 t104 t107 t110 = some r) ∧ Aside0 (kq ≤ kj2) ∧ Aside0 (Kd.S (Kd.slice 43 k43) 41 wc w.heap.size (fun k_ => some k_ ≠ ((.slice Ao19 t107.length co19) : Value).ownBlock ∧ some k_ ≠ ((.slice Ao25 t114.length co25) : Value).ownBlock) (.slice Ao15 t101.length co15) t101) ∧ Aside0 (Kd.S (Kd.slice 43 k43) 41 wc w.heap.size (fun k_ => some k_ ≠ ((.slice Ao15 t101.length co15) : Value).ownBlock ∧ some k_ ≠ ((.slice Ao25 t114.length co25) : Value).ownBlock) (.slice Ao19 t107.length co19) t107) ∧ Aside0 (Kd.S (Kd.slice 43 k43) 41 wc w.heap.size (fun k_ => some k_ ≠ ((.slice Ao15 t101.length co15) : Value).ownBlock ∧ some k_ ≠ ((.slice Ao19 t107.length co19) : Value).ownBlock) (.slice Ao25 t114.length co25) t114) ∧ Aside0 (wc.heap[gb105]? = some (.cells #[(.slice Ao15 t101.length co15), .int .i64 t104] 28 (0, 0))) ∧ Aside0 (wc.heap[gb113]? = some (.cells #[(.slice Ao19 t107.length co19), .int .i64 t110] 28 (0, 0))) ∧ Aside0 (wc.heap[gb120]? = some (.cells #[(.slice Ao25 t114.length co25), .int .i64 t117] 28 (0, 0))) ∧ Aside0 (Below w.heap.size w wc))
    case first =>
     have H := HC12.out; clear HC12
     by_cases c33 : t112 = 0
     ·rw [if_pos c33] at H
      have c33b0 : (t112 == 0) = true := beq_iff_eq.mpr c33; have c33b1 : (t112 != 0) = false := bne_eq_false_iff_eq.mpr c33; clear c33; (first | rw [c33b0] | (simp only [i64_w, i32_w]; rw [c33b0]) | skip); replace H := Option.bind_eq_some_iff.mp H; obtain ⟨t125, A340, H⟩ := H; replace H : (if t125 = true then (if t111 = t118 then (if t122 = 0 then (if t124 = 0 then (if (wrap64 (t121 - t123)) = t111 then ((impl_StoreOK.f kj2 t107 t110).bind fun t126 => (laws_FnForget.j1 kj2 t106 (!t126) t101 t104 t107 t110)) else (laws_FnForget.j1 kj2 t106 true t101 t104 t107 t110)) else (laws_FnForget.j1 kj2 t106 true t101 t104 t107 t110)) else (laws_FnForget.j1 kj2 t106 true t101 t104 t107 t110)) else (laws_FnForget.j1 kj2 t106 true t101 t104 t107 t110)) else (laws_FnForget.j1 kj2 t106 true t101 t104 t107 t110)) = some r := H; have A34 := qO A340; clear A340
      by_cases c35 : t125 = true
      ·subst c35
       have H1 : (if t111 = t118 then (if t122 = 0 then (if t124 = 0 then (if (wrap64 (t121 - t123)) = t111 then ((impl_StoreOK.f kj2 t107 t110).bind fun t126 => (laws_FnForget.j1 kj2 t106 (!t126) t101 t104 t107 t110)) else (laws_FnForget.j1 kj2 t106 true t101 t104 t107 t110)) else (laws_FnForget.j1 kj2 t106 true t101 t104 t107 t110)) else (laws_FnForget.j1 kj2 t106 true t101 t104 t107 t110)) else (laws_FnForget.j1 kj2 t106 true t101 t104 t107 t110)) = some r := by rw [if_pos rfl] at H; exact H
       clear H; have H := H1; clear H1
       by_cases c36 : t111 = t118
       ·rw [if_pos c36] at H
        have c36b0 : (t111 == t118) = true := beq_iff_eq.mpr c36; have c36b1 : (t111 != t118) = false := bne_eq_false_iff_eq.mpr c36; clear c36
        by_cases c37 : t122 = 0
        ·rw [if_pos c37] at H
         have c37b0 : (t122 == 0) = true := beq_iff_eq.mpr c37; have c37b1 : (t122 != 0) = false := bne_eq_false_iff_eq.mpr c37; clear c37
         by_cases c38 : t124 = 0
         ·rw [if_pos c38] at H
          have c38b0 : (t124 == 0) = true := beq_iff_eq.mpr c38; have c38b1 : (t124 != 0) = false := bne_eq_false_iff_eq.mpr c38; clear c38
          by_cases c39 : (wrap64 (t121 - t123)) = t111
          ·rw [if_pos c39] at H
           have c39b0 : ((wrap64 (t121 - t123)) == t111) = true := beq_iff_eq.mpr c39; have c39b1 : ((wrap64 (t121 - t123)) != t111) = false := bne_eq_false_iff_eq.mpr c39; clear c39; replace H := Option.bind_eq_some_iff.mp H; obtain ⟨t126, A400, H⟩ := H; replace H : (laws_FnForget.j1 kj2 t106 (!t126) t101 t104 t107 t110) = some r := H; have A40 := qO A400; clear A400; have H' := qO H; clear H; have hnb41 := NB113_105.out; have hnc41 := NB105_113.out; have hnb42 := NB113_120.out; have hnc42 := NB120_113.out; obtain ⟨hcz43_0, hcz43_1, hfz43_0, hfz43_1⟩ := qb2 BK113.out; have hnb44 := NB120_105.out; have hnc44 := NB105_120.out; obtain ⟨hcz45_0, hcz45_1, hfz45_0, hfz45_1⟩ := qb2 BK120.out
           go_wp2_with (first | (go_at_call 21; (with_reducible refine (laws_sameStore.calls kj2 _ _ t107 t110 _ _ t114 t117 true _ ?side1 ?side2 ?side3 ?side4 A34.out).mono ?_); (case side1 => exact qa77); (case side2 => exact qa189); (case side3 => exact qa98); (case side4 => exact qa195); rintro e w46 ⟨rfl, hb⟩; have hx_ := qHX HB hb qa1; replace HO103 := qO (Kd.S_below qa70 hb); replace HO109 := qO (Kd.S_below qa81 hb); replace HO116 := qO (Kd.S_below qa91 hb); replace BK105 := qO (qB BK105.out hx_ hb); replace BK113 := qO (qB BK113.out hx_ hb); replace BK120 := qO (qB BK120.out hx_ hb); replace HB := qO (below_step (below_step HB.out hx_) hb); clear hx_; (try clear hb); (try clear hb2); (try clear hk); (try clear hi); obtain ⟨hcz47_0, hcz47_1, hfz47_0, hfz47_1⟩ := qb2 BK113.out) | (go_at_call 22; (with_reducible refine (impl_StoreOK.calls kj2 _ _ t107 t110 t126 _ ?side1 ?side2 A40.out).mono ?_); (case side1 => exact qa77); (case side2 => exact qa189); rintro e w48 ⟨rfl, hb⟩; have hx_ := qHX HB hb qa1; replace HO103 := qO (Kd.S_below qa70 hb); replace HO109 := qO (Kd.S_below qa81 hb); replace HO116 := qO (Kd.S_below qa91 hb); replace BK105 := qO (qB BK105.out hx_ hb); replace BK113 := qO (qB BK113.out hx_ hb); replace BK120 := qO (qB BK120.out hx_ hb); replace HB := qO (below_step (below_step HB.out hx_) hb); clear hx_; (try clear hb); (try clear hb2); (try clear hk); (try clear hi)))
           go_meet
           case rel => exact ⟨_, (!t126), qa16, H', ⟨qa151⟩, ⟨qa83⟩, ⟨qa84⟩, ⟨qa85⟩, ⟨qa53⟩, ⟨qa56⟩, ⟨qa61⟩, ⟨qa31⟩⟩
          ·rw [if_neg c39] at H
           have c39b0 : ((wrap64 (t121 - t123)) == t111) = false := beq_eq_false_iff_ne.mpr c39; have c39b1 : ((wrap64 (t121 - t123)) != t111) = true := bne_iff_ne.mpr c39; have H' := qO H; clear H; have hnb49 := NB113_105.out; have hnc49 := NB105_113.out; have hnb50 := NB113_120.out; have hnc50 := NB120_113.out; obtain ⟨hcz51_0, hcz51_1, hfz51_0, hfz51_1⟩ := qb2 BK113.out; have hnb52 := NB120_105.out; have hnc52 := NB105_120.out; obtain ⟨hcz53_0, hcz53_1, hfz53_0, hfz53_1⟩ := qb2 BK120.out
           go_wp2_with (first | (go_at_call 21; (with_reducible refine (laws_sameStore.calls kj2 _ _ t107 t110 _ _ t114 t117 true _ ?side1 ?side2 ?side3 ?side4 A34.out).mono ?_); (case side1 => exact qa77); (case side2 => exact qa189); (case side3 => exact qa98); (case side4 => exact qa195); rintro e w54 ⟨rfl, hb⟩; have hx_ := qHX HB hb qa1; replace HO103 := qO (Kd.S_below qa70 hb); replace HO109 := qO (Kd.S_below qa81 hb); replace HO116 := qO (Kd.S_below qa91 hb); replace BK105 := qO (qB BK105.out hx_ hb); replace BK113 := qO (qB BK113.out hx_ hb); replace BK120 := qO (qB BK120.out hx_ hb); replace HB := qO (below_step (below_step HB.out hx_) hb); clear hx_; (try clear hb); (try clear hb2); (try clear hk); (try clear hi)))
           go_meet
           case rel => exact ⟨_, (true), qa16, H', ⟨qa151⟩, ⟨qa83⟩, ⟨qa84⟩, ⟨qa85⟩, ⟨qa53⟩, ⟨qa56⟩, ⟨qa61⟩, ⟨qa31⟩⟩
         ·rw [if_neg c38] at H
          have c38b0 : (t124 == 0) = false := beq_eq_false_iff_ne.mpr c38; have c38b1 : (t124 != 0) = true := bne_iff_ne.mpr c38; have H' := qO H; clear H; have hnb55 := NB113_105.out; have hnc55 := NB105_113.out; have hnb56 := NB113_120.out; have hnc56 := NB120_113.out; obtain ⟨hcz57_0, hcz57_1, hfz57_0, hfz57_1⟩ := qb2 BK113.out; have hnb58 := NB120_105.out; have hnc58 := NB105_120.out; obtain ⟨hcz59_0, hcz59_1, hfz59_0, hfz59_1⟩ := qb2 BK120.out
          go_wp2_with (first | (go_at_call 21; (with_reducible refine (laws_sameStore.calls kj2 _ _ t107 t110 _ _ t114 t117 true _ ?side1 ?side2 ?side3 ?side4 A34.out).mono ?_); (case side1 => exact qa77); (case side2 => exact qa189); (case side3 => exact qa98); (case side4 => exact qa195); rintro e w60 ⟨rfl, hb⟩; have hx_ := qHX HB hb qa1; replace HO103 := qO (Kd.S_below qa70 hb); replace HO109 := qO (Kd.S_below qa81 hb); replace HO116 := qO (Kd.S_below qa91 hb); replace BK105 := qO (qB BK105.out hx_ hb); replace BK113 := qO (qB BK113.out hx_ hb); replace BK120 := qO (qB BK120.out hx_ hb); replace HB := qO (below_step (below_step HB.out hx_) hb); clear hx_; (try clear hb); (try clear hb2); (try clear hk); (try clear hi)))
          go_meet
          case rel => exact ⟨_, (true), qa16, H', ⟨qa151⟩, ⟨qa83⟩, ⟨qa84⟩, ⟨qa85⟩, ⟨qa53⟩, ⟨qa56⟩, ⟨qa61⟩, ⟨qa31⟩⟩
        ·rw [if_neg c37] at H
         have c37b0 : (t122 == 0) = false := beq_eq_false_iff_ne.mpr c37; have c37b1 : (t122 != 0) = true := bne_iff_ne.mpr c37; have H' := qO H; clear H; have hnb61 := NB113_105.out; have hnc61 := NB105_113.out; have hnb62 := NB113_120.out; have hnc62 := NB120_113.out; obtain ⟨hcz63_0, hcz63_1, hfz63_0, hfz63_1⟩ := qb2 BK113.out; have hnb64 := NB120_105.out; have hnc64 := NB105_120.out; obtain ⟨hcz65_0, hcz65_1, hfz65_0, hfz65_1⟩ := qb2 BK120.out
         go_wp2_with (first | (go_at_call 21; (with_reducible refine (laws_sameStore.calls kj2 _ _ t107 t110 _ _ t114 t117 true _ ?side1 ?side2 ?side3 ?side4 A34.out).mono ?_); (case side1 => exact qa77); (case side2 => exact qa189); (case side3 => exact qa98); (case side4 => exact qa195); rintro e w66 ⟨rfl, hb⟩; have hx_ := qHX HB hb qa1; replace HO103 := qO (Kd.S_below qa70 hb); replace HO109 := qO (Kd.S_below qa81 hb); replace HO116 := qO (Kd.S_below qa91 hb); replace BK105 := qO (qB BK105.out hx_ hb); replace BK113 := qO (qB BK113.out hx_ hb); replace BK120 := qO (qB BK120.out hx_ hb); replace HB := qO (below_step (below_step HB.out hx_) hb); clear hx_; (try clear hb); (try clear hb2); (try clear hk); (try clear hi)))
         go_meet
         case rel => exact ⟨_, (true), qa16, H', ⟨qa151⟩, ⟨qa83⟩, ⟨qa84⟩, ⟨qa85⟩, ⟨qa53⟩, ⟨qa56⟩, ⟨qa61⟩, ⟨qa31⟩⟩
       ·rw [if_neg c36] at H
        have c36b0 : (t111 == t118) = false := beq_eq_false_iff_ne.mpr c36; have c36b1 : (t111 != t118) = true := bne_iff_ne.mpr c36; have H' := qO H; clear H; have hnb67 := NB113_105.out; have hnc67 := NB105_113.out; have hnb68 := NB113_120.out; have hnc68 := NB120_113.out; obtain ⟨hcz69_0, hcz69_1, hfz69_0, hfz69_1⟩ := qb2 BK113.out; have hnb70 := NB120_105.out; have hnc70 := NB105_120.out; obtain ⟨hcz71_0, hcz71_1, hfz71_0, hfz71_1⟩ := qb2 BK120.out
        go_wp2_with (first | (go_at_call 21; (with_reducible refine (laws_sameStore.calls kj2 _ _ t107 t110 _ _ t114 t117 true _ ?side1 ?side2 ?side3 ?side4 A34.out).mono ?_); (case side1 => exact qa77); (case side2 => exact qa189); (case side3 => exact qa98); (case side4 => exact qa195); rintro e w72 ⟨rfl, hb⟩; have hx_ := qHX HB hb qa1; replace HO103 := qO (Kd.S_below qa70 hb); replace HO109 := qO (Kd.S_below qa81 hb); replace HO116 := qO (Kd.S_below qa91 hb); replace BK105 := qO (qB BK105.out hx_ hb); replace BK113 := qO (qB BK113.out hx_ hb); replace BK120 := qO (qB BK120.out hx_ hb); replace HB := qO (below_step (below_step HB.out hx_) hb); clear hx_; (try clear hb); (try clear hb2); (try clear hk); (try clear hi)))
        go_meet
        case rel => exact ⟨_, (true), qa16, H', ⟨qa151⟩, ⟨qa83⟩, ⟨qa84⟩, ⟨qa85⟩, ⟨qa53⟩, ⟨qa56⟩, ⟨qa61⟩, ⟨qa31⟩⟩
      ·replace c35 := Bool.eq_false_iff.mpr c35
       subst c35; have H1 : (laws_FnForget.j1 kj2 t106 true t101 t104 t107 t110) = some r := by rw [if_neg (show ¬ (false = true) by decide)] at H; exact H
       clear H; have H := H1; clear H1; have H' := qO H; clear H; have hnb73 := NB113_105.out; have hnc73 := NB105_113.out; have hnb74 := NB113_120.out; have hnc74 := NB120_113.out; obtain ⟨hcz75_0, hcz75_1, hfz75_0, hfz75_1⟩ := qb2 BK113.out; have hnb76 := NB120_105.out; have hnc76 := NB105_120.out; obtain ⟨hcz77_0, hcz77_1, hfz77_0, hfz77_1⟩ := qb2 BK120.out
       go_wp2_with (first | (go_at_call 21; (with_reducible refine (laws_sameStore.calls kj2 _ _ t107 t110 _ _ t114 t117 false _ ?side1 ?side2 ?side3 ?side4 A34.out).mono ?_); (case side1 => exact qa77); (case side2 => exact qa189); (case side3 => exact qa98); (case side4 => exact qa195); rintro e w78 ⟨rfl, hb⟩; have hx_ := qHX HB hb qa1; replace HO103 := qO (Kd.S_below qa70 hb); replace HO109 := qO (Kd.S_below qa81 hb); replace HO116 := qO (Kd.S_below qa91 hb); replace BK105 := qO (qB BK105.out hx_ hb); replace BK113 := qO (qB BK113.out hx_ hb); replace BK120 := qO (qB BK120.out hx_ hb); replace HB := qO (below_step (below_step HB.out hx_) hb); clear hx_; (try clear hb); (try clear hb2); (try clear hk); (try clear hi)))
       go_meet
       case rel => exact ⟨_, (true), qa16, H', ⟨qa151⟩, ⟨qa83⟩, ⟨qa84⟩, ⟨qa85⟩, ⟨qa53⟩, ⟨qa56⟩, ⟨qa61⟩, ⟨qa31⟩⟩
     ·rw [if_neg c33] at H
      have c33b0 : (t112 == 0) = false := beq_eq_false_iff_ne.mpr c33; have c33b1 : (t112 != 0) = true := bne_iff_ne.mpr c33; (first | rw [c33b0] | (simp only [i64_w, i32_w]; rw [c33b0]) | skip); have H' := qO H; clear H; go_wp2
      go_meet
      case rel => exact ⟨_, (true), qa16, H', ⟨qa151⟩, ⟨qa83⟩, ⟨qa84⟩, ⟨qa85⟩, ⟨qa53⟩, ⟨qa56⟩, ⟨qa61⟩, ⟨qa31⟩⟩
    case rest =>
     clear HC12
     try clear c1
     try clear c2
     try clear p2
     try clear c3
     try clear c4
     try clear c4b0
     try clear c4b1
     try clear c5
     try clear c6
     try clear p6
     try clear c7
     try clear c12
     try clear c14
     try clear c18
     try clear c19
     try clear c20
     try clear c26
     try clear c27
     try clear c33
     try clear c33b0
     try clear c33b1
     try clear c35
     try clear c36
     try clear c36b0
     try clear c36b1
     try clear c37
     try clear c37b0
     try clear c37b1
     try clear c38
     try clear c38b0
     try clear c38b1
     try clear c39
     try clear c39b0
     try clear c39b1
     try clear c41
     try clear c42
     try clear c44
     try clear c49
     try clear c50
     try clear c52
     try clear c55
     try clear c56
     try clear c58
     try clear c61
     try clear c62
     try clear c64
     try clear p64
     try clear c67
     try clear c68
     try clear c70
     try clear c73
     try clear c74
     try clear c76
     try clear hcz16_0
     try clear hcz16_1
     try clear hcz21_0
     try clear hcz21_1
     try clear hcz22_0
     try clear hcz22_1
     try clear hcz28_0
     try clear hcz28_1
     try clear hcz29_0
     try clear hcz29_1
     try clear hcz31_0
     try clear hcz31_1
     try clear hcz43_0
     try clear hcz43_1
     try clear hcz45_0
     try clear hcz45_1
     try clear hcz47_0
     try clear hcz47_1
     try clear hcz51_0
     try clear hcz51_1
     try clear hcz53_0
     try clear hcz53_1
     try clear hcz57_0
     try clear hcz57_1
     try clear hcz59_0
     try clear hcz59_1
     try clear hcz63_0
     try clear hcz63_1
     try clear hcz65_0
     try clear hcz65_1
     try clear hcz69_0
     try clear hcz69_1
     try clear hcz71_0
     try clear hcz71_1
     try clear hcz75_0
     try clear hcz75_1
     try clear hcz77_0
     try clear hcz77_1
     try clear hfz16_0
     try clear hfz16_1
     try clear hfz21_0
     try clear hfz21_1
     try clear hfz22_0
     try clear hfz22_1
     try clear hfz28_0
     try clear hfz28_1
     try clear hfz29_0
     try clear hfz29_1
     try clear hfz31_0
     try clear hfz31_1
     try clear hfz43_0
     try clear hfz43_1
     try clear hfz45_0
     try clear hfz45_1
     try clear hfz47_0
     try clear hfz47_1
     try clear hfz51_0
     try clear hfz51_1
     try clear hfz53_0
     try clear hfz53_1
     try clear hfz57_0
     try clear hfz57_1
     try clear hfz59_0
     try clear hfz59_1
     try clear hfz63_0
     try clear hfz63_1
     try clear hfz65_0
     try clear hfz65_1
     try clear hfz69_0
     try clear hfz69_1
     try clear hfz71_0
     try clear hfz71_1
     try clear hfz75_0
     try clear hfz75_1
     try clear hfz77_0
     try clear hfz77_1
     try clear p2
     obtain ⟨kq, x96_11, rfl, HA, HJ11, HO_106000, HO_114000, HO_121000, BK105, BK113, BK120, HB⟩ := hcut
     cases kq with
     | zero => exact absurd HA.out (by simp [laws_FnForget.j1])
     | succ kj11 =>
      have H := HA.out; clear HA; simp only [laws_FnForget.j1] at H
      by_cases c79 : x96_11 = true
      ·subst c79
       have H1 : (none) = some r := by rw [if_pos rfl] at H; exact H
       clear H; have H := H1; clear H1
       exact absurd H qa119
      ·replace c79 := Bool.eq_false_iff.mpr c79
       subst c79; have H1 : (laws_FnForget.l0 kj11 t106 0 t101 t104 t107 t110) = some r := by rw [if_neg (show ¬ (false = true) by decide)] at H; exact H
       clear H; have H := H1; clear H1; have H' := qO H; clear H; go_wp2
       go_loopg [17] kj11 (fun kq v17 w' => ∃ (x17_3 : Int), v17 = .int .i64 x17_3 ∧ Aside0 (laws_FnForget.l0 kq t106 x17_3 t101 t104 t107 t110 = some r) ∧ Aside0 (kq ≤ kj11) ∧ Aside0 (Kd.S (Kd.slice 43 k43) 41 w' w.heap.size (fun k_ => some k_ ≠ ((.slice Ao19 t107.length co19) : Value).ownBlock ∧ some k_ ≠ ((.slice Ao25 t114.length co25) : Value).ownBlock) (.slice Ao15 t101.length co15) t101) ∧ Aside0 (Kd.S (Kd.slice 43 k43) 41 w' w.heap.size (fun k_ => some k_ ≠ ((.slice Ao15 t101.length co15) : Value).ownBlock ∧ some k_ ≠ ((.slice Ao25 t114.length co25) : Value).ownBlock) (.slice Ao19 t107.length co19) t107) ∧ Aside0 (Kd.S (Kd.slice 43 k43) 41 w' w.heap.size (fun k_ => some k_ ≠ ((.slice Ao15 t101.length co15) : Value).ownBlock ∧ some k_ ≠ ((.slice Ao19 t107.length co19) : Value).ownBlock) (.slice Ao25 t114.length co25) t114) ∧ Aside0 (w'.heap[gb105]? = some (.cells #[(.slice Ao15 t101.length co15), .int .i64 t104] 28 (0, 0))) ∧ Aside0 (w'.heap[gb113]? = some (.cells #[(.slice Ao19 t107.length co19), .int .i64 t110] 28 (0, 0))) ∧ Aside0 (w'.heap[gb120]? = some (.cells #[(.slice Ao25 t114.length co25), .int .i64 t117] 28 (0, 0))) ∧ Aside0 (Below w.heap.size w w'))
       case atStart => exact ⟨(0), qa16, H', ⟨Nat.le_refl _⟩, ⟨qa86⟩, ⟨qa87⟩, ⟨qa88⟩, ⟨qa53⟩, ⟨qa56⟩, ⟨qa61⟩, ⟨qa31⟩⟩
       case round =>
        clear H'
        try clear c1
        try clear c2
        try clear p2
        try clear c3
        try clear c4
        try clear c4b0
        try clear c4b1
        try clear c5
        try clear c6
        try clear p6
        try clear c7
        try clear c12
        try clear c14
        try clear c18
        try clear c19
        try clear c20
        try clear c26
        try clear c27
        try clear c33
        try clear c33b0
        try clear c33b1
        try clear c35
        try clear c36
        try clear c36b0
        try clear c36b1
        try clear c37
        try clear c37b0
        try clear c37b1
        try clear c38
        try clear c38b0
        try clear c38b1
        try clear c39
        try clear c39b0
        try clear c39b1
        try clear c41
        try clear c42
        try clear c44
        try clear c49
        try clear c50
        try clear c52
        try clear c55
        try clear c56
        try clear c58
        try clear c61
        try clear c62
        try clear c64
        try clear p64
        try clear c67
        try clear c68
        try clear c70
        try clear c73
        try clear c74
        try clear c76
        try clear c79
        try clear hcz16_0
        try clear hcz16_1
        try clear hcz21_0
        try clear hcz21_1
        try clear hcz22_0
        try clear hcz22_1
        try clear hcz28_0
        try clear hcz28_1
        try clear hcz29_0
        try clear hcz29_1
        try clear hcz31_0
        try clear hcz31_1
        try clear hcz43_0
        try clear hcz43_1
        try clear hcz45_0
        try clear hcz45_1
        try clear hcz47_0
        try clear hcz47_1
        try clear hcz51_0
        try clear hcz51_1
        try clear hcz53_0
        try clear hcz53_1
        try clear hcz57_0
        try clear hcz57_1
        try clear hcz59_0
        try clear hcz59_1
        try clear hcz63_0
        try clear hcz63_1
        try clear hcz65_0
        try clear hcz65_1
        try clear hcz69_0
        try clear hcz69_1
        try clear hcz71_0
        try clear hcz71_1
        try clear hcz75_0
        try clear hcz75_1
        try clear hcz77_0
        try clear hcz77_1
        try clear hfz16_0
        try clear hfz16_1
        try clear hfz21_0
        try clear hfz21_1
        try clear hfz22_0
        try clear hfz22_1
        try clear hfz28_0
        try clear hfz28_1
        try clear hfz29_0
        try clear hfz29_1
        try clear hfz31_0
        try clear hfz31_1
        try clear hfz43_0
        try clear hfz43_1
        try clear hfz45_0
        try clear hfz45_1
        try clear hfz47_0
        try clear hfz47_1
        try clear hfz51_0
        try clear hfz51_1
        try clear hfz53_0
        try clear hfz53_1
        try clear hfz57_0
        try clear hfz57_1
        try clear hfz59_0
        try clear hfz59_1
        try clear hfz63_0
        try clear hfz63_1
        try clear hfz65_0
        try clear hfz65_1
        try clear hfz69_0
        try clear hfz69_1
        try clear hfz71_0
        try clear hfz71_1
        try clear hfz75_0
        try clear hfz75_1
        try clear hfz77_0
        try clear hfz77_1
        try clear p2
        try clear p6
        try clear p64
        obtain ⟨x17_3, rfl, HA, HK3, HO_106000, HO_114000, HO_121000, BK105, BK113, BK120, HB⟩ := hrel
        cases gk with
        | zero => exact absurd HA.out (by simp [laws_FnForget.l0])
        | succ k3 =>
         have H := HA.out; clear HA; simp only [laws_FnForget.l0] at H
         by_cases c80 : x17_3 < 16
         ·rw [if_pos c80] at H
          have c80b0 : decide (x17_3 < 16) = true := decide_eq_true c80; clear c80; have HC81 := qO H; clear H
          go_upto_region 14 with (fail)
          go_cut [119] (fun v119 wc => ∃ (kq : Nat) (x119_80 : Bool), v119 = .bool x119_80 ∧ Aside0 (laws_FnForget.j3 kq t106 x17_3 x119_80 t101 t104 t107 t110 = some r) ∧ Aside0 (kq ≤ k3) ∧ Aside0 (Kd.S (Kd.slice 43 k43) 41 wc w.heap.size (fun k_ => some k_ ≠ ((.slice Ao19 t107.length co19) : Value).ownBlock ∧ some k_ ≠ ((.slice Ao25 t114.length co25) : Value).ownBlock) (.slice Ao15 t101.length co15) t101) ∧ Aside0 (Kd.S (Kd.slice 43 k43) 41 wc w.heap.size (fun k_ => some k_ ≠ ((.slice Ao15 t101.length co15) : Value).ownBlock ∧ some k_ ≠ ((.slice Ao25 t114.length co25) : Value).ownBlock) (.slice Ao19 t107.length co19) t107) ∧ Aside0 (Kd.S (Kd.slice 43 k43) 41 wc w.heap.size (fun k_ => some k_ ≠ ((.slice Ao15 t101.length co15) : Value).ownBlock ∧ some k_ ≠ ((.slice Ao19 t107.length co19) : Value).ownBlock) (.slice Ao25 t114.length co25) t114) ∧ Aside0 (wc.heap[gb105]? = some (.cells #[(.slice Ao15 t101.length co15), .int .i64 t104] 28 (0, 0))) ∧ Aside0 (wc.heap[gb113]? = some (.cells #[(.slice Ao19 t107.length co19), .int .i64 t110] 28 (0, 0))) ∧ Aside0 (wc.heap[gb120]? = some (.cells #[(.slice Ao25 t114.length co25), .int .i64 t117] 28 (0, 0))) ∧ Aside0 (Below w.heap.size w wc))
          case first =>
           have H := HC81.out; clear HC81
           by_cases c82 : 0 ≤ x17_3
           ·rw [if_pos c82] at H
            have c82b0 : decide (0 ≤ x17_3) = true := decide_eq_true c82; clear c82; (first | rw [c82b0] | (simp only [i64_w, i32_w]; rw [c82b0]) | skip)
            by_cases c83 : x17_3 < (t107.length : Int)
            ·rw [if_pos c83] at H
             have c83b0 : decide (x17_3 < (t107.length : Int)) = true := decide_eq_true c83; clear c83
             by_cases c84 : ((rd_L4 t107 x17_3).length : Int) > 1
             ·rw [if_pos c84] at H
              have c84b0 : decide (1 < ((rd_L4 t107 x17_3).length : Int)) = true := decide_eq_true c84; have c84b1 : decide (1 < (rd_L4 t107 x17_3).length) = true := decide_eq_true qa34; clear c84
              by_cases c85 : 1 < ((rd_L4 t107 x17_3).length : Int)
              ·rw [if_pos c85] at H
               have c85b0 : decide (1 < ((rd_L4 t107 x17_3).length : Int)) = true := decide_eq_true c85; have c85b1 : decide (1 < (rd_L4 t107 x17_3).length) = true := decide_eq_true qa34; clear c85; have H' := qO H; clear H; have hnb86 := NB113_105.out; have hnc86 := NB105_113.out; have hnb87 := NB113_120.out; have hnc87 := NB120_113.out; obtain ⟨hcz88_0, hcz88_1, hfz88_0, hfz88_1⟩ := qb2 BK113.out; have p129 : 0 ≤ (x17_3 : Int) := qT qa2; have q129 : x17_3 < (t107.length : Int) := qT qa2; obtain ⟨ad129, A129_0, c129_0, e129, hx129_0, hl129_0, hi129_0⟩ := at_L4 (Kd.S_reads' HO_114000.out).2.2 x17_3 p129 q129
               cases e129
               obtain ⟨ce129, hce129, hMe129, hcc129⟩ := Kd.S_get HO_114000.out [] x17_3 p129 qa172; obtain ⟨ve129_0, rfl, ge129_0⟩ := hMe129; have hv129_0 := hcc129 0 _ rfl; rw [Nat.add_zero, show ((Kd.slice 43 k43)).sz = 1 from rfl, Nat.mul_one] at hv129_0; replace hv129_0 := Option.some.inj (hv129_0.symm.trans hx129_0); rw [hv129_0] at ge129_0; have HL129_0 := qO (show Kd.R k43 43 _ _ _ _ (rd_L4 t107 x17_3) from ge129_0); clear hv129_0 ge129_0 hcc129 hce129; have HR129_0 := qO hi129_0; have HC129_0 := qO hl129_0; clear hi129_0 hl129_0; replace p129 := eq_true p129; replace q129 := eq_true q129; have p130 : 0 ≤ (x17_3 : Int) := qT qa2; have q130 : x17_3 < (t107.length : Int) := qT qa2; obtain ⟨ad130, A130_0, c130_0, e130, hx130_0, hl130_0, hi130_0⟩ := at_L4 (Kd.S_reads' HO_114000.out).2.2 x17_3 p130 q130; obtain rfl : ad129 = ad130 := (by injection e130); obtain ⟨ce130, hce130, hMe130, hcc130⟩ := Kd.S_get HO_114000.out [] x17_3 p130 (by first | exact q130 | exact qT (by first | (with_reducible assumption) | assumption) | (have e_ := (Kd.S_reads' HO_114000.out).1; omega)); obtain ⟨ve130_0, rfl, ge130_0⟩ := hMe130; have hv130_0 := hcc130 0 _ rfl; rw [Nat.add_zero, show ((Kd.slice 43 k43)).sz = 1 from rfl, Nat.mul_one] at hv130_0; replace hv130_0 := Option.some.inj (hv130_0.symm.trans hx130_0); rw [hv130_0] at ge130_0; have HL130_0 := qO (show Kd.R k43 43 _ _ _ _ (rd_L4 t107 x17_3) from ge130_0); clear hv130_0 ge130_0 hcc130 hce130; have HR130_0 := qO hi130_0; have HC130_0 := qO hl130_0; clear hi130_0 hl130_0; replace p130 := eq_true p130; replace q130 := eq_true q130; have ea_ := Option.some.inj (hx129_0.symm.trans hx130_0); injection ea_ with ea_ en_ ec_; subst ea_; subst ec_; clear en_; have p131 : 0 ≤ (1 : Int) := qa34; have q131 : 1 < ((rd_L4 t107 x17_3).length : Int) := qT qa2; obtain ⟨ad131, e131, hx131_0, hx131_1⟩ := at_T43 (by repeat (first | (with_reducible exact HR130_0.out) | (with_reducible refine Kd.C_alloc ?_ _) | (with_reducible refine Kd.C_drewN ?_ _) | (with_reducible refine Kd.C_drew ?_) | exact HR130_0.out)) 1 p131 q131
               cases e131
               (try simp only [show (1 : Int).toNat = 1 from rfl, Nat.reduceMul, Nat.reduceEqDiff, Go.Addr.add, ↓reduceIte] at hx131_0); (try simp only [show (1 : Int).toNat = 1 from rfl, Nat.reduceMul, Nat.reduceEqDiff, Go.Addr.add, ↓reduceIte] at hx131_1); have qi131 : (1 < (rd_L4 t107 x17_3).length) = True := eq_true qa34; (try rw [show ((1 : Int)).toNat = 1 from rfl] at hx131_0); (try rw [show 1 * 2 = 2 from rfl] at hx131_0); (try rw [show ((1 : Int)).toNat = 1 from rfl] at hx131_1); (try rw [show 1 * 2 = 2 from rfl] at hx131_1); replace p131 := eq_true p131; replace q131 := eq_true q131; go_wp2
               go_meet
               case rel => exact ⟨_, (decide (((rd_T43 (rd_L4 t107 x17_3) 1).f0) ≤ t106)), qa16, H', ⟨qa190⟩, ⟨qa86⟩, ⟨qa87⟩, ⟨qa88⟩, ⟨qa53⟩, ⟨qa56⟩, ⟨qa61⟩, ⟨qa31⟩⟩
              ·rw [if_neg c85] at H
               exact absurd H qa119
             ·rw [if_neg c84] at H
              have c84b0 : decide (1 < ((rd_L4 t107 x17_3).length : Int)) = false := decide_eq_false c84; have c84b1 : decide (1 < (rd_L4 t107 x17_3).length) = false := decide_eq_false qa34; clear c84; have H' := qO H; clear H; have hnb89 := NB113_105.out; have hnc89 := NB105_113.out; have hnb90 := NB113_120.out; have hnc90 := NB120_113.out; obtain ⟨hcz91_0, hcz91_1, hfz91_0, hfz91_1⟩ := qb2 BK113.out; have p129 : 0 ≤ (x17_3 : Int) := qT qa2; have q129 : x17_3 < (t107.length : Int) := qT qa2; obtain ⟨ad129, A129_0, c129_0, e129, hx129_0, hl129_0, hi129_0⟩ := at_L4 (Kd.S_reads' HO_114000.out).2.2 x17_3 p129 q129
              cases e129
              obtain ⟨ce129, hce129, hMe129, hcc129⟩ := Kd.S_get HO_114000.out [] x17_3 p129 qa172; obtain ⟨ve129_0, rfl, ge129_0⟩ := hMe129; have hv129_0 := hcc129 0 _ rfl; rw [Nat.add_zero, show ((Kd.slice 43 k43)).sz = 1 from rfl, Nat.mul_one] at hv129_0; replace hv129_0 := Option.some.inj (hv129_0.symm.trans hx129_0); rw [hv129_0] at ge129_0; have HL129_0 := qO (show Kd.R k43 43 _ _ _ _ (rd_L4 t107 x17_3) from ge129_0); clear hv129_0 ge129_0 hcc129 hce129; have HR129_0 := qO hi129_0; have HC129_0 := qO hl129_0; clear hi129_0 hl129_0; replace p129 := eq_true p129; replace q129 := eq_true q129; go_wp2
              go_meet
              case rel => exact ⟨_, (false), qa16, H', ⟨qa190⟩, ⟨qa86⟩, ⟨qa87⟩, ⟨qa88⟩, ⟨qa53⟩, ⟨qa56⟩, ⟨qa61⟩, ⟨qa31⟩⟩
            ·rw [if_neg c83] at H
             exact absurd H qa119
           ·rw [if_neg c82] at H
            exact absurd H qa119
          case rest =>
           clear HC81
           try clear c1
           try clear p1
           try clear q1
           try clear hx1
           try clear qi1
           try clear c2
           try clear p2
           try clear c3
           try clear c4
           try clear c4b0
           try clear c4b1
           try clear c5
           try clear c6
           try clear p6
           try clear c7
           try clear c8
           try clear c9
           try clear c12
           try clear p12
           try clear q12
           try clear hx12
           try clear c13
           try clear p13
           try clear q13
           try clear hx13
           try clear qi13
           try clear c14
           try clear c18
           try clear c19
           try clear c20
           try clear c26
           try clear c27
           try clear c33
           try clear c33b0
           try clear c33b1
           try clear c35
           try clear c36
           try clear c36b0
           try clear c36b1
           try clear c37
           try clear c37b0
           try clear c37b1
           try clear c38
           try clear c38b0
           try clear c38b1
           try clear c39
           try clear c39b0
           try clear c39b1
           try clear c41
           try clear c42
           try clear c44
           try clear c49
           try clear c50
           try clear c52
           try clear c55
           try clear c56
           try clear c58
           try clear c61
           try clear c62
           try clear c64
           try clear p64
           try clear c67
           try clear c68
           try clear c70
           try clear c73
           try clear c74
           try clear c76
           try clear c79
           try clear c80
           try clear c80b0
           try clear c82
           try clear c82b0
           try clear c83
           try clear c83b0
           try clear c84
           try clear c84b0
           try clear c84b1
           try clear c85
           try clear c85b0
           try clear c85b1
           try clear c86
           try clear c87
           try clear c89
           try clear c90
           try clear hcz16_0
           try clear hcz16_1
           try clear hcz21_0
           try clear hcz21_1
           try clear hcz22_0
           try clear hcz22_1
           try clear hcz28_0
           try clear hcz28_1
           try clear hcz29_0
           try clear hcz29_1
           try clear hcz31_0
           try clear hcz31_1
           try clear hcz43_0
           try clear hcz43_1
           try clear hcz45_0
           try clear hcz45_1
           try clear hcz47_0
           try clear hcz47_1
           try clear hcz51_0
           try clear hcz51_1
           try clear hcz53_0
           try clear hcz53_1
           try clear hcz57_0
           try clear hcz57_1
           try clear hcz59_0
           try clear hcz59_1
           try clear hcz63_0
           try clear hcz63_1
           try clear hcz65_0
           try clear hcz65_1
           try clear hcz69_0
           try clear hcz69_1
           try clear hcz71_0
           try clear hcz71_1
           try clear hcz75_0
           try clear hcz75_1
           try clear hcz77_0
           try clear hcz77_1
           try clear hcz88_0
           try clear hcz88_1
           try clear hcz91_0
           try clear hcz91_1
           try clear hfz16_0
           try clear hfz16_1
           try clear hfz21_0
           try clear hfz21_1
           try clear hfz22_0
           try clear hfz22_1
           try clear hfz28_0
           try clear hfz28_1
           try clear hfz29_0
           try clear hfz29_1
           try clear hfz31_0
           try clear hfz31_1
           try clear hfz43_0
           try clear hfz43_1
           try clear hfz45_0
           try clear hfz45_1
           try clear hfz47_0
           try clear hfz47_1
           try clear hfz51_0
           try clear hfz51_1
           try clear hfz53_0
           try clear hfz53_1
           try clear hfz57_0
           try clear hfz57_1
           try clear hfz59_0
           try clear hfz59_1
           try clear hfz63_0
           try clear hfz63_1
           try clear hfz65_0
           try clear hfz65_1
           try clear hfz69_0
           try clear hfz69_1
           try clear hfz71_0
           try clear hfz71_1
           try clear hfz75_0
           try clear hfz75_1
           try clear hfz77_0
           try clear hfz77_1
           try clear hfz88_0
           try clear hfz88_1
           try clear hfz91_0
           try clear hfz91_1
           try clear hx129_0
           try clear hx130_0
           try clear hx131_0
           try clear hx131_1
           try clear p129
           try clear p130
           try clear p131
           try clear p2
           try clear p6
           try clear p64
           try clear q129
           try clear q130
           try clear q131
           obtain ⟨kq, x119_80, rfl, HA, HJ80, HO_106000, HO_114000, HO_121000, BK105, BK113, BK120, HB⟩ := hcut
           cases kq with
           | zero => exact absurd HA.out (by simp [laws_FnForget.j3])
           | succ kj80 =>
            have H := HA.out; clear HA; simp only [laws_FnForget.j3] at H
            by_cases c92 : x119_80 = true
            ·subst c92
             have H1 : (none) = some r := by rw [if_pos rfl] at H; exact H
             clear H; have H := H1; clear H1
             exact absurd H qa119
            ·replace c92 := Bool.eq_false_iff.mpr c92
             subst c92; have H1 : (laws_FnForget.l1 kj80 t106 x17_3 t106 t101 t104 t107 t110) = some r := by rw [if_neg (show ¬ (false = true) by decide)] at H; exact H
             clear H; have H := H1; clear H1; have H' := qO H; clear H; go_wp2
             go_loopg [18] kj80 (fun kq v18 w' => ∃ (x18_5 : Int), v18 = .int .i64 x18_5 ∧ Aside0 (laws_FnForget.l1 kq t106 x17_3 x18_5 t101 t104 t107 t110 = some r) ∧ Aside0 (kq ≤ kj80) ∧ Aside0 (Kd.S (Kd.slice 43 k43) 41 w' w.heap.size (fun k_ => some k_ ≠ ((.slice Ao19 t107.length co19) : Value).ownBlock ∧ some k_ ≠ ((.slice Ao25 t114.length co25) : Value).ownBlock) (.slice Ao15 t101.length co15) t101) ∧ Aside0 (Kd.S (Kd.slice 43 k43) 41 w' w.heap.size (fun k_ => some k_ ≠ ((.slice Ao15 t101.length co15) : Value).ownBlock ∧ some k_ ≠ ((.slice Ao25 t114.length co25) : Value).ownBlock) (.slice Ao19 t107.length co19) t107) ∧ Aside0 (Kd.S (Kd.slice 43 k43) 41 w' w.heap.size (fun k_ => some k_ ≠ ((.slice Ao15 t101.length co15) : Value).ownBlock ∧ some k_ ≠ ((.slice Ao19 t107.length co19) : Value).ownBlock) (.slice Ao25 t114.length co25) t114) ∧ Aside0 (w'.heap[gb105]? = some (.cells #[(.slice Ao15 t101.length co15), .int .i64 t104] 28 (0, 0))) ∧ Aside0 (w'.heap[gb113]? = some (.cells #[(.slice Ao19 t107.length co19), .int .i64 t110] 28 (0, 0))) ∧ Aside0 (w'.heap[gb120]? = some (.cells #[(.slice Ao25 t114.length co25), .int .i64 t117] 28 (0, 0))) ∧ Aside0 (Below w.heap.size w w'))
             case atStart => exact ⟨(t106), qa16, H', ⟨Nat.le_refl _⟩, ⟨qa86⟩, ⟨qa87⟩, ⟨qa88⟩, ⟨qa53⟩, ⟨qa56⟩, ⟨qa61⟩, ⟨qa31⟩⟩
             case round =>
              clear H'
              try clear c1
              try clear p1
              try clear q1
              try clear hx1
              try clear qi1
              try clear c2
              try clear p2
              try clear c3
              try clear c4
              try clear c4b0
              try clear c4b1
              try clear c5
              try clear c6
              try clear p6
              try clear c7
              try clear c8
              try clear c9
              try clear c12
              try clear p12
              try clear q12
              try clear hx12
              try clear c13
              try clear p13
              try clear q13
              try clear hx13
              try clear qi13
              try clear c14
              try clear c18
              try clear c19
              try clear c20
              try clear c26
              try clear c27
              try clear c33
              try clear c33b0
              try clear c33b1
              try clear c35
              try clear c36
              try clear c36b0
              try clear c36b1
              try clear c37
              try clear c37b0
              try clear c37b1
              try clear c38
              try clear c38b0
              try clear c38b1
              try clear c39
              try clear c39b0
              try clear c39b1
              try clear c41
              try clear c42
              try clear c44
              try clear c49
              try clear c50
              try clear c52
              try clear c55
              try clear c56
              try clear c58
              try clear c61
              try clear c62
              try clear c64
              try clear p64
              try clear c67
              try clear c68
              try clear c70
              try clear c73
              try clear c74
              try clear c76
              try clear c79
              try clear c80
              try clear c80b0
              try clear c82
              try clear c82b0
              try clear c83
              try clear c83b0
              try clear c84
              try clear c84b0
              try clear c84b1
              try clear c85
              try clear c85b0
              try clear c85b1
              try clear c86
              try clear c87
              try clear c89
              try clear c90
              try clear c92
              try clear hcz16_0
              try clear hcz16_1
              try clear hcz21_0
              try clear hcz21_1
              try clear hcz22_0
              try clear hcz22_1
              try clear hcz28_0
              try clear hcz28_1
              try clear hcz29_0
              try clear hcz29_1
              try clear hcz31_0
              try clear hcz31_1
              try clear hcz43_0
              try clear hcz43_1
              try clear hcz45_0
              try clear hcz45_1
              try clear hcz47_0
              try clear hcz47_1
              try clear hcz51_0
              try clear hcz51_1
              try clear hcz53_0
              try clear hcz53_1
              try clear hcz57_0
              try clear hcz57_1
              try clear hcz59_0
              try clear hcz59_1
              try clear hcz63_0
              try clear hcz63_1
              try clear hcz65_0
              try clear hcz65_1
              try clear hcz69_0
              try clear hcz69_1
              try clear hcz71_0
              try clear hcz71_1
              try clear hcz75_0
              try clear hcz75_1
              try clear hcz77_0
              try clear hcz77_1
              try clear hcz88_0
              try clear hcz88_1
              try clear hcz91_0
              try clear hcz91_1
              try clear hfz16_0
              try clear hfz16_1
              try clear hfz21_0
              try clear hfz21_1
              try clear hfz22_0
              try clear hfz22_1
              try clear hfz28_0
              try clear hfz28_1
              try clear hfz29_0
              try clear hfz29_1
              try clear hfz31_0
              try clear hfz31_1
              try clear hfz43_0
              try clear hfz43_1
              try clear hfz45_0
              try clear hfz45_1
              try clear hfz47_0
              try clear hfz47_1
              try clear hfz51_0
              try clear hfz51_1
              try clear hfz53_0
              try clear hfz53_1
              try clear hfz57_0
              try clear hfz57_1
              try clear hfz59_0
              try clear hfz59_1
              try clear hfz63_0
              try clear hfz63_1
              try clear hfz65_0
              try clear hfz65_1
              try clear hfz69_0
              try clear hfz69_1
              try clear hfz71_0
              try clear hfz71_1
              try clear hfz75_0
              try clear hfz75_1
              try clear hfz77_0
              try clear hfz77_1
              try clear hfz88_0
              try clear hfz88_1
              try clear hfz91_0
              try clear hfz91_1
              try clear hx129_0
              try clear hx130_0
              try clear hx131_0
              try clear hx131_1
              try clear p1
              try clear p12
              try clear p129
              try clear p13
              try clear p130
              try clear p131
              try clear p2
              try clear p6
              try clear p64
              try clear q1
              try clear q12
              try clear q129
              try clear q13
              try clear q130
              try clear q131
              obtain ⟨x18_5, rfl, HA, HK5, HO_106000, HO_114000, HO_121000, BK105, BK113, BK120, HB⟩ := hrel
              cases gk with
              | zero => exact absurd HA.out (by simp [laws_FnForget.l1])
              | succ k5 =>
               have H := HA.out; clear HA; simp only [laws_FnForget.l1] at H
               by_cases c93 : x18_5 ≤ t104
               ·rw [if_pos c93] at H
                have c93b0 : decide (x18_5 ≤ t104) = true := decide_eq_true c93; clear c93; replace H := Option.bind_eq_some_iff.mp H; obtain ⟨⟨t132, t133⟩, A940, H⟩ := H; replace H : ((impl_ReadAt.f k5 t107 t110 x17_3 x18_5).bind fun bt134 => (if t133 = 0 then (if bt134.2 = 0 then (if t132 = bt134.1 then (laws_FnForget.l1 k5 t106 x17_3 (wrap64 (x18_5 + 1)) t101 t104 t107 t110) else (none)) else (none)) else (none))) = some r := H; have A94 := qO A940; clear A940; replace H := Option.bind_eq_some_iff.mp H; obtain ⟨⟨t134, t135⟩, A950, H⟩ := H; replace H : (if t133 = 0 then (if t135 = 0 then (if t132 = t134 then (laws_FnForget.l1 k5 t106 x17_3 (wrap64 (x18_5 + 1)) t101 t104 t107 t110) else (none)) else (none)) else (none)) = some r := H; have A95 := qO A950; clear A950
                by_cases c96 : t133 = 0
                ·rw [if_pos c96] at H
                 have c96b0 : (t133 == 0) = true := beq_iff_eq.mpr c96; have c96b1 : (t133 != 0) = false := bne_eq_false_iff_eq.mpr c96; clear c96
                 by_cases c97 : t135 = 0
                 ·rw [if_pos c97] at H
                  have c97b0 : (t135 == 0) = true := beq_iff_eq.mpr c97; have c97b1 : (t135 != 0) = false := bne_eq_false_iff_eq.mpr c97; clear c97
                  by_cases c98 : t132 = t134
                  ·rw [if_pos c98] at H
                   have c98b0 : (t132 == t134) = true := beq_iff_eq.mpr c98; have c98b1 : (t132 != t134) = false := bne_eq_false_iff_eq.mpr c98; clear c98; have H' := qO H; clear H; have hnb99 := NB105_113.out; have hnc99 := NB113_105.out; have hnb100 := NB105_120.out; have hnc100 := NB120_105.out; obtain ⟨hcz101_0, hcz101_1, hfz101_0, hfz101_1⟩ := qb2 BK105.out
                   go_wp2_with (first | ((with_reducible refine gate_callee (f := 23) rfl ?_); refine goesL_ (some 131) rfl rfl Try.func23 qa6 rfl #[.agg #[.slice Ao15 t101.length co15, .int .i64 t104], .int .i64 x17_3, .int .i64 x18_5] rfl qa0 ?_; (with_reducible refine (impl_ReadAt.calls k5 _ _ t101 t104 x17_3 x18_5 t132 t133 _ ?side1 ?side2 A94.out).mono ?_); (case side1 => exact qa170); (case side2 => exact (Kd.S_reads' HO_106000.out).2.1); rintro e w102 ⟨rfl, hb⟩; have hx_ := qHX HB hb qa1; refine ⟨_, rfl, ?_⟩; replace HO_106000 := qO (Kd.S_below qa86 hb); replace HO_114000 := qO (Kd.S_below qa87 hb); replace HO_121000 := qO (Kd.S_below qa88 hb); replace BK105 := qO (qB BK105.out hx_ hb); replace BK113 := qO (qB BK113.out hx_ hb); replace BK120 := qO (qB BK120.out hx_ hb); replace HB := qO (below_step (below_step HB.out hx_) hb); clear hx_; (try clear hb); (try clear hb2); (try clear hk); (try clear hi); have hnb103 := NB113_120.out; have hnc103 := NB120_113.out; obtain ⟨hcz104_0, hcz104_1, hfz104_0, hfz104_1⟩ := qb2 BK113.out) | ((with_reducible refine gate_callee (f := 23) rfl ?_); refine goesL_ (some 138) rfl rfl Try.func23 qa6 rfl #[.agg #[.slice Ao19 t107.length co19, .int .i64 t110], .int .i64 x17_3, .int .i64 x18_5] rfl qa0 ?_; (with_reducible refine (impl_ReadAt.calls k5 _ _ t107 t110 x17_3 x18_5 t134 t135 _ ?side1 ?side2 A95.out).mono ?_); (case side1 => exact qa171); (case side2 => exact (Kd.S_reads' HO_114000.out).2.1); rintro e w105 ⟨rfl, hb⟩; have hx_ := qHX HB hb qa1; refine ⟨_, rfl, ?_⟩; replace HO_106000 := qO (Kd.S_below qa86 hb); replace HO_114000 := qO (Kd.S_below qa87 hb); replace HO_121000 := qO (Kd.S_below qa88 hb); replace BK105 := qO (qB BK105.out hx_ hb); replace BK113 := qO (qB BK113.out hx_ hb); replace BK120 := qO (qB BK120.out hx_ hb); replace HB := qO (below_step (below_step HB.out hx_) hb); clear hx_; (try clear hb); (try clear hb2); (try clear hk); (try clear hi)))
                   go_roundg k5
                   case measure => have := HJ2.out; have := HJ11.out; have := HK3.out; have := HJ80.out; have := HK5.out; omega
                   case rel => exact ⟨(wrap64 (x18_5 + 1)), qa16, H', ⟨qa188⟩, ⟨qa86⟩, ⟨qa87⟩, ⟨qa88⟩, ⟨qa53⟩, ⟨qa56⟩, ⟨qa61⟩, ⟨qa31⟩⟩
                  ·rw [if_neg c98] at H
                   exact absurd H qa119
                 ·rw [if_neg c97] at H
                  exact absurd H qa119
                ·rw [if_neg c96] at H
                 exact absurd H qa119
               ·rw [if_neg c93] at H
                have c93b0 : decide (x18_5 ≤ t104) = false := decide_eq_false c93; clear c93; have H' := qO H; clear H; have hnb106 := NB105_113.out; have hnc106 := NB113_105.out; have hnb107 := NB105_120.out; have hnc107 := NB120_105.out; obtain ⟨hcz108_0, hcz108_1, hfz108_0, hfz108_1⟩ := qb2 BK105.out; go_wp2
                go_roundg k5
                case measure => have := HJ2.out; have := HJ11.out; have := HK3.out; have := HJ80.out; have := HK5.out; omega
                case rel => exact ⟨(wrap64 (x17_3 + 1)), qa16, H', ⟨qa188⟩, ⟨qa86⟩, ⟨qa87⟩, ⟨qa88⟩, ⟨qa53⟩, ⟨qa56⟩, ⟨qa61⟩, ⟨qa31⟩⟩
         ·rw [if_neg c80] at H
          have c80b0 : decide (x17_3 < 16) = false := decide_eq_false c80; clear c80; replace H := Option.bind_eq_some_iff.mp H; obtain ⟨⟨t127, t128⟩, A1090, H⟩ := H; replace H : (if t128 = 0 then (some t127) else (none)) = some r := H; have A109 := qO A1090; clear A1090
          by_cases c110 : t128 = 0
          ·rw [if_pos c110] at H
           have c110b0 : (t128 == 0) = true := beq_iff_eq.mpr c110; have c110b1 : (t128 != 0) = false := bne_eq_false_iff_eq.mpr c110; clear c110; obtain rfl := Option.some.inj H; have hnb111 := NB105_113.out; have hnc111 := NB113_105.out; have hnb112 := NB105_120.out; have hnc112 := NB120_105.out; obtain ⟨hcz113_0, hcz113_1, hfz113_0, hfz113_1⟩ := qb2 BK105.out; have hnb114 := NB113_120.out; have hnc114 := NB120_113.out; obtain ⟨hcz115_0, hcz115_1, hfz115_0, hfz115_1⟩ := qb2 BK113.out
           go_wp2_with (first | ((with_reducible refine gate_callee (f := 24) rfl ?_); refine goesL_ (some 155) rfl rfl Try.func24 qa6 rfl #[.agg #[.slice Ao15 t101.length co15, .int .i64 t104], .agg #[.slice Ao19 t107.length co19, .int .i64 t110]] rfl qa0 ?_; (with_reducible refine (impl_SameAt.calls k3 _ _ t101 t104 _ _ t107 t110 t127 t128 _ ?side1 ?side2 ?side3 ?side4 A109.out).mono ?_); (case side1 => exact qa170); (case side2 => exact (Kd.S_reads' HO_106000.out).2.1); (case side3 => exact qa171); (case side4 => exact (Kd.S_reads' HO_114000.out).2.1); rintro e w116 ⟨rfl, hb⟩; have hx_ := qHX HB hb qa1; refine ⟨_, rfl, ?_⟩; replace HO_106000 := qO (Kd.S_below qa86 hb); replace HO_114000 := qO (Kd.S_below qa87 hb); replace HO_121000 := qO (Kd.S_below qa88 hb); replace BK105 := qO (qB BK105.out hx_ hb); replace BK113 := qO (qB BK113.out hx_ hb); replace BK120 := qO (qB BK120.out hx_ hb); replace HB := qO (below_step (below_step HB.out hx_) hb); clear hx_; (try clear hb); (try clear hb2); (try clear hk); (try clear hi)))
           go_ret
           exact ⟨qa10, qa31⟩
          ·rw [if_neg c110] at H
           exact absurd H qa119

/-- THE ONE PURE STATEMENT of laws_FnForget: yours. -/
def laws_FnForget.Pure : Prop := ∀ (l0 : List Int) (l1 : List Int), l0.length ≤ maxLen → l0.length * 1 ≤ 140737488351232 → (∀ x ∈ l0, (Lit.int .u8 x).wf = true) → l1.length ≤ maxLen → l1.length * 1 ≤ 140737488351232 → (∀ x ∈ l1, (Lit.int .u8 x).wf = true) → ∃ k, laws_FnForget.f k l0 l1 = some true
theorem laws_FnForget.walk (P : laws_FnForget.Pure) (a0 : Option Addr) (len0 cap0 : Nat) (z0 : List Int) (a1 : Option Addr) (len1 cap1 : Nat) (z1 : List Int) (w : World) (w0 : (a0 = none ∧ len0 = 0 ∧ cap0 = 0 ∧ z0 = []) ∨ ∃ x, a0 = some x ∧ len0 ≤ cap0 ∧ cap0 ≤ maxLen ∧ z0.length = cap0 ∧ (∀ i, i < z0.length → w.cell? (x.add i) = some (.int .u8 (z0.getD i 0))) ∧ ∀ n ∈ z0, (Lit.int .u8 n).wf = true) (y0 : len0 * 1 ≤ 140737488351232) (w1 : (a1 = none ∧ len1 = 0 ∧ cap1 = 0 ∧ z1 = []) ∨ ∃ x, a1 = some x ∧ len1 ≤ cap1 ∧ cap1 ≤ maxLen ∧ z1.length = cap1 ∧ (∀ i, i < z1.length → w.cell? (x.add i) = some (.int .u8 (z1.getD i 0))) ∧ ∀ n ∈ z1, (Lit.int .u8 n).wf = true) (y1 : len1 * 1 ≤ 140737488351232) :
  Calls Try.prog 4 #[.slice a0 len0 cap0, .slice a1 len1 cap1] w fun e w' => e = .returned (.bool true) ∧ Below w.heap.size w w' := by
 obtain ⟨l0, rfl, hr0, hm0, hw0, hc0⟩ := ReadsInt.ofRowC w0; obtain ⟨l1, rfl, hr1, hm1, hw1, hc1⟩ := ReadsInt.ofRowC w1; obtain ⟨k, h⟩ := P l0 l1 hm0 y0 hw0 hm1 y1 hw1; refine (laws_FnForget.calls k _ _ l0 _ _ l1 true w (Kd.C_of_reads (d := (0 : Int)) (h1 := fun _ => rfl) hr0) hc0 (Kd.C_of_reads (d := (0 : Int)) (h1 := fun _ => rfl) hr1) hc1 h).mono ?_; rintro e w' ⟨rfl, hd⟩
 exact ⟨rfl, hd⟩

end Go.Proofs.Ytfiboooflebdpaa.Q
namespace Go.Proofs.Ytfiboooflebdpaa.Q
open Go.RowKit Go.Proofs.YtfiboooflebdpaaW.PrintWords Go.Proofs.Ytfiboooflebdpaa.Opens
set_option linter.unusedVariables false
def i141 (x : S141) : Prop := (Lit.int .i64 x.f0).wf = true ∧ (Lit.int .i64 x.f1).wf = true
theorem o141 : Opens Try.prog 141 k141 i141 := opens_struct (N := 2) Try.underlying141 qa6 (opensF_cons rfl qa6 (opens_int Try.underlying3) (opensF_one rfl rfl qa6 (opens_int Try.underlying3))) (fun y => ⟨y.1, y.2⟩) (fun _ => rfl)
def i24 (x : S24) : Prop := (x.f0.length ≤ 9223372036854775807 ∧ ∀ y1_ ∈ x.f0, (y1_.length ≤ 9223372036854775807 ∧ ∀ y2_ ∈ y1_, i141 y2_)) ∧ (Lit.int .i64 x.f1).wf = true
theorem o24 : Opens Try.prog 24 k24 i24 := opens_struct (N := 2) Try.underlying24 qa6 (opensF_cons rfl qa6 (opens_slice Try.underlying22 qa6 (opens_slice Try.underlying122 qa6 o141)) (opensF_one rfl rfl qa6 (opens_int Try.underlying3))) (fun y => ⟨y.1, y.2⟩) (fun _ => rfl)
def i76 (x : S76) : Prop := (Lit.int .i64 x.f0).wf = true ∧ (Lit.int .i64 x.f1).wf = true
theorem o76 : Opens Try.prog 76 k76 i76 := opens_struct (N := 2) Try.underlying76 qa6 (opensF_cons rfl qa6 (opens_int Try.underlying3) (opensF_one rfl rfl qa6 (opens_int Try.underlying3))) (fun y => ⟨y.1, y.2⟩) (fun _ => rfl)
def i75 (x : S75) : Prop := (Lit.int .i64 x.f0).wf = true ∧ (x.f1.length ≤ 9223372036854775807 ∧ ∀ y1_ ∈ x.f1, (Lit.int .i64 y1_).wf = true) ∧ (x.f2.length ≤ 9223372036854775807 ∧ ∀ y1_ ∈ x.f2, i76 y1_)
theorem o75 : Opens Try.prog 75 k75 i75 := opens_struct (N := 3) Try.underlying75 qa6 (opensF_cons rfl qa6 (opens_int Try.underlying3) (opensF_cons rfl qa6 (opens_slice Try.underlying60 qa6 (opens_int Try.underlying3)) (opensF_one rfl rfl qa6 (opens_slice Try.underlying48 qa6 o76)))) (fun y => ⟨y.1, y.2.1, y.2.2⟩) (fun _ => rfl)
def laws_FnForget.Pure2 : Prop := ∀ (y0 : List Int), ∀ (y1 : List Int), (y0.length ≤ 9223372036854775807 ∧ ∀ y1_ ∈ y0, (Lit.int .u8 y1_).wf = true) → (y1.length ≤ 9223372036854775807 ∧ ∀ y1_ ∈ y1, (Lit.int .u8 y1_).wf = true) → ∃ k, laws_FnForget.f k y0 y1 = some true
end Go.Proofs.Ytfiboooflebdpaa.Q
namespace Go.Proofs.Ytfiboooflebdpaa.Pure2
open Go.RowKit Go.Proofs.Ytfiboooflebdpaa.Q Go.Proofs.YtfiboooflebdpaaW.PrintWords Go.Proofs.YtfiboooflebdpaaW.PrintLast
set_option linter.unusedVariables false
set_option linter.unusedSimpArgs false
/-! small words -/
theorem wsucc {j n : Nat} (h : j < n) (hn : n ≤ 4611686018427387904) : wrap64 ((j : Int) + 1) = ((j + 1 : Nat) : Int) := by unfold wrap64; omega
theorem ev_step {α : Type} {g f : Nat → Option α} {r : α} (h : ∃ K, ∀ k, K ≤ k → g (k + 1) = f k) (k : Ev f r) : Ev g r := by
  obtain ⟨K, h⟩ := h; obtain ⟨K', k⟩ := k; refine ⟨max K K' + 1, fun n hn => ?_⟩; obtain ⟨m, rfl⟩ : ∃ m, n = m + 1 := ⟨n - 1, qa34⟩; rw [h m qa34, k m qa34]
theorem ev_now {α : Type} {g : Nat → Option α} {r : α} (h : ∃ K, ∀ k, K ≤ k → g (k + 1) = some r) : Ev g r := ev_step (f := fun _ => some r) h (Ev.now r)
theorem ev_same {α : Type} {g f : Nat → Option α} {r : α} (h : ∃ K, ∀ k, K ≤ k → g k = f k) (k : Ev f r) : Ev g r := by
  obtain ⟨K, h⟩ := h; obtain ⟨K', k⟩ := k
  exact ⟨max K K', fun n hn => by rw [h n qa34, k n qa34]⟩
theorem ev_two {α β : Type} {g : Nat → Option α} {f : Nat → Option β} {r : α} {q : β} (h : Ev g r) (k : Ev f q) : ∃ K, ∀ n, K ≤ n → g n = some r ∧ f n = some q := by
  obtain ⟨K, h⟩ := h; obtain ⟨K', k⟩ := k
  exact ⟨max K K', fun n hn => ⟨h n qa34, k n qa34⟩⟩
theorem ev_mk {α : Type} {g : Nat → Option α} {r : α} (K : Nat) (h : ∀ k, K ≤ k → g k = some r) : Ev g r := ⟨K, h⟩
theorem ev_at {α : Type} {g : Nat → Option α} {r : α} (h : Ev g r) : ∃ K, ∀ k, K ≤ k → g k = some r := h
/-- A loop that counts up to n: from the end back. -/
theorem count_loop {ρ : Type} (n : Nat) (L : Nat → Int → Option ρ) (Post : Nat → ρ → Prop) (hend : ∃ r, Post n r ∧ Ev (fun k => L k (n : Int)) r)
    (hstep : ∀ j, j < n → ∀ r, Post (j + 1) r → Ev (fun k => L k ((j + 1 : Nat) : Int)) r → ∃ r', Post j r' ∧ Ev (fun k => L k (j : Int)) r') :
    ∀ j, j ≤ n → ∃ r, Post j r ∧ Ev (fun k => L k (j : Int)) r := by
  have key : ∀ d j, j ≤ n → n - j = d → ∃ r, Post j r ∧ Ev (fun k => L k (j : Int)) r := by
    intro d
    induction d with
    | zero => intro j hj hd; obtain rfl : j = n := by omega
              exact hend
    | succ d ih =>
      intro j hj hd; obtain ⟨r, hp, he⟩ := ih (j + 1) qa34 qa34
      exact hstep j qa34 r hp he
  intro j hj
  exact key _ j hj rfl
/-- A loop that carries a state up to n. -/
theorem state_loop {σ ρ : Type} (n : Nat) (L : Nat → σ → Int → Option ρ) (Inv : Nat → σ → Prop) (Post : Nat → σ → ρ → Prop) (hend : ∀ s, Inv n s → ∃ r, Post n s r ∧ Ev (fun k => L k s (n : Int)) r)
    (hstep : ∀ j s, j < n → Inv j s → (∃ r, Post j s r ∧ Ev (fun k => L k s (j : Int)) r) ∨ ∃ s', Inv (j + 1) s' ∧ (∀ r, Post (j + 1) s' r → Post j s r) ∧ ∃ K, ∀ k, K ≤ k → L (k + 1) s (j : Int) = L k s' ((j + 1 : Nat) : Int)) :
    ∀ j s, j ≤ n → Inv j s → ∃ r, Post j s r ∧ Ev (fun k => L k s (j : Int)) r := by
  have key : ∀ d j s, j ≤ n → n - j = d → Inv j s → ∃ r, Post j s r ∧ Ev (fun k => L k s (j : Int)) r := by
    intro d
    induction d with
    | zero => intro j s hj hd hi; obtain rfl : j = n := by omega
              exact hend s hi
    | succ d ih =>
      intro j s hj hd hi
      rcases hstep j s qa34 hi with h | ⟨s', hi', hp, hk⟩
      · exact h
      · obtain ⟨r, hr, he⟩ := ih (j + 1) s' qa34 qa34 hi'
        exact ⟨r, hp r hr, ev_step hk he⟩
  intro j s hj hi
  exact key _ j s hj rfl hi
/-- A loop that fills a row of its own. -/
theorem fill_loop {α β : Type} (xs : List α) (z : α) (g : α → β) (L : Nat → List β → Int → Option (List β)) (hend : ∀ y : List β, y.length = xs.length → ∃ K, ∀ k, K ≤ k → L (k + 1) y (xs.length : Int) = some y)
    (hstep : ∀ (j : Nat) (y : List β), j < xs.length → y.length = xs.length → ∃ K, ∀ k, K ≤ k → L (k + 1) y (j : Int) = L k (y.set j (g (xs.getD j z))) ((j + 1 : Nat) : Int)) (y : List β) (hy : y.length = xs.length) :
    Ev (fun k => L k y 0) (xs.map g) := by
  obtain ⟨r, hr, he⟩ := state_loop xs.length L (fun j y => y.length = xs.length ∧ ∀ i, i < j → y[i]? = (xs.map g)[i]?) (fun _ _ r => r = xs.map g) (fun y hi => ⟨y, List.ext_getElem? fun i => by
      by_cases hi' : i < xs.length
      · exact hi.2 i hi'
      · rw [List.getElem?_eq_none qa34, List.getElem?_eq_none (by simp; omega)], ev_now (hend y hi.1)⟩) (fun j y hj hi => .inr ⟨_, ⟨by simp [hi.1], fun i hij => by
      by_cases he : i = j
      · subst he
        rw [List.getElem?_set_self qa34]
        simp [List.getD_eq_getElem?_getD, List.getElem?_eq_getElem hj]
      · rw [List.getElem?_set_ne qa34]
        exact hi.2 i qa34⟩, fun r h => h, hstep j y hj hi.1⟩) 0 y qa34 ⟨hy, fun i hi => by omega⟩
  subst hr
  exact he
def fitsB (key v : Int) : Bool := if Int.tmod key 2 = 1 then decide (0 ≤ v ∧ v ≤ 8) else decide (-2147483648 ≤ v ∧ v ≤ 2147483647)
theorem spec_in (a b c : Int) : spec_l01In.f a b c = some (decide (b ≤ a ∧ a ≤ c)) := by
  unfold spec_l01In.f
  by_cases h : b ≤ a
  · rw [if_pos h]; simp [h]
  · rw [if_neg h]; simp [h]
theorem impl_in (a b c : Int) : impl_within.f a b c = some (decide (b ≤ a ∧ a ≤ c)) := spec_in a b c
theorem spec_fits (a b : Int) : spec_l06Value.f a b = some (fitsB a b) := by
  unfold spec_l06Value.f spec_IsInt.f fitsB
  by_cases h : Int.tmod a 2 = 1
  · rw [if_pos h, if_pos h, spec_in]; rfl
  · rw [if_neg h, if_neg h, spec_in]; rfl
theorem impl_fits (a b : Int) : impl_fits.f a b = some (fitsB a b) := by
  unfold impl_fits.f impl_IsInt.f fitsB
  by_cases h : Int.tmod a 2 = 1
  · rw [if_pos h, if_pos h, impl_in]; rfl
  · rw [if_neg h, if_neg h, impl_in]; rfl
/-- A version that is right at its place. -/
def VerOK (now : Int) (key : Nat) (c : List S43) (i : Nat) : Prop :=
  1 ≤ (c.getD i z43).f0 ∧ (c.getD i z43).f0 ≤ now ∧ fitsB key (c.getD i z43).f1 = true ∧ (0 < i → (c.getD (i - 1) z43).f0 < (c.getD i z43).f0)
def IsStore (cs : List (List S43)) (now : Int) : Prop := cs.length = 16 ∧ 0 ≤ now ∧ now ≤ 100000 ∧ ∀ i, i < 16 → ∀ j, j < (cs.getD i []).length → VerOK now i (cs.getD i []) j
theorem spec_chain (cs : List (List S43)) (now : Int) (hl : cs.length = 16) (i : Nat) (hi : i < 16) (hx : (cs.getD i []).length ≤ 1048576) (R : Bool) (hR : Ev (fun k => spec_StoreOK.l0 k ((i + 1 : Nat) : Int) cs now) R) :
    ∃ r, Ev (fun k => spec_StoreOK.l1 k i 0 cs now) r ∧ (r = true ↔ (∀ j, j < (cs.getD i []).length → VerOK now i (cs.getD i []) j) ∧ R = true) := by
  obtain ⟨r, hr, he⟩ := count_loop (cs.getD i []).length (fun k j => spec_StoreOK.l1 k i j cs now) (fun j r => r = true ↔ (∀ j', j ≤ j' → j' < (cs.getD i []).length → VerOK now i (cs.getD i []) j') ∧ R = true)
    ⟨R, ⟨fun h => ⟨fun j' h1 h2 => by omega, h⟩, fun h => h.2⟩, ev_step ⟨0, fun k _ => by
      simp only [spec_StoreOK.l1]; rw [if_pos qa34, if_pos qa34, if_neg (by show ¬ ((cs.getD i []).length : Int) < ((rd_L4 cs (i : Int)).length : Int); simp [rd_L4]), wsucc (n := 16) hi qa34]⟩ hR⟩
    (fun j hj r hr he => by
      have hd : rd_L4 cs (i : Int) = cs.getD i [] := rfl; have hv : rd_T43 (cs.getD i []) (j : Int) = (cs.getD i []).getD j z43 := rfl
      have hw1 : 0 < j → rd_T43 (cs.getD i []) (wrap64 ((j : Int) - 1)) = (cs.getD i []).getD (j - 1) z43 := fun h0 => by
        have : wrap64 ((j : Int) - 1) = ((j - 1 : Nat) : Int) := by unfold wrap64; omega
        rw [this]; rfl
      have hw2 : 0 < j → 0 ≤ wrap64 ((j : Int) - 1) ∧ wrap64 ((j : Int) - 1) < ((cs.getD i []).length : Int) := fun h0 => by
        have : wrap64 ((j : Int) - 1) = ((j - 1 : Nat) : Int) := by unfold wrap64; omega
        rw [this]; omega
      have no : ¬ VerOK now i (cs.getD i []) j → (∃ K, ∀ k, K ≤ k → spec_StoreOK.l1 (k + 1) i j cs now = some false) → ∃ r', (r' = true ↔ (∀ j', j ≤ j' → j' < (cs.getD i []).length → VerOK now i (cs.getD i []) j') ∧ R = true) ∧ Ev (fun k => spec_StoreOK.l1 k i j cs now) r' :=
        fun hn hk => ⟨false, ⟨fun h => (by cases h), fun h => absurd (h.1 j (Nat.le_refl _) hj) hn⟩, ev_now hk⟩
      have yes : VerOK now i (cs.getD i []) j → (∃ K, ∀ k, K ≤ k → spec_StoreOK.l1 (k + 1) i j cs now = spec_StoreOK.l1 k i ((j + 1 : Nat) : Int) cs now) → ∃ r', (r' = true ↔ (∀ j', j ≤ j' → j' < (cs.getD i []).length → VerOK now i (cs.getD i []) j') ∧ R = true) ∧ Ev (fun k => spec_StoreOK.l1 k i j cs now) r' :=
        fun hn hk => ⟨r, hr.trans ⟨fun h => ⟨fun j' h1 h2 => by
          rcases Nat.lt_or_eq_of_le h1 with h3 | rfl
          · exact h.1 j' h3 h2
          · exact hn, h.2⟩, fun h => ⟨fun j' h1 h2 => h.1 j' qa34 h2, h.2⟩⟩, ev_step hk he⟩
      have hh : ∀ k, spec_StoreOK.l1 (k + 1) i j cs now = if (decide (1 ≤ ((cs.getD i []).getD j z43).f0 ∧ ((cs.getD i []).getD j z43).f0 ≤ now)) = true then (if fitsB i ((cs.getD i []).getD j z43).f1 = true then (if (j : Int) > 0 then (if ((cs.getD i []).getD (j - 1) z43).f0 ≥ ((cs.getD i []).getD j z43).f0 then some false else spec_StoreOK.l1 k i ((j + 1 : Nat) : Int) cs now) else spec_StoreOK.l1 k i ((j + 1 : Nat) : Int) cs now) else some false) else some false := by
        intro k
        conv => lhs; simp only [spec_StoreOK.l1]
        rw [hd, if_pos qa34, if_pos qa34, if_pos qa34, if_pos qa34, spec_in, spec_fits, hv]; simp only [Option.bind_some, wsucc hj qa34]
        by_cases h0 : 0 < j
        · rw [hw1 h0, if_pos (hw2 h0).1, if_pos (hw2 h0).2]
        · simp only [if_neg (show ¬ ((j : Int) > 0) by omega)]
      by_cases h1 : 1 ≤ ((cs.getD i []).getD j z43).f0 ∧ ((cs.getD i []).getD j z43).f0 ≤ now
      · by_cases h2 : fitsB i ((cs.getD i []).getD j z43).f1 = true
        · by_cases h3 : 0 < j
          · by_cases h4 : ((cs.getD i []).getD (j - 1) z43).f0 ≥ ((cs.getD i []).getD j z43).f0
            · exact no (fun h => absurd (h.2.2.2 h3) qa34) ⟨0, fun k _ => by rw [hh, if_pos (decide_eq_true h1), if_pos h2, if_pos qa34, if_pos h4]⟩
            · exact yes ⟨h1.1, h1.2, h2, fun _ => by omega⟩ ⟨0, fun k _ => by rw [hh, if_pos (decide_eq_true h1), if_pos h2, if_pos qa34, if_neg h4]⟩
          · exact yes ⟨h1.1, h1.2, h2, fun h => absurd h h3⟩ ⟨0, fun k _ => by rw [hh, if_pos (decide_eq_true h1), if_pos h2, if_neg qa34]⟩
        · exact no (fun h => h2 h.2.2.1) ⟨0, fun k _ => by rw [hh, if_pos (decide_eq_true h1), if_neg h2]⟩
      · exact no (fun h => h1 ⟨h.1, h.2.1⟩) ⟨0, fun k _ => by rw [hh, if_neg (by simpa using h1)]⟩) 0 qa34
  exact ⟨r, he, hr.trans ⟨fun h => ⟨fun j hj => h.1 j qa34 hj, h.2⟩, fun h => ⟨fun j _ hj => h.1 j hj, h.2⟩⟩⟩
theorem spec_store_ok (cs : List (List S43)) (now : Int) (hx : ∀ x ∈ cs, x.length ≤ 1048576) : ∃ r, Ev (fun k => spec_StoreOK.f k cs now) r ∧ (r = true ↔ IsStore cs now) := by
  by_cases hl : cs.length = 16
  · by_cases hn : 0 ≤ now ∧ now ≤ 100000
    · obtain ⟨r, hr, he⟩ := count_loop 16 (fun k i => spec_StoreOK.l0 k i cs now) (fun i r => r = true ↔ ∀ i', i ≤ i' → i' < 16 → ∀ j, j < (cs.getD i' []).length → VerOK now i' (cs.getD i' []) j)
        ⟨true, ⟨fun _ i' h1 h2 => by omega, fun _ => rfl⟩, ev_now ⟨0, fun k _ => by simp only [spec_StoreOK.l0]; rw [if_neg qa34]⟩⟩
        (fun i hi R hR he => by
          have hm : (cs.getD i []) ∈ cs := by rw [List.getD_eq_getElem?_getD, List.getElem?_eq_getElem qa34]; exact List.getElem_mem qa34
          obtain ⟨r, he', hr⟩ := spec_chain cs now hl i hi (hx _ hm) R he; refine ⟨r, ?_, ev_step ⟨0, fun k _ => by simp only [spec_StoreOK.l0]; rw [if_pos qa34]⟩ he'⟩; rw [hr, hR]
          constructor
          · rintro ⟨h1, h2⟩ i' h3 h4
            rcases Nat.lt_or_eq_of_le h3 with h5 | rfl
            · exact h2 i' h5 h4
            · exact h1
          · intro h; exact ⟨h i (Nat.le_refl _) hi, fun i' h3 h4 => h i' qa34 h4⟩) 0 qa34
      refine ⟨r, ?_, hr.trans ⟨fun h => ⟨hl, hn.1, hn.2, fun i hi => h i qa34 hi⟩, fun h i _ hi => h.2.2.2 i hi⟩⟩; refine ev_step (f := fun k => spec_StoreOK.l0 k 0 cs now) ⟨0, fun k _ => ?_⟩ he
      unfold spec_StoreOK.f
      rw [if_pos qa34, spec_in]; simp only [Option.bind_some, decide_eq_true hn, Bool.not_true, spec_StoreOK.j0]; rw [if_neg qa119]
    · refine ⟨false, ev_now ⟨0, fun k _ => ?_⟩, ⟨fun h => (by cases h), fun h => absurd ⟨h.2.1, h.2.2.1⟩ hn⟩⟩
      unfold spec_StoreOK.f
      rw [if_pos qa34, spec_in]; simp only [Option.bind_some, decide_eq_false hn, Bool.not_false, spec_StoreOK.j0]
      exact if_pos trivial
  · refine ⟨false, ev_now ⟨0, fun k _ => ?_⟩, ⟨fun h => (by cases h), fun h => absurd h.1 hl⟩⟩
    unfold spec_StoreOK.f
    rw [if_neg qa34]; simp only [spec_StoreOK.j0]
    exact if_pos trivial
theorem impl_chain (cs : List (List S43)) (now : Int) (i : Nat) (hi : i < 16) (c : List S43) (hc : c = cs.getD i []) (hx : c.length ≤ 1048576) (R : Bool) (hR : Ev (fun k => impl_StoreOK.l0 k cs 16 ((i + 1 : Nat) : Int) cs now) R) :
    ∃ r, Ev (fun k => impl_StoreOK.l1 k i c cs 16 i c (c.length : Int) 0 cs now) r ∧ (r = true ↔ (∀ j, j < c.length → VerOK now i c j) ∧ R = true) := by
  obtain ⟨r, hr, he⟩ := count_loop c.length (fun k j => impl_StoreOK.l1 k i c cs 16 i c (c.length : Int) j cs now) (fun j r => r = true ↔ (∀ j', j ≤ j' → j' < c.length → VerOK now i c j') ∧ R = true)
    ⟨R, ⟨fun h => ⟨fun j' h1 h2 => by omega, h⟩, fun h => h.2⟩, ev_step ⟨0, fun k _ => by
      simp only [impl_StoreOK.l1]; rw [if_neg qa34, wsucc (n := 16) hi qa34]⟩ hR⟩
    (fun j hj r hr he => by
      have hv : rd_T43 c (j : Int) = c.getD j z43 := rfl
      have hw1 : 0 < j → rd_T43 c (wrap64 ((j : Int) - 1)) = c.getD (j - 1) z43 := fun h0 => by
        have : wrap64 ((j : Int) - 1) = ((j - 1 : Nat) : Int) := by unfold wrap64; omega
        rw [this]; rfl
      have hw2 : 0 < j → 0 ≤ wrap64 ((j : Int) - 1) ∧ wrap64 ((j : Int) - 1) < (c.length : Int) := fun h0 => by
        have : wrap64 ((j : Int) - 1) = ((j - 1 : Nat) : Int) := by unfold wrap64; omega
        rw [this]; omega
      have no : ¬ VerOK now i c j → (∃ K, ∀ k, K ≤ k → impl_StoreOK.l1 (k + 1) i c cs 16 i c (c.length : Int) j cs now = some false) → ∃ r', (r' = true ↔ (∀ j', j ≤ j' → j' < c.length → VerOK now i c j') ∧ R = true) ∧ Ev (fun k => impl_StoreOK.l1 k i c cs 16 i c (c.length : Int) j cs now) r' :=
        fun hn hk => ⟨false, ⟨fun h => (by cases h), fun h => absurd (h.1 j (Nat.le_refl _) hj) hn⟩, ev_now hk⟩
      have yes : VerOK now i c j → (∃ K, ∀ k, K ≤ k → impl_StoreOK.l1 (k + 1) i c cs 16 i c (c.length : Int) j cs now = impl_StoreOK.l1 k i c cs 16 i c (c.length : Int) ((j + 1 : Nat) : Int) cs now) → ∃ r', (r' = true ↔ (∀ j', j ≤ j' → j' < c.length → VerOK now i c j') ∧ R = true) ∧ Ev (fun k => impl_StoreOK.l1 k i c cs 16 i c (c.length : Int) j cs now) r' :=
        fun hn hk => ⟨r, hr.trans ⟨fun h => ⟨fun j' h1 h2 => by
          rcases Nat.lt_or_eq_of_le h1 with h3 | rfl
          · exact h.1 j' h3 h2
          · exact hn, h.2⟩, fun h => ⟨fun j' h1 h2 => h.1 j' qa34 h2, h.2⟩⟩, ev_step hk he⟩
      have hh : ∀ k, impl_StoreOK.l1 (k + 1) i c cs 16 i c (c.length : Int) j cs now = if (decide (1 ≤ (c.getD j z43).f0 ∧ (c.getD j z43).f0 ≤ now)) = true then (if (j : Int) > 0 then (if (c.getD (j - 1) z43).f0 ≥ (c.getD j z43).f0 then some false else (if fitsB i (c.getD j z43).f1 = true then impl_StoreOK.l1 k i c cs 16 i c (c.length : Int) ((j + 1 : Nat) : Int) cs now else some false)) else (if fitsB i (c.getD j z43).f1 = true then impl_StoreOK.l1 k i c cs 16 i c (c.length : Int) ((j + 1 : Nat) : Int) cs now else some false)) else some false := by
        intro k
        conv => lhs; simp only [impl_StoreOK.l1]
        rw [if_pos qa34, if_pos qa34, if_pos qa34, impl_in, impl_fits, hv]; simp only [Option.bind_some, wsucc hj qa34]
        by_cases h0 : 0 < j
        · rw [hw1 h0, if_pos (hw2 h0).1, if_pos (hw2 h0).2]
        · simp only [if_neg (show ¬ ((j : Int) > 0) by omega)]
      by_cases h1 : 1 ≤ (c.getD j z43).f0 ∧ (c.getD j z43).f0 ≤ now
      · by_cases h2 : fitsB i (c.getD j z43).f1 = true
        · by_cases h3 : 0 < j
          · by_cases h4 : (c.getD (j - 1) z43).f0 ≥ (c.getD j z43).f0
            · exact no (fun h => absurd (h.2.2.2 h3) qa34) ⟨0, fun k _ => by rw [hh, if_pos (decide_eq_true h1), if_pos qa34, if_pos h4]⟩
            · exact yes ⟨h1.1, h1.2, h2, fun _ => by omega⟩ ⟨0, fun k _ => by rw [hh, if_pos (decide_eq_true h1), if_pos qa34, if_neg h4, if_pos h2]⟩
          · exact yes ⟨h1.1, h1.2, h2, fun h => absurd h h3⟩ ⟨0, fun k _ => by rw [hh, if_pos (decide_eq_true h1), if_neg qa34, if_pos h2]⟩
        · refine no (fun h => h2 h.2.2.1) ⟨0, fun k _ => ?_⟩
          rw [hh, if_pos (decide_eq_true h1)]; simp only [if_neg h2]
          repeat' split
          all_goals rfl
      · exact no (fun h => h1 ⟨h.1, h.2.1⟩) ⟨0, fun k _ => by rw [hh, if_neg (by simpa using h1)]⟩) 0 qa34
  exact ⟨r, he, hr.trans ⟨fun h => ⟨fun j hj => h.1 j qa34 hj, h.2⟩, fun h => ⟨fun j _ hj => h.1 j hj, h.2⟩⟩⟩
theorem impl_store_ok (cs : List (List S43)) (now : Int) (hx : ∀ x ∈ cs, x.length ≤ 1048576) : ∃ r, Ev (fun k => impl_StoreOK.f k cs now) r ∧ (r = true ↔ IsStore cs now) := by
  by_cases hl : cs.length = 16
  · by_cases hn : 0 ≤ now ∧ now ≤ 100000
    · obtain ⟨r, hr, he⟩ := count_loop 16 (fun k i => impl_StoreOK.l0 k cs 16 i cs now) (fun i r => r = true ↔ ∀ i', i ≤ i' → i' < 16 → ∀ j, j < (cs.getD i' []).length → VerOK now i' (cs.getD i' []) j)
        ⟨true, ⟨fun _ i' h1 h2 => by omega, fun _ => rfl⟩, ev_now ⟨0, fun k _ => by simp only [impl_StoreOK.l0]; rw [if_neg qa34]⟩⟩
        (fun i hi R hR he => by
          have hm : (cs.getD i []) ∈ cs := by rw [List.getD_eq_getElem?_getD, List.getElem?_eq_getElem qa34]; exact List.getElem_mem qa34
          obtain ⟨r, he', hr⟩ := impl_chain cs now i hi (cs.getD i []) rfl (hx _ hm) R he; refine ⟨r, ?_, ev_step ⟨0, fun k _ => by simp only [impl_StoreOK.l0]; rw [if_pos qa34, if_pos qa34, if_pos qa34]; rfl⟩ he'⟩; rw [hr, hR]
          constructor
          · rintro ⟨h1, h2⟩ i' h3 h4
            rcases Nat.lt_or_eq_of_le h3 with h5 | rfl
            · exact h2 i' h5 h4
            · exact h1
          · intro h; exact ⟨h i (Nat.le_refl _) hi, fun i' h3 h4 => h i' qa34 h4⟩) 0 qa34
      refine ⟨r, ?_, hr.trans ⟨fun h => ⟨hl, hn.1, hn.2, fun i hi => h i qa34 hi⟩, fun h i _ hi => h.2.2.2 i hi⟩⟩; refine ev_step (f := fun k => impl_StoreOK.l0 k cs 16 0 cs now) ⟨0, fun k _ => ?_⟩ he
      unfold impl_StoreOK.f
      rw [if_pos qa34, impl_in]; simp only [Option.bind_some, decide_eq_true hn, Bool.not_true, impl_StoreOK.j0]; rw [if_neg qa119, hl]
      rfl
    · refine ⟨false, ev_now ⟨0, fun k _ => ?_⟩, ⟨fun h => (by cases h), fun h => absurd ⟨h.2.1, h.2.2.1⟩ hn⟩⟩
      unfold impl_StoreOK.f
      rw [if_pos qa34, impl_in]; simp only [Option.bind_some, decide_eq_false hn, Bool.not_false, impl_StoreOK.j0]
      exact if_pos trivial
  · refine ⟨false, ev_now ⟨0, fun k _ => ?_⟩, ⟨fun h => (by cases h), fun h => absurd h.1 hl⟩⟩
    unfold impl_StoreOK.f
    rw [if_neg qa34]; simp only [impl_StoreOK.j0]
    exact if_pos trivial
/-- Both say the same of a store. -/
theorem stores_agree (cs : List (List S43)) (now : Int) (hx : ∀ x ∈ cs, x.length ≤ 1048576) : ∃ r, Ev (fun k => spec_StoreOK.f k cs now) r ∧ Ev (fun k => impl_StoreOK.f k cs now) r ∧ (r = true ↔ IsStore cs now) := by
  obtain ⟨r, e, hr⟩ := spec_store_ok cs now hx; obtain ⟨r', e', hr'⟩ := impl_store_ok cs now hx; have : r' = r := by rw [Bool.eq_iff_iff, hr, hr']
  subst this
  exact ⟨r', e, e', hr⟩
end Go.Proofs.Ytfiboooflebdpaa.Pure2
