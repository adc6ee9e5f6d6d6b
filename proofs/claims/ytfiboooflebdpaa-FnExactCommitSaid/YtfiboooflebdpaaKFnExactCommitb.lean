/- Texts of the claim on FnExactCommit, gathered by a program of this session: what the program's functions compute (proved by walks), and the plain part. -/
import Derived.Test.YtfiboooflebdpaaKFnExactCommita
namespace Go.Proofs.Ytfiboooflebdpaa.Q
open Go.RowKit Go.Proofs.YtfiboooflebdpaaW.PrintWords Go.Proofs.YtfiboooflebdpaaW.PrintLast Go.Proofs.YtfiboooflebdpaaW.PrintMore
attribute [local go_sem] max2_int min2_int max_two min_two max_three min_three max_four min_four
set_option linter.unusedVariables false
set_option linter.unusedSimpArgs false

def laws_markIntS.l0 : Nat → List Int → Int → Int → Option (Int × List Int)
 | 0, _, _, _ => none
 | k + 1, x0, x1, x5 => if x5 < (x0.length : Int) then (if 0 ≤ x5 then (laws_markIntS.l0 k (x0.set (x5 : Int).toNat x1) (wrap64 (x1 + 1)) (wrap64 (x5 + 1))) else (none)) else (some (x1, x0))
def laws_markIntS.f (k : Nat) (l0 : List Int) (a1 : Int) : Option (Int × List Int) := laws_markIntS.l0 k l0 a1 0
set_option maxHeartbeats 8000000 in
set_option maxRecDepth 100000 in
theorem laws_markIntS.calls (k : Nat) (P0_ : Nat → Prop) (u9000_ : Value) (l0 : List Int) (a1 : Int) (r1 : Int) (r2 : List Int) (w0 w : World) (hB : Below w0.heap.size w0 w) (ho0 : Kd.R (Kd.int .i64) 3 w w0.heap.size P0_ u9000_ l0) (h : laws_markIntS.f k l0 a1 = some (r1, r2)) :
  Calls Try.prog 93 #[u9000_, .int .i64 a1] w fun e w' => e = .returned (.int .i64 r1) ∧ Kd.R (Kd.int .i64) 3 w' w0.heap.size (fun k_ => (P0_ k_ ∨ w.heap.size ≤ k_)) u9000_ r2 ∧ Below w0.heap.size w0 w' ∧ Kept w w' (fun k_ => P0_ k_) := by
 have HO0 := qO (show Kd.R (Kd.int .i64) 3 w w0.heap.size (fun k_ => (P0_ k_ ∨ w.heap.size ≤ k_)) u9000_ l0 from Kd.R_mono ho0 (fun k_ hk => (.inl hk))); have HK := qO (Kept.refl w (fun k_ => P0_ k_)); have HW0 := qO hB.size; have HB := qO hB; clear hB; have H : (laws_markIntS.l0 k l0 a1 0) = some (r1, r2) := h; clear h; have H' := qO H; clear H
 go_enter Try.func93, Try.ntmps93
 go_wp2
 go_loopg [1, 5] k (fun kq v1 v5 w' => ∃ (x0_1 : List Int) (x1_1 : Int) (x5_1 : Int), v1 = .int .i64 x1_1 ∧ v5 = .int .i64 x5_1 ∧ Aside0 (laws_markIntS.l0 kq x0_1 x1_1 x5_1 = some (r1, r2)) ∧ Aside0 (kq ≤ k) ∧ Aside0 (Kd.R (Kd.int .i64) 3 w' w0.heap.size (fun k_ => (P0_ k_ ∨ w.heap.size ≤ k_)) u9000_ x0_1) ∧ Aside0 (Kept w w' (fun k_ => P0_ k_)) ∧ Aside0 (Below w0.heap.size w0 w'))
 case atStart => exact ⟨(l0), (a1), (0), qa12, qa12, H', ⟨Nat.le_refl _⟩, ⟨qa145⟩, ⟨qa43⟩, ⟨qa16⟩⟩
 case round =>
  clear H'
  try clear p2
  obtain ⟨x0_1, x1_1, x5_1, rfl, rfl, HA, HK1, HO_0, HK, HB⟩ := hrel
  cases gk with
  | zero => exact absurd HA.out (by simp [laws_markIntS.l0])
  | succ k1 =>
   have H := HA.out; clear HA; simp only [laws_markIntS.l0] at H
   by_cases c3 : x5_1 < (x0_1.length : Int)
   ·rw [if_pos c3] at H
    have c3b0 : decide (x5_1 < (x0_1.length : Int)) = true := decide_eq_true c3; clear c3
    by_cases c4 : 0 ≤ x5_1
    ·rw [if_pos c4] at H
     have c4b0 : decide (0 ≤ x5_1) = true := decide_eq_true c4; clear c4; obtain ⟨y101, hy101⟩ : ∃ y_ : List Int, y_ = (x0_1.set (x5_1 : Int).toNat x1_1) := ⟨_, rfl⟩; replace H : (laws_markIntS.l0 k1 y101 (wrap64 (x1_1 + 1)) (wrap64 (x5_1 + 1))) = some (r1, r2) := by first | (rw [hy101]; with_reducible exact H) | (have H2_ := (Option.bind_some _ _).symm.trans H; rw [hy101]; with_reducible exact H2_) | (have H2_ := (Option.bind_some _ _).symm.trans H; with_reducible exact H2_) | with_reducible exact H | (rw [hy101]; exact H) | exact H
     have Ny101 := qO hy101; clear hy101; have H' := qO H; clear H; obtain ⟨Ao6, co6, eo6⟩ := Kd.R_slice HO_0.out; subst eo6; have p5 : 0 ≤ (x5_1 : Int) := qT qa1; have q5 : (x5_1 : Int) < ((x0_1.length : Int) : Int) := qT qa1; obtain ⟨go5, co5, eo5, gb5, gl5, cl5, HG5⟩ := Kd.R_form HO_0.out qa29; (first | cases eo5 | (injection eo5 with ea_ en_ ec_; (first | subst ea_ | (injection ea_ with ea_; subst ea_)); subst ec_; clear en_)); have GB5 := qO gb5; have GG5 := qO HG5; clear gb5 gl5 HG5; have HMgo5 := qO (show (P0_ go5 ∨ w.heap.size ≤ go5) from (HO_0.out.1 _ rfl)); obtain ⟨hx5_0, hf5_0⟩ := Kd.R_celln 0 HO_0.out (x5_1 : Int) p5 q5; replace p5 := eq_true p5; replace q5 := eq_true q5; have HP7 := Kd.R_putg HO_0.out (x5_1 : Int) x1_1
     go_wp2_with (first | ((with_reducible refine gate_store (t := 3) (p := 15) rfl ?_); refine store_event (t := 3) (p := 15) (v := ?vo_w8) (w1 := (wr.setCell ⟨go5, (x5_1 : Int).toNat, none⟩ (.int .i64 x1_1))) ?hg ?ho ?hn ?hr ?_; (case ho => rfl); (case hg => rfl); (case hn => rfl); (case hr => exact qa10); intro w8 hw; have hg : wr.grownBy w8 (some go5) := (by rw [hw]; exact HP7.2); have hp_ : Kd.R (Kd.int .i64) 3 w8 w0.heap.size (fun k_ => (P0_ k_ ∨ w.heap.size ≤ k_)) (.slice (some ⟨go5, 0, none⟩) x0_1.length co6) y101 := (by rw [hw, Ny101.out]; exact HP7.1); clear HP7; replace HB := qO ((qa182 : Below w0.heap.size w0 w8)); replace HK := qO (Kept.of_grown (S := (fun k_ => P0_ k_)) hg qa43 (fun k_ e_ => (HO_0.out.1 k_ e_))); replace HO_0 := qO (hp_); clear hg hw hp_))
     go_roundg k1
     case measure => have := HK1.out; omega
     case rel => exact ⟨(y101), (wrap64 (x1_1 + 1)), (wrap64 (x5_1 + 1)), qa12, qa12, H', ⟨qa103⟩, ⟨qa69⟩, ⟨qa43⟩, ⟨qa16⟩⟩
    ·rw [if_neg c4] at H
     exact absurd H qa117
   ·rw [if_neg c3] at H
    have c3b0 : decide (x5_1 < (x0_1.length : Int)) = false := decide_eq_false c3; clear c3; simp only [Option.some.injEq, Prod.mk.injEq] at H; obtain ⟨rfl, rfl⟩ := H; obtain ⟨Ao9, co9, eo9⟩ := Kd.R_slice HO_0.out; subst eo9; go_wp2
    go_ret
    exact ⟨qa7, qa69, qa16, qa43⟩


def laws_markTxn.f (k : Nat) (a0_0 : Int) (l0_1 : List Int) (l0_2 : List (S58)) (a1 : Int) : Option (Int × List Int × (List (S58))) := (laws_markIntS.f k l0_1 a1).bind fun bt102 => ((laws_markPutS.f k l0_2 bt102.1).bind fun bt104 => (some (bt104.1, bt102.2, bt104.2)))
set_option maxHeartbeats 8000000 in
set_option maxRecDepth 100000 in
theorem laws_markTxn.calls (k : Nat) (a0_0 : Int) (P0_1_ : Nat → Prop) (u9000_ : Value) (l0_1 : List Int) (P0_2_ : Nat → Prop) (u9001_ : Value) (l0_2 : List (S58)) (a1 : Int) (r1 : Int) (r2 : List Int) (r3 : List (S58)) (w0 w : World) (hB : Below w0.heap.size w0 w) (ho0_1 : Kd.R (Kd.int .i64) 3 w w0.heap.size P0_1_ u9000_ l0_1) (ho0_2 : Kd.R k58 58 w w0.heap.size P0_2_ u9001_ l0_2) (h : laws_markTxn.f k a0_0 l0_1 l0_2 a1 = some (r1, r2, r3)) :
  Calls Try.prog 48 #[.agg #[.int .i64 a0_0, u9000_, u9001_], .int .i64 a1] w fun e w' => e = .returned (.int .i64 r1) ∧ Kd.R (Kd.int .i64) 3 w' w0.heap.size (fun k_ => ((P0_1_ k_ ∨ P0_2_ k_) ∨ w.heap.size ≤ k_)) u9000_ r2 ∧ Kd.R k58 58 w' w0.heap.size (fun k_ => ((P0_1_ k_ ∨ P0_2_ k_) ∨ w.heap.size ≤ k_)) u9001_ r3 ∧ Below w0.heap.size w0 w' ∧ Kept w w' (fun k_ => P0_1_ k_ ∨ P0_2_ k_) := by
 have hu65 := Try.underlying65; have HO0_1 := qO (show Kd.R (Kd.int .i64) 3 w w0.heap.size (fun k_ => ((P0_1_ k_ ∨ P0_2_ k_) ∨ w.heap.size ≤ k_)) u9000_ l0_1 from Kd.R_mono ho0_1 (fun k_ hk => (.inl (.inl hk)))); have HO0_2 := qO (show Kd.R k58 58 w w0.heap.size (fun k_ => ((P0_1_ k_ ∨ P0_2_ k_) ∨ w.heap.size ≤ k_)) u9001_ l0_2 from Kd.R_mono ho0_2 (fun k_ hk => (.inl (.inr hk)))); have HK := qO (Kept.refl w (fun k_ => P0_1_ k_ ∨ P0_2_ k_)); have HW0 := qO hB.size; have HB := qO hB; clear hB; have H : ((laws_markIntS.f k l0_1 a1).bind fun bt102 => ((laws_markPutS.f k l0_2 bt102.1).bind fun bt104 => (some (bt104.1, bt102.2, bt104.2)))) = some (r1, r2, r3) := h; clear h; replace H := Option.bind_eq_some_iff.mp H; obtain ⟨⟨t102, t103⟩, A30, H⟩ := H; replace H : ((laws_markPutS.f k l0_2 t102).bind fun bt104 => (some (bt104.1, t103, bt104.2))) = some (r1, r2, r3) := H; have A3 := qO A30; clear A30; replace H := Option.bind_eq_some_iff.mp H; obtain ⟨⟨t104, t105⟩, A40, H⟩ := H; replace H : (some (t104, t103, t105)) = some (r1, r2, r3) := H; have A4 := qO A40; clear A40; simp only [Option.some.injEq, Prod.mk.injEq] at H; obtain ⟨rfl, rfl, rfl⟩ := H; obtain ⟨Ao5, co5, eo5⟩ := Kd.R_slice HO0_1.out; subst eo5; obtain ⟨Ao6, co6, eo6⟩ := Kd.R_slice HO0_2.out; subst eo6
 go_enter Try.func48, Try.ntmps48
 go_wp2_with (first | ((with_reducible refine gate_dst (N := 2) rfl ?_); refine qX 2 #[.int .i64 a0_0, .slice Ao5 l0_1.length co5, .slice Ao6 l0_2.length co6] 65 ?_; intro gb101 hg w7 hbox hb; have hx_ := qHX HB hb qa0; have BK101 := qO (hbox); have GW101 := qO ((by rw [hg]; exact (by first | exact HK.out.1 | exact (show Kept w _ (fun k_ => P0_1_ k_ ∨ P0_2_ k_) from by repeat (first | (with_reducible first | exact HK.out | apply Kept.alloc | apply Kept.drewN | apply Kept.drew) | exact HK.out)).1) : w.heap.size ≤ gb101)); have GE101 := qO ((qa9 : w0.heap.size ≤ gb101)); replace HO0_1 := qO (Kd.R_below qa177 hb); replace HO0_2 := qO (Kd.R_below qa178 hb); replace HK := qO (Kept.below (w := w) (S := (fun k_ => P0_1_ k_ ∨ P0_2_ k_)) qa43 hb); replace HB := qO (below_step (below_step HB.out hx_) hb); clear hx_ hb hbox hg; obtain ⟨hcz8_0, hcz8_1, hcz8_2, hfz8_0, hfz8_1, hfz8_2⟩ := qb3 BK101.out) | ((with_reducible refine gate_callee (f := 93) rfl ?_); refine goesL_ (some 8) rfl rfl Try.func93 qa5 rfl #[.slice Ao5 l0_1.length co5, .int .i64 a1] rfl qa3 ?_; (with_reducible refine (laws_markIntS.calls k (fun k_ => some k_ = (.slice Ao5 l0_1.length co5 : Value).ownBlock) (.slice Ao5 l0_1.length co5) l0_1 a1 t102 t103 w0 _ ?side1 ?side2 A3.out).mono ?_); (case side1 => exact qa14); (case side2 => exact Kd.R_tight rfl HO0_1.out); rintro e w9 ⟨rfl, hy0, hb, hkp⟩; refine ⟨_, rfl, ?_⟩; replace HO0_2 := qO (Kd.R_mono (ok' := fun k_ => ((P0_1_ k_ ∨ P0_2_ k_) ∨ w.heap.size ≤ k_)) (Kd.R_keptB ((Kd.R_apart' HO0_2.out (Kd.R_typed HO0_1.out) qa51)) hkp (fun k_ hk_ hs_ => (hk_.2) hs_)) (fun k_ hk_ => hk_.1.1)); replace BK101 := qO (blk_kept qa17 hkp (fun hs_ => (fun e_ => (Kd.R_ne HO0_1.out BK101.out qa51) e_) hs_)); replace HK := qO (Kept.then_ (S := (fun k_ => P0_1_ k_ ∨ P0_2_ k_)) qa114 hkp (fun k_ hs_ => (fun e_ => (HO0_1.out.1 k_ e_.symm)) hs_)); replace HO0_1 := qO (Kd.R_reok rfl hy0 (fun k_ e_ => HO0_1.out.1 k_ e_)); replace HB := qO (hb); (try clear hb); (try clear hkp); (try clear hy0); obtain ⟨hcz10_0, hcz10_1, hcz10_2, hfz10_0, hfz10_1, hfz10_2⟩ := qb3 BK101.out) | ((with_reducible refine gate_callee (f := 30) rfl ?_); refine goesL_ (some 12) rfl rfl Try.func30 qa5 rfl #[.slice Ao6 l0_2.length co6, .int .i64 t102] rfl qa3 ?_; (with_reducible refine (laws_markPutS.calls k (fun k_ => some k_ = (.slice Ao6 l0_2.length co6 : Value).ownBlock) (.slice Ao6 l0_2.length co6) l0_2 t102 t104 t105 w0 _ ?side1 ?side2 A4.out).mono ?_); (case side1 => exact qa14); (case side2 => exact Kd.R_tight rfl HO0_2.out); rintro e w11 ⟨rfl, hy0, hb, hkp⟩; refine ⟨_, rfl, ?_⟩; replace HO0_1 := qO (Kd.R_mono (ok' := fun k_ => ((P0_1_ k_ ∨ P0_2_ k_) ∨ w.heap.size ≤ k_)) (Kd.R_keptB ((Kd.R_apart' HO0_1.out (Kd.R_typed HO0_2.out) qa51)) hkp (fun k_ hk_ hs_ => (hk_.2) hs_)) (fun k_ hk_ => hk_.1.1)); replace BK101 := qO (blk_kept qa17 hkp (fun hs_ => (fun e_ => (Kd.R_ne HO0_2.out BK101.out qa51) e_) hs_)); replace HK := qO (Kept.then_ (S := (fun k_ => P0_1_ k_ ∨ P0_2_ k_)) qa114 hkp (fun k_ hs_ => (fun e_ => (HO0_2.out.1 k_ e_.symm)) hs_)); replace HO0_2 := qO (Kd.R_reok rfl hy0 (fun k_ e_ => HO0_2.out.1 k_ e_)); replace HB := qO (hb); (try clear hb); (try clear hkp); (try clear hy0)))
 go_ret
 exact ⟨qa7, qa177, qa178, qa14, qa114⟩


def spec_l06Own.l0 : Nat → Int → List (List (S43)) → Int → List (List (S43)) → Int → Option ((List (List (S43))) × Int)
 | 0, _, _, _, _, _ => none
 | k + 1, x4, x102000, x102001, x107000, x107001 => if x4 < (x102000.length : Int) then ((some (([] : List (S43)) : List (S43))).bind fun y107 => (if 0 ≤ x4 then (if y107.length + (rd_L4 x102000 x4).length < 8796093022208 then (if x107000.length < 5864062014805 then (spec_l06Own.l0 k (wrap64 (x4 + 1)) x102000 x102001 (x107000 ++ [(y107 ++ (rd_L4 x102000 x4))]) x107001) else (none)) else (none)) else (none))) else (some (x107000, x107001))
def spec_l06Own.f (k : Nat) (l0_0 : List (List (S43))) (a0_1 : Int) : Option ((List (List (S43))) × Int) := spec_l06Own.l0 k 0 l0_0 a0_1 (([] : List (List (S43)))) a0_1
def spec_l06Own.T5 : Bool × List (List Nat × List Nat) := (true, [([], []), ([0], [0]), ([], []), ([], []), ([3], [3]), ([], []), ([4, 5], [4, 5]), ([6], [6]), ([2, 7], [2, 7]), ([8], [8]), ([1, 9, 8], [1, 9]), ([0, 1, 2, 3, 4, 5, 6, 7, 8, 9, 10], []), ([11, 10, 10, 0, 1, 2, 3, 4, 5, 6, 7, 8, 9, 10], [10, 11])])
def spec_l06Own.B5 : List Nat := [0, 1, 0, 0, 8, 0, 56, 120, 252, 508, 1023, 2047, 4095]
theorem spec_l06Own.tab5 : rtab .any (opsOf Try.f72 5) = spec_l06Own.T5 := by kernel_rfl
theorem spec_l06Own.bits5 : waitsOk spec_l06Own.T5.2 spec_l06Own.B5 = true := by kernel_rfl
def spec_l06Own.y0 := #[qf,qf,qf,qf,qf,qf,qf,qf,qf,qf,qf,qf,qf]
def spec_l06Own.y1 := #[qt,qf,qf,qf,qf,qf,qf,qf,qf,qf,qf,qf,qf]
def spec_l06Own.y2 := #[qt,qf,qf,qt,qf,qf,qf,qf,qf,qf,qf,qf,qf]
def spec_l06Own.y3 := #[qt,qf,qf,qt,qf,qt,qf,qf,qf,qf,qf,qf,qf]
def spec_l06Own.y4 := #[qt,qt,qf,qt,qf,qt,qf,qf,qf,qf,qf,qf,qf]
def spec_l06Own.y5 := #[qt,qt,qf,qt,qt,qt,qf,qf,qf,qf,qf,qf,qf]
def spec_l06Own.y6 := #[qt,qt,qf,qt,qt,qt,qt,qf,qf,qf,qf,qf,qf]
def spec_l06Own.y7 := #[qt,qt,qf,qt,qt,qt,qt,qt,qf,qf,qf,qf,qf]
def spec_l06Own.y8 := #[qt,qt,qt,qt,qt,qt,qt,qt,qf,qf,qf,qf,qf]
def spec_l06Own.y9 := #[qt,qt,qt,qt,qt,qt,qt,qt,qt,qf,qf,qf,qf]
def spec_l06Own.y10 := #[qt,qt,qt,qt,qt,qt,qt,qt,qt,qt,qf,qf,qf]
def spec_l06Own.y11 := #[qt,qt,qt,qt,qt,qt,qt,qt,qt,qt,qt,qf,qf]
def spec_l06Own.y12 := #[qt,qt,qt,qt,qt,qt,qt,qt,qt,qt,qt,qt,qf]
def spec_l06Own.y13 := #[qt,qt,qt,qt,qt,qt,qt,qt,qt,qt,qt,qt,qt]
set_option maxHeartbeats 8000000 in
set_option maxRecDepth 100000 in
theorem spec_l06Own.calls (k : Nat) (A0_0 : Option Addr) (c0_0 : Nat) (l0_0 : List (List (S43))) (a0_1 : Int) (r1 : List (List (S43))) (r2 : Int) (w : World) (hr0_0 : Kd.C (Kd.slice 43 k43) w A0_0 l0_0.length l0_0) (hc0_0 : l0_0.length ≤ c0_0) (h : spec_l06Own.f k l0_0 a0_1 = some (r1, r2)) :
  Calls Try.prog 72 #[.agg #[.slice A0_0 l0_0.length c0_0, .int .i64 a0_1]] w fun e w' => ∃ v0_ : Value, e = .returned (.agg #[v0_, .int .i64 r2]) ∧ Kd.S (Kd.slice 43 k43) 41 w' w.heap.size (fun _ => True) v0_ r1 ∧ Below w.heap.size w w' := by
 have hu28 := Try.underlying28; have HR0_0 := qO hr0_0; have HC0_0 := qO hc0_0; clear hr0_0 hc0_0; have HB := qO (Below.refl w.heap.size w); have H : (spec_l06Own.l0 k 0 l0_0 a0_1 (([] : List (List (S43)))) a0_1) = some (r1, r2) := h; clear h; obtain ⟨y103, hy103⟩ : ∃ y_ : List (List (S43)), y_ = (([] : List (List (S43)))) := ⟨_, rfl⟩; replace H : (spec_l06Own.l0 k 0 l0_0 a0_1 y103 a0_1) = some (r1, r2) := by first | (rw [hy103]; with_reducible exact H) | (have H2_ := (Option.bind_some _ _).symm.trans H; rw [hy103]; with_reducible exact H2_) | (have H2_ := (Option.bind_some _ _).symm.trans H; with_reducible exact H2_) | with_reducible exact H | (rw [hy103]; exact H) | exact H
 have Ny103 := qO hy103; clear hy103; have H' := qO H; clear H
 go_enter Try.func72, Try.ntmps72
 go_wp2_with (first | ((with_reducible refine gate_dst (N := 1) rfl ?_); refine qX 1 #[.slice A0_0 l0_0.length c0_0, .int .i64 a0_1] 28 ?_; intro gb101 hg w2 hbox hb; have hx_ := qHX HB hb qa0; have BK101 := qO (hbox); have GW101 := qO ((qa9 : w.heap.size ≤ gb101)); have GE101 := GW101; replace HB := qO (below_step (below_step HB.out hx_) hb); clear hx_ hb hbox hg) | ((with_reducible refine gate_dst (N := 2) rfl ?_); refine qX 2 #[.slice none 0 0, .int .i64 0] 28 ?_; intro gb102 hg w3 hbox hb; have hx_ := qHX HB hb qa0; have BK102 := qO (hbox); have GW102 := qO ((qa9 : w.heap.size ≤ gb102)); have GE102 := GW102; have NB101_102 := qO ((qa4 : gb101 ≠ gb102)); have NB102_101 := qO (Ne.symm NB101_102.out); replace BK101 := qO (qB BK101.out hx_ hb); replace HB := qO (below_step (below_step HB.out hx_) hb); clear hx_ hb hbox hg) | ((with_reducible refine gate_dst (N := 5) rfl ?_); refine Kd.S_lit (Kd.slice 43 k43) _ 41 ?hg (N := 5) ?hd (xs := ([] : List (List (S43)))) (inner := []) (ok := fun _ => True) (okp := fun _ => True) ?hr ?hp (fun _ hk => hk) trivial (Below.refl _ _) (Nat.le_refl _) qa117 ?_; (case hd => rfl); (case hg => rfl); (case hr => exact qa10); (case hp => exact qa190); intro v104 w4 ho5 hb hg_ hnew_; clear hg_ hnew_; (first | rw [← Ny103.out] at ho5 | (simp only [Int.reduceToNat] at ho5; rw [← Ny103.out] at ho5)); have HO105 := qO (Kd.S_lower ho5 (below_size qa13)); replace BK101 := qO (blk_below (g := gb101) (o := .cells #[.slice A0_0 l0_0.length c0_0, .int .i64 a0_1] 28 (0, 0)) qa17 hb); replace BK102 := qO (blk_below (g := gb102) (o := .cells #[.slice none 0 0, .int .i64 0] 28 (0, 0)) qa28 hb); replace HB := qO (below_step qa13 hb); clear hb ho5; have hnb6 := NB101_102.out; have hnc6 := NB102_101.out; obtain ⟨hcz7_0, hcz7_1, hfz7_0, hfz7_1⟩ := qb2 BK101.out; obtain ⟨Ao8, co8, eo8⟩ := Kd.S_slice HO105.out; subst eo8) | ((with_reducible refine gate_dst (N := 3) rfl ?_); refine qX 3 #[.slice none 0 0, .int .i64 0] 28 ?_; intro gb106 hg w9 hbox hb; have hx_ := qHX HB hb qa0; have BK106 := qO (hbox); have GW106 := qO ((qa9 : w.heap.size ≤ gb106)); have GE106 := GW106; have NB101_106 := qO ((qa4 : gb101 ≠ gb106)); have NB106_101 := qO (Ne.symm NB101_106.out); have NB102_106 := qO ((qa42 : gb102 ≠ gb106)); have NB106_102 := qO (Ne.symm NB102_106.out); replace HO105 := qO (Kd.S_below qa127 hb); replace BK101 := qO (qB BK101.out hx_ hb); replace BK102 := qO (qB BK102.out hx_ hb); replace HB := qO (below_step (below_step HB.out hx_) hb); clear hx_ hb hbox hg; have hnb10 := NB106_101.out; have hnc10 := NB101_106.out; have hnb11 := NB106_102.out; have hnc11 := NB102_106.out; obtain ⟨hcz12_0, hcz12_1, hfz12_0, hfz12_1⟩ := qb2 BK106.out))
 go_loopg [4] k (fun kq v4 w' => ∃ (x4_1 : Int) (x107000_1 : List (List (S43))) (u107000 : Value), v4 = .int .i64 x4_1 ∧ Aside0 (spec_l06Own.l0 kq x4_1 l0_0 a0_1 x107000_1 a0_1 = some (r1, r2)) ∧ Aside0 (kq ≤ k) ∧ Aside0 (Kd.S (Kd.slice 43 k43) 41 w' w.heap.size (fun _ => True) u107000 x107000_1) ∧ Aside0 (w'.heap[gb101]? = some (.cells #[(.slice A0_0 l0_0.length c0_0), .int .i64 a0_1] 28 (0, 0))) ∧ Aside0 (w'.heap[gb102]? = some (.cells #[(.slice none 0 0), .int .i64 0] 28 (0, 0))) ∧ Aside0 (w'.heap[gb106]? = some (.cells #[u107000, .int .i64 a0_1] 28 (0, 0))) ∧ Aside0 (Below w.heap.size w w'))
 case atStart => exact ⟨(0), (y103), (.slice Ao8 y103.length co8), qa12, H', ⟨Nat.le_refl _⟩, ⟨by (with_reducible repeat (first | apply Kd.S_alloc | apply Kd.S_drewN | apply Kd.S_drew)); exact Kd.S_mono (Kd.S_far (p := ⟨gb106, 1, none⟩) (Kd.S_far (p := ⟨gb106, 0, none⟩) (Kd.S_types HO105.out BK106.out (by decide)) (fun _ hk => hk.2) (.slice Ao8 y103.length co8)) (fun _ hk => hk.2) (.int .i64 a0_1)) (fun _ hk => trivial)⟩, ⟨qa39⟩, ⟨by (with_reducible repeat (first | refine qkN ?_ _ | refine qkD ?_ | refine qkA ?_ _)); refine blk_far ?_ NB102_106.out _; (with_reducible repeat (first | refine qkN ?_ _ | refine qkD ?_ | refine qkA ?_ _)); refine blk_far ?_ NB102_106.out _; (with_reducible repeat (first | refine qkN ?_ _ | refine qkD ?_ | refine qkA ?_ _)); exact BK102.out⟩, ⟨by (with_reducible repeat (first | refine qkN ?_ _ | refine qkD ?_ | refine qkA ?_ _)); refine blk_put (cs := #[.slice Ao8 y103.length co8, .int .i64 0]) ?_ 1 _ rfl; (with_reducible repeat (first | refine qkN ?_ _ | refine qkD ?_ | refine qkA ?_ _)); refine blk_put (cs := #[.slice none 0 0, .int .i64 0]) ?_ 0 _ rfl; (with_reducible repeat (first | refine qkN ?_ _ | refine qkD ?_ | refine qkA ?_ _)); exact BK106.out⟩, ⟨qa73⟩⟩
 case round =>
  clear H'
  try clear c1
  try clear p2
  try clear c6
  try clear c7
  try clear c10
  try clear c11
  try clear hcz12_0
  try clear hcz12_1
  try clear hcz7_0
  try clear hcz7_1
  try clear hfz12_0
  try clear hfz12_1
  try clear hfz7_0
  try clear hfz7_1
  obtain ⟨x4_1, x107000_1, u107000, rfl, HA, HK1, HO_107000, BK101, BK102, BK106, HB⟩ := hrel
  cases gk with
  | zero => exact absurd HA.out (by simp [spec_l06Own.l0])
  | succ k1 =>
   have H := HA.out; clear HA; simp only [spec_l06Own.l0] at H
   by_cases c13 : x4_1 < (l0_0.length : Int)
   ·rw [if_pos c13] at H
    have c13b0 : decide (x4_1 < (l0_0.length : Int)) = true := decide_eq_true c13; clear c13; obtain ⟨y107, hy107⟩ : ∃ y_ : List (S43), y_ = (([] : List (S43))) := ⟨_, rfl⟩; replace H : (if 0 ≤ x4_1 then (if y107.length + (rd_L4 l0_0 x4_1).length < 8796093022208 then (if x107000_1.length < 5864062014805 then (spec_l06Own.l0 k1 (wrap64 (x4_1 + 1)) l0_0 a0_1 (x107000_1 ++ [(y107 ++ (rd_L4 l0_0 x4_1))]) a0_1) else (none)) else (none)) else (none)) = some (r1, r2) := by first | (rw [hy107]; with_reducible exact H) | (have H2_ := (Option.bind_some _ _).symm.trans H; rw [hy107]; with_reducible exact H2_) | (have H2_ := (Option.bind_some _ _).symm.trans H; with_reducible exact H2_) | with_reducible exact H | (rw [hy107]; exact H) | exact H
    have Ny107 := qO hy107; clear hy107
    by_cases c14 : 0 ≤ x4_1
    ·rw [if_pos c14] at H
     have c14b0 : decide (0 ≤ x4_1) = true := decide_eq_true c14; clear c14
     by_cases c15 : y107.length + (rd_L4 l0_0 x4_1).length < 8796093022208
     ·rw [if_pos c15] at H
      have LMc15 := qO c15; clear c15; obtain ⟨y111, hy111⟩ : ∃ y_ : List (S43), y_ = (y107 ++ (rd_L4 l0_0 x4_1)) := ⟨_, rfl⟩; replace H : (if x107000_1.length < 5864062014805 then (spec_l06Own.l0 k1 (wrap64 (x4_1 + 1)) l0_0 a0_1 (x107000_1 ++ [y111]) a0_1) else (none)) = some (r1, r2) := by first | (rw [hy111]; with_reducible exact H) | (have H2_ := (Option.bind_some _ _).symm.trans H; rw [hy111]; with_reducible exact H2_) | (have H2_ := (Option.bind_some _ _).symm.trans H; with_reducible exact H2_) | with_reducible exact H | (rw [hy111]; exact H) | exact H
      have Ny111 := qO hy111; clear hy111
      by_cases c16 : x107000_1.length < 5864062014805
      ·rw [if_pos c16] at H
       have LMc16 := qO c16; clear c16; obtain ⟨y114, hy114⟩ : ∃ y_ : List (List (S43)), y_ = (x107000_1 ++ [y111]) := ⟨_, rfl⟩; replace H : (spec_l06Own.l0 k1 (wrap64 (x4_1 + 1)) l0_0 a0_1 y114 a0_1) = some (r1, r2) := by first | (rw [hy114]; with_reducible exact H) | (have H2_ := (Option.bind_some _ _).symm.trans H; rw [hy114]; with_reducible exact H2_) | (have H2_ := (Option.bind_some _ _).symm.trans H; with_reducible exact H2_) | with_reducible exact H | (rw [hy114]; exact H) | exact H
       have Ny114 := qO hy114; clear hy114; have H' := qO H; clear H; have hnb17 := NB101_102.out; have hnc17 := NB102_101.out; have hnb18 := NB101_106.out; have hnc18 := NB106_101.out; obtain ⟨hcz19_0, hcz19_1, hfz19_0, hfz19_1⟩ := qb2 BK101.out
       try go_wp2
       replace HO_107000 := qO (Kd.S_drew HO_107000.out); replace BK101 := qO (qkD BK101.out); replace BK102 := qO (qkD BK102.out); replace BK106 := qO (qkD BK106.out); replace HB := qO (qbD HB.out); have p110 : 0 ≤ (x4_1 : Int) := qT qa1; have q110 : x4_1 < (l0_0.length : Int) := qT qa1; obtain ⟨ad110, A110_0, c110_0, e110, hx110_0, hl110_0, hi110_0⟩ := at_L4 HR0_0.out x4_1 p110 q110; have hw110_0 := hx110_0
       cases e110
       replace hx110_0 := (HB.out.cell (qL w _ hx110_0)).trans hx110_0; have HR110_0 := qO hi110_0; have HC110_0 := qO hl110_0; clear hi110_0 hl110_0; replace p110 := eq_true p110; replace q110 := eq_true q110; refine start_ (n := 13) (S := fun w' => w'.cell? ⟨gb106, 0, none⟩ = some (u107000) ∧ w'.cell? ⟨gb106, 1, none⟩ = some (.int .i64 a0_1) ∧ w'.cell? ⟨gb101, 0, none⟩ = some (.slice (some ad110) l0_0.length c0_0) ∧ w'.cell? ⟨gb101, 1, none⟩ = some (.int .i64 a0_1) ∧ w'.cell? (ad110.add (x4_1).toNat) = some (.slice A110_0 (rd_L4 l0_0 x4_1).length c110_0)) (ds := [12]) spec_l06Own.y0 qa5 rfl rfl ⟨qc0 BK106.out, qc1 BK106.out, qc0 BK101.out, qc1 BK101.out, ((HB.out.cell (qL w _ hw110_0)).trans hw110_0)⟩ (fun hHeld => ?_); refine with_tabW spec_l06Own.tab5 spec_l06Own.bits5 (fun HT_ HW_ => ?_); generalize wr.drew = w20 at HO_107000 BK101 BK102 BK106 HB HR110_0 hx110_0 hHeld ⊢; refine qPu 0 16 spec_l06Own.y1 rfl rfl (any_of HT_.out qa5) qa8 qa2 ?_; refine qPu 3 19 spec_l06Own.y2 rfl rfl (any_of HT_.out qa5) qa8 qa2 ?_; refine qPu 5 21 spec_l06Own.y3 rfl rfl (any_of HT_.out qa5) qa8 qa2 ?_; refine qTk 1 17 spec_l06Own.y4 rfl rfl (take_ofW HT_.out HW_.out qa5) qa65 hHeld qa2 ?_; refine qTk 4 20 spec_l06Own.y5 rfl rfl (take_ofW HT_.out HW_.out qa5) qa65 hHeld qa2 ?_; refine qPu 6 22 spec_l06Own.y6 rfl rfl (any_of HT_.out qa5) qa8 qa2 ?_; refine qTk 7 23 spec_l06Own.y7 rfl rfl (take_ofW HT_.out HW_.out qa5) qa65 hHeld qa2 ?_; refine one_ (i := 2) (N := some 18) spec_l06Own.y8 rfl rfl (one_of HT_.out qa5) qa51 (fun K hK => ?_); refine Kd.R_lit_step k43 _ 43 ?hg (N := 18) ?hd (xs := ([] : List (S43))) (inner := []) (ok := fun _ => True) (okp := fun _ => True) ?hr ?hp (fun _ hk => hk) trivial (Below.refl _ _) (Nat.le_refl _) qa117 ?_; (case hd => rfl); (case hg => rfl); (case hr => exact qa10); (case hp => exact qa190); intro v108 w21 ho22 hb hg_ hnew_; clear hg_ hnew_; (first | rw [← Ny107.out] at ho22 | (simp only [Int.reduceToNat] at ho22; rw [← Ny107.out] at ho22)); have HO109 := qO (Kd.R_lower ho22 (below_size qa73)); replace HO_107000 := qO (Kd.S_elder' qa168 (Kd.R_base ho22) hb); replace BK101 := qO (blk_below (g := gb101) (o := .cells #[.slice (some ad110) l0_0.length c0_0, .int .i64 a0_1] 28 (0, 0)) qa17 hb); replace BK102 := qO (blk_below (g := gb102) (o := .cells #[.slice none 0 0, .int .i64 0] 28 (0, 0)) qa28 hb); replace BK106 := qO (blk_below (g := gb106) (o := .cells #[u107000, .int .i64 a0_1] 28 (0, 0)) qa146 hb); replace HB := qO (below_step qa73 hb); clear hb ho22; refine hK.out _ _ ⟨qc0 BK106.out, qc1 BK106.out, qc0 BK101.out, qc1 BK101.out, ((HB.out.cell (qL w _ hw110_0)).trans hw110_0)⟩ (fun hHeld => ?_); clear hK K; refine norm_ (a' := ?_) ?_ ?_; rotate_left
       ·exact qa11
       refine one_ (i := 8) (N := some 24) spec_l06Own.y9 rfl rfl (one_of HT_.out qa5) qa51 (fun K hK => ?_); refine Kd.R_append_rows_step k43 (w0 := w) w.heap.size (by rfl) (.tmp 18) (.tmp 23) 41 43 (.agg #[(.int .i64 0), (.int .i64 0)]) 16 rfl Try.underlying41 info43 rfl qa51 qa29 v108 y107 (rd_L4 l0_0 x4_1) _ _ _ (fun _ => True) (fun _ => False) rfl rfl ?aO ?aR (fun _ _ h => h) (fun _ h => h.elim) ?aF ?aB ?aS ?aL ?_; (case aR => repeat (first | exact (Kd.C_below HR110_0.out HB.out) | with_reducible first | refine Kd.C_alloc ?_ _ | refine Kd.C_drewN ?_ _ | refine Kd.C_drew ?_)); (case aB => exact qa136); (case aF => exact (fun _ _ => trivial)); (case aO => exact (by (with_reducible repeat (first | apply Kd.R_alloc | apply Kd.R_drewN | apply Kd.R_drew)); exact HO109.out)); (case aS => exact qa134); (case aL => have := LMc15.out; omega); intro v112 w23 ho hb hg hat; rw [← Ny111.out] at ho; have n0_ := qO (Kd.S_after (ok := (fun _ => True)) qa168 hg hat); have n1_ := qO (blk_grown (g := gb101) (o := .cells #[.slice (some ad110) l0_0.length c0_0, .int .i64 a0_1] 28 (0, 0)) qa17 hg (Kd.R_ne HO109.out BK101.out qa51)); have n2_ := qO (blk_grown (g := gb102) (o := .cells #[.slice none 0 0, .int .i64 0] 28 (0, 0)) qa28 hg (Kd.R_ne HO109.out BK102.out qa51)); have n3_ := qO (blk_grown (g := gb106) (o := .cells #[u107000, .int .i64 a0_1] 28 (0, 0)) qa146 hg (Kd.R_ne HO109.out BK106.out qa51)); have n4_ := qO (hb); have n5_ := qO (ho); clear HO_107000 BK101 BK102 BK106 HB HO109; have HO_107000 := n0_; have BK101 := n1_; have BK102 := n2_; have BK106 := n3_; have HB := n4_; have HO113 := n5_; clear n0_ n1_ n2_ n3_ n4_ n5_ ho hb hg hat; obtain ⟨Ao25, co25, eo25⟩ := Kd.R_slice HO113.out; (first | subst eo25 | (injection eo25 with f1_ f2_ f3_; have f4_ := f1_.symm; have f5_ := f3_.symm; clear f1_ f2_ f3_; subst f4_; subst f5_)); refine hK.out _ _ ⟨qc0 BK106.out, qc1 BK106.out, qc0 BK101.out, qc1 BK101.out, ((HB.out.cell (qL w _ hw110_0)).trans hw110_0)⟩ (fun hHeld => ?_); clear hK K; refine norm_ (a' := ?_) ?_ ?_; rotate_left
       ·exact qa11
       refine one_ (i := 9) (N := some 25) spec_l06Own.y10 rfl rfl (one_of HT_.out qa5) qa51 (fun K hK => ?_); refine value_ (w1 := ?_) (v := ?_) (by rfl) rfl ?_ ?_; rotate_left 2
       ·go_simp
        constructor
        ·rfl
        ·rfl
       refine hK.out _ _ ⟨(blk_cell (qkA BK106.out _) 0).trans rfl, (blk_cell (qkA BK106.out _) 1).trans rfl, (blk_cell (qkA BK101.out _) 0).trans rfl, (blk_cell (qkA BK101.out _) 1).trans rfl, (World.cell?_alloc_lt _ _ _ (qL _ _ (((HB.out.cell (qL w _ hw110_0)).trans hw110_0)))).trans (((HB.out.cell (qL w _ hw110_0)).trans hw110_0))⟩ (fun hHeld => ?_); clear hK K; refine norm_ (a' := ?_) ?_ ?_; rotate_left
       ·exact qa11
       refine one_ (i := 10) (N := some 26) spec_l06Own.y11 rfl rfl (one_of HT_.out qa5) qa51 (fun K hK => ?_); refine Kd.S_append_step (Kd.slice 43 k43) (w0 := w) w.heap.size (by rfl) (.tmp 17) (.tmp 25) 26 41 (.slice none 0 0) 24 rfl Try.underlying26 info41 rfl qa51 qa29 u107000 x107000_1 y111 [.slice Ao25 y111.length co25] (fun _ => True) (fun k_ => some k_ = (.slice Ao25 y111.length co25 : Value).ownBlock) rfl rfl ?aP (fun k_ hk_ => ((Kd.R_mono (ok' := fun k_ => ((fun _ => True)) k_ ∧ some k_ ≠ (u107000 : Value).ownBlock) (Kd.R_apart' (HO113.out) (Kd.S_typed HO_107000.out) qa51) (fun k_ hk => ⟨trivial, hk.2⟩))).1 k_ hk_.symm) ?aF ?aO ?aB ?aS ?aL ?_; (case aP => exact Kd.M_row (Kd.R_mono (Kd.R_tight rfl (Kd.R_mono (ok' := fun k_ => ((fun _ => True)) k_ ∧ some k_ ≠ (u107000 : Value).ownBlock) (Kd.R_apart' (HO113.out) (Kd.S_typed HO_107000.out) (by decide)) (fun k_ hk => ⟨trivial, hk.2⟩))) (fun _ h_ => h_))); (case aB => exact qa136); (case aF => exact (fun _ _ => trivial)); (case aO => exact (by (with_reducible repeat (first | apply Kd.S_alloc | apply Kd.S_drewN | apply Kd.S_drew)); exact Kd.S_mono HO_107000.out (fun k_ hk => ⟨trivial, fun e_ => hk.2 e_⟩))); (case aS => exact qa134); (case aL => have := LMc16.out; omega); intro v115 w24 ho hb hg hat; rw [← Ny114.out] at ho; have n0_ := qO (blk_grown (g := gb101) (o := .cells #[.slice (some ad110) l0_0.length c0_0, .int .i64 a0_1] 28 (0, 0)) qa17 hg (Kd.S_ne HO_107000.out BK101.out qa51)); have n1_ := qO (blk_grown (g := gb102) (o := .cells #[.slice none 0 0, .int .i64 0] 28 (0, 0)) qa28 hg (Kd.S_ne HO_107000.out BK102.out qa51)); have n2_ := qO (blk_grown (g := gb106) (o := .cells #[u107000, .int .i64 a0_1] 28 (0, 0)) qa146 hg (Kd.S_ne HO_107000.out BK106.out qa51)); have n3_ := qO (hb); have n4_ := qO (ho); clear BK101 BK102 BK106 HB HO_107000 HO113; have BK101 := n0_; have BK102 := n1_; have BK106 := n2_; have HB := n3_; have HO116 := n4_; clear n0_ n1_ n2_ n3_ n4_ ho hb hg hat; obtain ⟨Ao26, co26, eo26⟩ := Kd.S_slice HO116.out; (first | subst eo26 | (injection eo26 with f1_ f2_ f3_; have f4_ := f1_.symm; have f5_ := f3_.symm; clear f1_ f2_ f3_; subst f4_; subst f5_)); refine hK.out _ _ ⟨qc0 BK106.out, qc1 BK106.out, qc0 BK101.out, qc1 BK101.out, ((HB.out.cell (qL w _ hw110_0)).trans hw110_0)⟩ (fun hHeld => ?_); clear hK K; refine norm_ (a' := ?_) ?_ ?_; rotate_left
       ·exact qa11
       refine qPu 11 27 spec_l06Own.y12 rfl rfl (any_of HT_.out qa5) qa8 qa2 ?_; refine last_ (i := 12) (N := none) spec_l06Own.y13 rfl rfl (one_of HT_.out qa5) qa51 (fun K hK => ?_); have hs27 := qc0 BK106.out; have hfs27 := blk_frozen BK106.out 0; have hns27_0 := NB101_106.out; have hns27_1 := NB102_106.out; have hms27_0 := NB106_101.out; have hms27_1 := NB106_102.out; refine skip_ (w1 := ?_) (by rfl) rfl ?_ ?_; rotate_left
       ·go_simp
        rfl
       refine hK.out _ _ ?_; clear hK K; refine done_ (done_of HT_.out qa5) ?_
       try go_wp2
       go_roundg k1
       case measure => have := HK1.out; omega
       case rel => exact ⟨(wrap64 (x4_1 + 1)), (y114), (.slice Ao26 y114.length co26), qa12, H', ⟨qa103⟩, ⟨by (with_reducible repeat (first | apply Kd.S_alloc | apply Kd.S_drewN | apply Kd.S_drew)); exact Kd.S_mono (Kd.S_far (p := ⟨gb106, 0, none⟩) (Kd.S_types HO116.out BK106.out (by decide)) (fun _ hk => hk.2) (.slice Ao26 y114.length co26)) (fun _ hk => trivial)⟩, ⟨by (with_reducible repeat (first | refine qkN ?_ _ | refine qkD ?_ | refine qkA ?_ _)); refine blk_far ?_ NB101_106.out _; (with_reducible repeat (first | refine qkN ?_ _ | refine qkD ?_ | refine qkA ?_ _)); exact BK101.out⟩, ⟨by (with_reducible repeat (first | refine qkN ?_ _ | refine qkD ?_ | refine qkA ?_ _)); refine blk_far ?_ NB102_106.out _; (with_reducible repeat (first | refine qkN ?_ _ | refine qkD ?_ | refine qkA ?_ _)); exact BK102.out⟩, ⟨by (with_reducible repeat (first | refine qkN ?_ _ | refine qkD ?_ | refine qkA ?_ _)); refine blk_put (cs := #[u107000, .int .i64 a0_1]) ?_ 0 _ rfl; (with_reducible repeat (first | refine qkN ?_ _ | refine qkD ?_ | refine qkA ?_ _)); exact BK106.out⟩, ⟨qa73⟩⟩
      ·rw [if_neg c16] at H
       exact absurd H qa117
     ·rw [if_neg c15] at H
      exact absurd H qa117
    ·rw [if_neg c14] at H
     exact absurd H qa117
   ·rw [if_neg c13] at H
    have c13b0 : decide (x4_1 < (l0_0.length : Int)) = false := decide_eq_false c13; clear c13; simp only [Option.some.injEq, Prod.mk.injEq] at H; obtain ⟨rfl, rfl⟩ := H; have hnb28 := NB101_102.out; have hnc28 := NB102_101.out; have hnb29 := NB101_106.out; have hnc29 := NB106_101.out; obtain ⟨hcz30_0, hcz30_1, hfz30_0, hfz30_1⟩ := qb2 BK101.out; have hnb31 := NB106_102.out; have hnc31 := NB102_106.out; obtain ⟨hcz32_0, hcz32_1, hfz32_0, hfz32_1⟩ := qb2 BK106.out; obtain ⟨Ao33, co33, eo33⟩ := Kd.S_slice HO_107000.out; subst eo33; obtain ⟨hcz34_0, hcz34_1, hfz34_0, hfz34_1⟩ := qb2 BK102.out; go_wp2; refine bodyPost_ret (results_cell_row rfl _ _ gb102 28 #[.slice Ao33 x107000_1.length co33, .int .i64 a0_1] (0, 0) _ rfl (by (with_reducible repeat (first | refine qkN ?_ _ | refine qkD ?_ | refine qkA ?_ _)); refine blk_put (cs := #[.slice Ao33 x107000_1.length co33, .int .i64 0]) ?_ 1 _ rfl; (with_reducible repeat (first | refine qkN ?_ _ | refine qkD ?_ | refine qkA ?_ _)); refine blk_put (cs := #[.slice none 0 0, .int .i64 0]) ?_ 0 _ rfl; (with_reducible repeat (first | refine qkN ?_ _ | refine qkD ?_ | refine qkA ?_ _)); exact BK102.out) Try.underlying28 rfl qa5) rfl ?_
    exact ⟨_, qa7, by (with_reducible repeat (first | apply Kd.S_alloc | apply Kd.S_drewN | apply Kd.S_drew)); exact Kd.S_mono (Kd.S_far (p := ⟨gb102, 1, none⟩) (Kd.S_far (p := ⟨gb102, 0, none⟩) (Kd.S_types HO_107000.out BK102.out (by decide)) (fun _ hk => hk.2) (.slice Ao33 x107000_1.length co33)) (fun _ hk => hk.2) (.int .i64 a0_1)) (fun _ hk => trivial), qa73⟩


def spec_l01In.f (a0 : Int) (a1 : Int) (a2 : Int) : Option (Bool) := if a1 ≤ a0 then (some (decide (a0 ≤ a2))) else (some false)
set_option maxHeartbeats 8000000 in
set_option maxRecDepth 100000 in
theorem spec_l01In.calls (a0 : Int) (a1 : Int) (a2 : Int) (r : Bool) (w : World) (h : spec_l01In.f a0 a1 a2 = some r) :
  Calls Try.prog 96 #[.int .i64 a0, .int .i64 a1, .int .i64 a2] w fun e w' => e = .returned (.bool r) ∧ Drawn0 w w' := by
 have H : (if a1 ≤ a0 then (some (decide (a0 ≤ a2))) else (some false)) = some r := h; clear h
 by_cases c4 : a1 ≤ a0
 ·rw [if_pos c4] at H
  have c4b0 : decide (a1 ≤ a0) = true := decide_eq_true c4; clear c4; obtain rfl := Option.some.inj H
  go_enter Try.func96, Try.ntmps96
  go_wp2
  go_ret
  exact ⟨qa12, qa22⟩
 ·rw [if_neg c4] at H
  have c4b0 : decide (a1 ≤ a0) = false := decide_eq_false c4; clear c4; obtain rfl := Option.some.inj H
  go_enter Try.func96, Try.ntmps96
  go_wp2
  go_ret
  exact ⟨qa12, qa22⟩


def spec_IsInt.f (a0 : Int) : Option (Bool) := (spec_l01In.f a0 (-2147483648) 2147483647).bind fun t101 => (some t101)
set_option maxHeartbeats 8000000 in
set_option maxRecDepth 100000 in
theorem spec_IsInt.calls (a0 : Int) (r : Bool) (w : World) (h : spec_IsInt.f a0 = some r) :
  Calls Try.prog 131 #[.int .i64 a0] w fun e w' => e = .returned (.bool r) ∧ Drawn0 w w' := by
 have H : ((spec_l01In.f a0 (-2147483648) 2147483647).bind fun t101 => (some t101)) = some r := h; clear h; replace H := Option.bind_eq_some_iff.mp H; obtain ⟨t101, A20, H⟩ := H; replace H : (some t101) = some r := H; have A2 := qO A20; clear A20; obtain rfl := Option.some.inj H
 go_enter Try.func131, Try.ntmps131
 go_wp2_with (first | ((with_reducible refine gate_callee (f := 96) rfl ?_); refine goesL_ (some 4) rfl rfl Try.func96 qa5 rfl #[.int .i64 a0, .int .i64 (-2147483648), .int .i64 2147483647] rfl qa3 ?_; (with_reducible refine (spec_l01In.calls a0 (-2147483648) 2147483647 t101 _ A2.out).mono ?_); rintro e w' ⟨rfl, ⟨nd, rfl⟩⟩; refine ⟨_, rfl, ?_⟩))
 go_ret
 exact ⟨qa12, qa22⟩


def spec_l06Value.f (a0 : Int) (a1 : Int) : Option (Bool) := if (Int.tmod a0 2) = 1 then ((spec_l01In.f a1 0 8).bind fun t101 => (some t101)) else ((spec_IsInt.f a1).bind fun t102 => (some t102))
set_option maxHeartbeats 8000000 in
set_option maxRecDepth 100000 in
theorem spec_l06Value.calls (a0 : Int) (a1 : Int) (r : Bool) (w : World) (h : spec_l06Value.f a0 a1 = some r) :
  Calls Try.prog 113 #[.int .i64 a0, .int .i64 a1] w fun e w' => e = .returned (.bool r) ∧ Drawn0 w w' := by
 have H : (if (Int.tmod a0 2) = 1 then ((spec_l01In.f a1 0 8).bind fun t101 => (some t101)) else ((spec_IsInt.f a1).bind fun t102 => (some t102))) = some r := h; clear h
 by_cases c3 : (Int.tmod a0 2) = 1
 ·rw [if_pos c3] at H
  have c3b0 : ((Int.tmod a0 2) == 1) = true := beq_iff_eq.mpr c3; have c3b1 : ((Int.tmod a0 2) != 1) = false := bne_eq_false_iff_eq.mpr c3; clear c3; replace H := Option.bind_eq_some_iff.mp H; obtain ⟨t101, A40, H⟩ := H; replace H : (some t101) = some r := H; have A4 := qO A40; clear A40; obtain rfl := Option.some.inj H
  go_enter Try.func113, Try.ntmps113
  go_wp2_with (first | ((with_reducible refine gate_callee (f := 96) rfl ?_); refine goesL_ (some 9) rfl rfl Try.func96 qa5 rfl #[.int .i64 a1, .int .i64 0, .int .i64 8] rfl qa3 ?_; (with_reducible refine (spec_l01In.calls a1 0 8 t101 _ A4.out).mono ?_); rintro e w' ⟨rfl, ⟨nd, rfl⟩⟩; refine ⟨_, rfl, ?_⟩))
  go_ret
  exact ⟨qa12, qa22⟩
 ·rw [if_neg c3] at H
  have c3b0 : ((Int.tmod a0 2) == 1) = false := beq_eq_false_iff_ne.mpr c3; have c3b1 : ((Int.tmod a0 2) != 1) = true := bne_iff_ne.mpr c3; replace H := Option.bind_eq_some_iff.mp H; obtain ⟨t102, A50, H⟩ := H; replace H : (some t102) = some r := H; have A5 := qO A50; clear A50; obtain rfl := Option.some.inj H
  go_enter Try.func113, Try.ntmps113
  go_wp2_with (first | ((with_reducible refine gate_callee (f := 131) rfl ?_); refine goesL_ (some 11) rfl rfl Try.func131 qa5 rfl #[.int .i64 a1] rfl qa3 ?_; (with_reducible refine (spec_IsInt.calls a1 t102 _ A5.out).mono ?_); rintro e w' ⟨rfl, ⟨nd, rfl⟩⟩; refine ⟨_, rfl, ?_⟩))
  go_ret
  exact ⟨qa12, qa22⟩


mutual
def spec_StoreOK.j0 : Nat → Bool → List (List (S43)) → Int → Option (Bool)
 | 0, _, _, _ => none
 | k + 1, x15, x102000, x102001 => if x15 = true then (some false) else (spec_StoreOK.l0 k 0 x102000 x102001)
def spec_StoreOK.l0 : Nat → Int → List (List (S43)) → Int → Option (Bool)
 | 0, _, _, _ => none
 | k + 1, x3, x102000, x102001 => if x3 < 16 then (spec_StoreOK.l1 k x3 0 x102000 x102001) else (some true)
def spec_StoreOK.l1 : Nat → Int → Int → List (List (S43)) → Int → Option (Bool)
 | 0, _, _, _, _ => none
 | k + 1, x3, x4, x102000, x102001 => if 0 ≤ x3 then (if x3 < (x102000.length : Int) then (if x4 < ((rd_L4 x102000 x3).length : Int) then (if 0 ≤ x4 then ((spec_l01In.f ((rd_T43 (rd_L4 x102000 x3) x4).f0) 1 x102001).bind fun t107 => (if t107 = true then ((spec_l06Value.f x3 ((rd_T43 (rd_L4 x102000 x3) x4).f1)).bind fun t108 => (if t108 = true then (if x4 > 0 then (if 0 ≤ (wrap64 (x4 - 1)) then (if (wrap64 (x4 - 1)) < ((rd_L4 x102000 x3).length : Int) then (if ((rd_T43 (rd_L4 x102000 x3) (wrap64 (x4 - 1))).f0) ≥ ((rd_T43 (rd_L4 x102000 x3) x4).f0) then (some false) else (spec_StoreOK.l1 k x3 (wrap64 (x4 + 1)) x102000 x102001)) else (none)) else (none)) else (spec_StoreOK.l1 k x3 (wrap64 (x4 + 1)) x102000 x102001)) else (some false))) else (some false))) else (none)) else (spec_StoreOK.l0 k (wrap64 (x3 + 1)) x102000 x102001)) else (none)) else (none)
end
def spec_StoreOK.f (k : Nat) (l0_0 : List (List (S43))) (a0_1 : Int) : Option (Bool) := if (l0_0.length : Int) = 16 then ((spec_l01In.f a0_1 0 100000).bind fun t102 => (spec_StoreOK.j0 k (!t102) l0_0 a0_1)) else (spec_StoreOK.j0 k true l0_0 a0_1)
def spec_StoreOK.T10 : Bool × List (List Nat × List Nat) := (true, [([], []), ([0], [0]), ([], []), ([2], [2]), ([1, 3], [1, 3]), ([4], [4]), ([5, 4], [5]), ([6], [6]), ([6], [6]), ([8, 6], [6, 8]), ([7, 9, 6, 6], [6, 7, 9]), ([10, 6], [6, 10]), ([6, 11], [6, 11]), ([12, 10], [12]), ([13], [13]), ([14, 13], [13, 14]), ([15, 13, 13], [13, 15]), ([16], [16]), ([17, 16], [16, 17]), ([16], [16]), ([18, 19, 16], [16, 18, 19]), ([20, 16], [16, 20]), ([16], [16]), ([22, 16], [16, 22]), ([21, 23, 16], [16, 21, 23]), ([24, 16], [16, 24]), ([25, 16], [16, 25]), ([16], [16]), ([27, 16], [16, 27]), ([26, 28, 16], [16, 26, 28]), ([16, 29, 13], [13, 16, 29]), ([13, 30], [13, 30])])
def spec_StoreOK.B10 : List Nat := [0, 1, 0, 4, 15, 31, 63, 127, 127, 383, 1023, 2047, 4095, 8191, 16383, 32767, 65535, 131071, 262143, 131071, 1048575, 2097151, 131071, 4325375, 16777215, 33554431, 67108863, 131071, 134348799, 536870911, 1073741823, 2147483647]
theorem spec_StoreOK.tab10 : rtab .any (opsOf Try.f70 10) = spec_StoreOK.T10 := by kernel_rfl
theorem spec_StoreOK.bits10 : waitsOk spec_StoreOK.T10.2 spec_StoreOK.B10 = true := by kernel_rfl
def spec_StoreOK.y0 := #[qf,qf,qf,qf,qf,qf,qf,qf,qf,qf,qf,qf,qf,qf,qf,qf,qf,qf,qf,qf,qf,qf,qf,qf,qf,qf,qf,qf,qf,qf,qf,qf]
def spec_StoreOK.y1 := #[qt,qf,qf,qf,qf,qf,qf,qf,qf,qf,qf,qf,qf,qf,qf,qf,qf,qf,qf,qf,qf,qf,qf,qf,qf,qf,qf,qf,qf,qf,qf,qf]
def spec_StoreOK.y2 := #[qt,qf,qt,qf,qf,qf,qf,qf,qf,qf,qf,qf,qf,qf,qf,qf,qf,qf,qf,qf,qf,qf,qf,qf,qf,qf,qf,qf,qf,qf,qf,qf]
def spec_StoreOK.y3 := #[qt,qt,qt,qf,qf,qf,qf,qf,qf,qf,qf,qf,qf,qf,qf,qf,qf,qf,qf,qf,qf,qf,qf,qf,qf,qf,qf,qf,qf,qf,qf,qf]
def spec_StoreOK.y4 := #[qt,qt,qt,qt,qf,qf,qf,qf,qf,qf,qf,qf,qf,qf,qf,qf,qf,qf,qf,qf,qf,qf,qf,qf,qf,qf,qf,qf,qf,qf,qf,qf]
def spec_StoreOK.y5 := #[qt,qt,qt,qt,qt,qf,qf,qf,qf,qf,qf,qf,qf,qf,qf,qf,qf,qf,qf,qf,qf,qf,qf,qf,qf,qf,qf,qf,qf,qf,qf,qf]
def spec_StoreOK.y6 := #[qt,qt,qt,qt,qt,qt,qf,qf,qf,qf,qf,qf,qf,qf,qf,qf,qf,qf,qf,qf,qf,qf,qf,qf,qf,qf,qf,qf,qf,qf,qf,qf]
def spec_StoreOK.y7 := #[qt,qt,qt,qt,qt,qt,qt,qf,qf,qf,qf,qf,qf,qf,qf,qf,qf,qf,qf,qf,qf,qf,qf,qf,qf,qf,qf,qf,qf,qf,qf,qf]
def spec_StoreOK.y8 := #[qt,qt,qt,qt,qt,qt,qt,qt,qf,qf,qf,qf,qf,qf,qf,qf,qf,qf,qf,qf,qf,qf,qf,qf,qf,qf,qf,qf,qf,qf,qf,qf]
def spec_StoreOK.y9 := #[qt,qt,qt,qt,qt,qt,qt,qt,qt,qf,qf,qf,qf,qf,qf,qf,qf,qf,qf,qf,qf,qf,qf,qf,qf,qf,qf,qf,qf,qf,qf,qf]
def spec_StoreOK.y10 := #[qt,qt,qt,qt,qt,qt,qt,qt,qt,qt,qf,qf,qf,qf,qf,qf,qf,qf,qf,qf,qf,qf,qf,qf,qf,qf,qf,qf,qf,qf,qf,qf]
def spec_StoreOK.y11 := #[qt,qt,qt,qt,qt,qt,qt,qt,qt,qt,qt,qf,qf,qf,qf,qf,qf,qf,qf,qf,qf,qf,qf,qf,qf,qf,qf,qf,qf,qf,qf,qf]
def spec_StoreOK.y12 := #[qt,qt,qt,qt,qt,qt,qt,qt,qt,qt,qt,qt,qf,qf,qf,qf,qf,qf,qf,qf,qf,qf,qf,qf,qf,qf,qf,qf,qf,qf,qf,qf]
def spec_StoreOK.y13 := #[qt,qt,qt,qt,qt,qt,qt,qt,qt,qt,qt,qt,qt,qf,qf,qf,qf,qf,qf,qf,qf,qf,qf,qf,qf,qf,qf,qf,qf,qf,qf,qf]
def spec_StoreOK.y14 := #[qt,qt,qt,qt,qt,qt,qt,qt,qt,qt,qt,qt,qt,qt,qf,qf,qf,qf,qf,qf,qf,qf,qf,qf,qf,qf,qf,qf,qf,qf,qf,qf]
def spec_StoreOK.y15 := #[qt,qt,qt,qt,qt,qt,qt,qt,qt,qt,qt,qt,qt,qt,qt,qf,qf,qf,qf,qf,qf,qf,qf,qf,qf,qf,qf,qf,qf,qf,qf,qf]
def spec_StoreOK.y16 := #[qt,qt,qt,qt,qt,qt,qt,qt,qt,qt,qt,qt,qt,qt,qt,qt,qf,qf,qf,qf,qf,qf,qf,qf,qf,qf,qf,qf,qf,qf,qf,qf]
def spec_StoreOK.y17 := #[qt,qt,qt,qt,qt,qt,qt,qt,qt,qt,qt,qt,qt,qt,qt,qt,qt,qf,qf,qf,qf,qf,qf,qf,qf,qf,qf,qf,qf,qf,qf,qf]
def spec_StoreOK.y18 := #[qt,qt,qt,qt,qt,qt,qt,qt,qt,qt,qt,qt,qt,qt,qt,qt,qt,qt,qf,qf,qf,qf,qf,qf,qf,qf,qf,qf,qf,qf,qf,qf]
def spec_StoreOK.y19 := #[qt,qt,qt,qt,qt,qt,qt,qt,qt,qt,qt,qt,qt,qt,qt,qt,qt,qt,qf,qt,qf,qf,qf,qf,qf,qf,qf,qf,qf,qf,qf,qf]
def spec_StoreOK.y20 := #[qt,qt,qt,qt,qt,qt,qt,qt,qt,qt,qt,qt,qt,qt,qt,qt,qt,qt,qf,qt,qf,qf,qt,qf,qf,qf,qf,qf,qf,qf,qf,qf]
def spec_StoreOK.y21 := #[qt,qt,qt,qt,qt,qt,qt,qt,qt,qt,qt,qt,qt,qt,qt,qt,qt,qt,qf,qt,qf,qf,qt,qt,qf,qf,qf,qf,qf,qf,qf,qf]
def spec_StoreOK.y22 := #[qt,qt,qt,qt,qt,qt,qt,qt,qt,qt,qt,qt,qt,qt,qt,qt,qt,qt,qf,qt,qf,qf,qt,qt,qf,qf,qf,qt,qf,qf,qf,qf]
def spec_StoreOK.y23 := #[qt,qt,qt,qt,qt,qt,qt,qt,qt,qt,qt,qt,qt,qt,qt,qt,qt,qt,qt,qt,qf,qf,qt,qt,qf,qf,qf,qt,qf,qf,qf,qf]
def spec_StoreOK.y24 := #[qt,qt,qt,qt,qt,qt,qt,qt,qt,qt,qt,qt,qt,qt,qt,qt,qt,qt,qt,qt,qt,qf,qt,qt,qf,qf,qf,qt,qf,qf,qf,qf]
def spec_StoreOK.y25 := #[qt,qt,qt,qt,qt,qt,qt,qt,qt,qt,qt,qt,qt,qt,qt,qt,qt,qt,qt,qt,qt,qt,qt,qt,qf,qf,qf,qt,qf,qf,qf,qf]
def spec_StoreOK.y26 := #[qt,qt,qt,qt,qt,qt,qt,qt,qt,qt,qt,qt,qt,qt,qt,qt,qt,qt,qt,qt,qt,qt,qt,qt,qt,qf,qf,qt,qf,qf,qf,qf]
def spec_StoreOK.y27 := #[qt,qt,qt,qt,qt,qt,qt,qt,qt,qt,qt,qt,qt,qt,qt,qt,qt,qt,qt,qt,qt,qt,qt,qt,qt,qt,qf,qt,qf,qf,qf,qf]
def spec_StoreOK.y28 := #[qt,qt,qt,qt,qt,qt,qt,qt,qt,qt,qt,qt,qt,qt,qt,qt,qt,qt,qt,qt,qt,qt,qt,qt,qt,qt,qt,qt,qf,qf,qf,qf]
def spec_StoreOK.y29 := #[qt,qt,qt,qt,qt,qt,qt,qt,qt,qt,qt,qt,qt,qt,qt,qt,qt,qt,qt,qt,qt,qt,qt,qt,qt,qt,qt,qt,qt,qf,qf,qf]
def spec_StoreOK.y30 := #[qt,qt,qt,qt,qt,qt,qt,qt,qt,qt,qt,qt,qt,qt,qt,qt,qt,qt,qt,qt,qt,qt,qt,qt,qt,qt,qt,qt,qt,qt,qf,qf]
def spec_StoreOK.y31 := #[qt,qt,qt,qt,qt,qt,qt,qt,qt,qt,qt,qt,qt,qt,qt,qt,qt,qt,qt,qt,qt,qt,qt,qt,qt,qt,qt,qt,qt,qt,qt,qf]
def spec_StoreOK.y32 := #[qt,qt,qt,qt,qt,qt,qt,qt,qt,qt,qt,qt,qt,qt,qt,qt,qt,qt,qt,qt,qt,qt,qt,qt,qt,qt,qt,qt,qt,qt,qt,qt]
def spec_StoreOK.y33 := #[qt,qt,qt,qt,qt,qt,qt,qt,qt,qt,qt,qt,qt,qt,qt,qt,qt,qt,qt,qf,qf,qf,qf,qf,qf,qf,qf,qf,qf,qf,qf,qf]
def spec_StoreOK.y34 := #[qt,qt,qt,qt,qt,qt,qt,qt,qt,qt,qt,qt,qt,qt,qt,qt,qt,qt,qt,qt,qf,qf,qf,qf,qf,qf,qf,qf,qf,qf,qf,qf]
def spec_StoreOK.y35 := #[qt,qt,qt,qt,qt,qt,qt,qt,qt,qt,qt,qt,qt,qt,qt,qt,qt,qt,qt,qt,qt,qf,qf,qf,qf,qf,qf,qf,qf,qf,qf,qf]
def spec_StoreOK.y36 := #[qt,qt,qt,qt,qt,qt,qt,qt,qt,qt,qt,qt,qt,qt,qt,qt,qt,qt,qt,qt,qt,qt,qf,qf,qf,qf,qf,qf,qf,qf,qf,qf]
def spec_StoreOK.y37 := #[qt,qt,qt,qt,qt,qt,qt,qt,qt,qt,qt,qt,qt,qt,qt,qt,qt,qt,qt,qt,qt,qt,qt,qf,qf,qf,qf,qf,qf,qf,qf,qf]
def spec_StoreOK.y38 := #[qt,qt,qt,qt,qt,qt,qt,qt,qt,qt,qt,qt,qt,qt,qt,qt,qt,qt,qt,qt,qt,qt,qt,qt,qf,qf,qf,qf,qf,qf,qf,qf]
def spec_StoreOK.y39 := #[qt,qt,qt,qt,qt,qt,qt,qt,qt,qt,qt,qt,qt,qt,qt,qt,qt,qt,qt,qt,qt,qt,qt,qt,qt,qf,qf,qf,qf,qf,qf,qf]
def spec_StoreOK.y40 := #[qt,qt,qt,qt,qt,qt,qt,qt,qt,qt,qt,qt,qt,qt,qt,qt,qt,qt,qt,qt,qt,qt,qt,qt,qt,qt,qf,qf,qf,qf,qf,qf]
def spec_StoreOK.y41 := #[qt,qt,qt,qt,qt,qt,qt,qt,qt,qt,qt,qt,qt,qt,qt,qt,qt,qt,qt,qt,qt,qt,qt,qt,qt,qt,qt,qf,qf,qf,qf,qf]
set_option maxHeartbeats 8000000 in
set_option maxRecDepth 100000 in
theorem spec_StoreOK.calls (k : Nat) (A0_0 : Option Addr) (c0_0 : Nat) (l0_0 : List (List (S43))) (a0_1 : Int) (r : Bool) (w : World) (hr0_0 : Kd.C (Kd.slice 43 k43) w A0_0 l0_0.length l0_0) (hc0_0 : l0_0.length ≤ c0_0) (h : spec_StoreOK.f k l0_0 a0_1 = some r) :
  Calls Try.prog 70 #[.agg #[.slice A0_0 l0_0.length c0_0, .int .i64 a0_1]] w fun e w' => e = .returned (.bool r) ∧ Below w.heap.size w w' := by
 have hu28 := Try.underlying28; have hu43 := Try.underlying43; have HR0_0 := qO hr0_0; have HC0_0 := qO hc0_0; clear hr0_0 hc0_0; have HB := qO (Below.refl w.heap.size w); have H : (if (l0_0.length : Int) = 16 then ((spec_l01In.f a0_1 0 100000).bind fun t102 => (spec_StoreOK.j0 k (!t102) l0_0 a0_1)) else (spec_StoreOK.j0 k true l0_0 a0_1)) = some r := h; clear h; have HC2 := qO H; clear H
 go_enter Try.func70, Try.ntmps70
 go_upto_region 1 with (first | ((with_reducible refine gate_dst (N := 1) rfl ?_); refine qX 1 #[.slice A0_0 l0_0.length c0_0, .int .i64 a0_1] 28 ?_; intro gb101 hg w3 hbox hb; have BK101 := qO (hbox); have GW101 := qO ((qa46 : w.heap.size ≤ gb101)); have GE101 := qO ((qa46 : w.heap.size ≤ gb101)); replace HB := qO (below_step qa16 hb); clear hb hbox hg))
 (try simp only [Act.put, qzA, qzB, qzC])
 go_cut [15] (fun v15 wc => ∃ (kq : Nat) (x15_1 : Bool), v15 = .bool x15_1 ∧ Aside0 (spec_StoreOK.j0 kq x15_1 l0_0 a0_1 = some r) ∧ Aside0 (kq ≤ k) ∧ Aside0 (wc.heap[gb101]? = some (.cells #[(.slice A0_0 l0_0.length c0_0), .int .i64 a0_1] 28 (0, 0))) ∧ Aside0 (Below w.heap.size w wc))
 case first =>
  have H := HC2.out; clear HC2
  by_cases c4 : (l0_0.length : Int) = 16
  ·rw [if_pos c4] at H
   have c4b0 : ((l0_0.length : Int) == 16) = true := beq_iff_eq.mpr c4; have c4b1 : ((l0_0.length : Int) != 16) = false := bne_eq_false_iff_eq.mpr c4; clear c4; (first | rw [c4b0] | (simp only [i64_w, i32_w]; rw [c4b0]) | skip); replace H := Option.bind_eq_some_iff.mp H; obtain ⟨t102, A50, H⟩ := H; replace H : (spec_StoreOK.j0 k (!t102) l0_0 a0_1) = some r := H; have A5 := qO A50; clear A50; have H' := qO H; clear H; obtain ⟨hcz6_0, hcz6_1, hfz6_0, hfz6_1⟩ := qb2 BK101.out
   go_wp2_with (first | (go_at_call 96; (with_reducible refine (spec_l01In.calls a0_1 0 100000 t102 _ A5.out).mono ?_); rintro e w' ⟨rfl, ⟨nd, rfl⟩⟩))
   go_meet
   case rel => exact ⟨_, (!t102), qa12, H', ⟨qa148⟩, ⟨qa17⟩, ⟨qa14⟩⟩
  ·rw [if_neg c4] at H
   have c4b0 : ((l0_0.length : Int) == 16) = false := beq_eq_false_iff_ne.mpr c4; have c4b1 : ((l0_0.length : Int) != 16) = true := bne_iff_ne.mpr c4; (first | rw [c4b0] | (simp only [i64_w, i32_w]; rw [c4b0]) | skip); have H' := qO H; clear H; obtain ⟨hcz7_0, hcz7_1, hfz7_0, hfz7_1⟩ := qb2 BK101.out; go_wp2
   go_meet
   case rel => exact ⟨_, (true), qa12, H', ⟨qa148⟩, ⟨qa17⟩, ⟨qa14⟩⟩
 case rest =>
  clear HC2
  try clear p2
  try clear c4
  try clear c4b0
  try clear c4b1
  try clear c7
  try clear hcz6_0
  try clear hcz6_1
  try clear hcz7_0
  try clear hcz7_1
  try clear hfz6_0
  try clear hfz6_1
  try clear hfz7_0
  try clear hfz7_1
  obtain ⟨kq, x15_1, rfl, HA, HJ1, BK101, HB⟩ := hcut
  cases kq with
  | zero => exact absurd HA.out (by simp [spec_StoreOK.j0])
  | succ kj1 =>
   have H := HA.out; clear HA; simp only [spec_StoreOK.j0] at H
   by_cases c8 : x15_1 = true
   ·subst c8
    have H1 : (some false) = some r := by rw [if_pos rfl] at H; exact H
    clear H; have H := H1; clear H1; obtain rfl := Option.some.inj H; go_wp2
    go_ret
    exact ⟨qa7, qa14⟩
   ·replace c8 := Bool.eq_false_iff.mpr c8
    subst c8; have H1 : (spec_StoreOK.l0 kj1 0 l0_0 a0_1) = some r := by rw [if_neg (show ¬ (false = true) by decide)] at H; exact H
    clear H; have H := H1; clear H1; have H' := qO H; clear H; go_wp2
    go_loopg [3] kj1 (fun kq v3 w' => ∃ (x3_2 : Int), v3 = .int .i64 x3_2 ∧ Aside0 (spec_StoreOK.l0 kq x3_2 l0_0 a0_1 = some r) ∧ Aside0 (kq ≤ kj1) ∧ Aside0 (w'.heap[gb101]? = some (.cells #[(.slice A0_0 l0_0.length c0_0), .int .i64 a0_1] 28 (0, 0))) ∧ Aside0 (Below w.heap.size w w'))
    case atStart => exact ⟨(0), qa12, H', ⟨Nat.le_refl _⟩, ⟨qa17⟩, ⟨qa14⟩⟩
    case round =>
     clear H'
     try clear p2
     try clear c4
     try clear c4b0
     try clear c4b1
     try clear c7
     try clear c8
     try clear hcz6_0
     try clear hcz6_1
     try clear hcz7_0
     try clear hcz7_1
     try clear hfz6_0
     try clear hfz6_1
     try clear hfz7_0
     try clear hfz7_1
     try clear p2
     obtain ⟨x3_2, rfl, HA, HK2, BK101, HB⟩ := hrel
     cases gk with
     | zero => exact absurd HA.out (by simp [spec_StoreOK.l0])
     | succ k2 =>
      have H := HA.out; clear HA; simp only [spec_StoreOK.l0] at H
      by_cases c9 : x3_2 < 16
      ·rw [if_pos c9] at H
       have c9b0 : decide (x3_2 < 16) = true := decide_eq_true c9; clear c9; have H' := qO H; clear H; go_wp2
       go_loopg [4] k2 (fun kq v4 w' => ∃ (x4_3 : Int), v4 = .int .i64 x4_3 ∧ Aside0 (spec_StoreOK.l1 kq x3_2 x4_3 l0_0 a0_1 = some r) ∧ Aside0 (kq ≤ k2) ∧ Aside0 (w'.heap[gb101]? = some (.cells #[(.slice A0_0 l0_0.length c0_0), .int .i64 a0_1] 28 (0, 0))) ∧ Aside0 (Below w.heap.size w w'))
       case atStart => exact ⟨(0), qa12, H', ⟨Nat.le_refl _⟩, ⟨qa17⟩, ⟨qa14⟩⟩
       case round =>
        clear H'
        try clear p2
        try clear c4
        try clear c4b0
        try clear c4b1
        try clear c7
        try clear c8
        try clear c9
        try clear c9b0
        try clear hcz6_0
        try clear hcz6_1
        try clear hcz7_0
        try clear hcz7_1
        try clear hfz6_0
        try clear hfz6_1
        try clear hfz7_0
        try clear hfz7_1
        try clear p2
        obtain ⟨x4_3, rfl, HA, HK3, BK101, HB⟩ := hrel
        cases gk with
        | zero => exact absurd HA.out (by simp [spec_StoreOK.l1])
        | succ k3 =>
         have H := HA.out; clear HA; simp only [spec_StoreOK.l1] at H
         by_cases c10 : 0 ≤ x3_2
         ·rw [if_pos c10] at H
          have c10b0 : decide (0 ≤ x3_2) = true := decide_eq_true c10; clear c10
          by_cases c11 : x3_2 < (l0_0.length : Int)
          ·rw [if_pos c11] at H
           have c11b0 : decide (x3_2 < (l0_0.length : Int)) = true := decide_eq_true c11; clear c11
           by_cases c12 : x4_3 < ((rd_L4 l0_0 x3_2).length : Int)
           ·rw [if_pos c12] at H
            have c12b0 : decide (x4_3 < ((rd_L4 l0_0 x3_2).length : Int)) = true := decide_eq_true c12; clear c12
            by_cases c13 : 0 ≤ x4_3
            ·rw [if_pos c13] at H
             have c13b0 : decide (0 ≤ x4_3) = true := decide_eq_true c13; clear c13; replace H := Option.bind_eq_some_iff.mp H; obtain ⟨t107, A140, H⟩ := H; replace H : (if t107 = true then ((spec_l06Value.f x3_2 ((rd_T43 (rd_L4 l0_0 x3_2) x4_3).f1)).bind fun t108 => (if t108 = true then (if x4_3 > 0 then (if 0 ≤ (wrap64 (x4_3 - 1)) then (if (wrap64 (x4_3 - 1)) < ((rd_L4 l0_0 x3_2).length : Int) then (if ((rd_T43 (rd_L4 l0_0 x3_2) (wrap64 (x4_3 - 1))).f0) ≥ ((rd_T43 (rd_L4 l0_0 x3_2) x4_3).f0) then (some false) else (spec_StoreOK.l1 k3 x3_2 (wrap64 (x4_3 + 1)) l0_0 a0_1)) else (none)) else (none)) else (spec_StoreOK.l1 k3 x3_2 (wrap64 (x4_3 + 1)) l0_0 a0_1)) else (some false))) else (some false)) = some r := H; have A14 := qO A140; clear A140
             by_cases c15 : t107 = true
             ·subst c15
              have H1 : ((spec_l06Value.f x3_2 ((rd_T43 (rd_L4 l0_0 x3_2) x4_3).f1)).bind fun t108 => (if t108 = true then (if x4_3 > 0 then (if 0 ≤ (wrap64 (x4_3 - 1)) then (if (wrap64 (x4_3 - 1)) < ((rd_L4 l0_0 x3_2).length : Int) then (if ((rd_T43 (rd_L4 l0_0 x3_2) (wrap64 (x4_3 - 1))).f0) ≥ ((rd_T43 (rd_L4 l0_0 x3_2) x4_3).f0) then (some false) else (spec_StoreOK.l1 k3 x3_2 (wrap64 (x4_3 + 1)) l0_0 a0_1)) else (none)) else (none)) else (spec_StoreOK.l1 k3 x3_2 (wrap64 (x4_3 + 1)) l0_0 a0_1)) else (some false))) = some r := by rw [if_pos rfl] at H; exact H
              clear H; have H := H1; clear H1; replace H := Option.bind_eq_some_iff.mp H; obtain ⟨t108, A160, H⟩ := H; replace H : (if t108 = true then (if x4_3 > 0 then (if 0 ≤ (wrap64 (x4_3 - 1)) then (if (wrap64 (x4_3 - 1)) < ((rd_L4 l0_0 x3_2).length : Int) then (if ((rd_T43 (rd_L4 l0_0 x3_2) (wrap64 (x4_3 - 1))).f0) ≥ ((rd_T43 (rd_L4 l0_0 x3_2) x4_3).f0) then (some false) else (spec_StoreOK.l1 k3 x3_2 (wrap64 (x4_3 + 1)) l0_0 a0_1)) else (none)) else (none)) else (spec_StoreOK.l1 k3 x3_2 (wrap64 (x4_3 + 1)) l0_0 a0_1)) else (some false)) = some r := H; have A16 := qO A160; clear A160
              by_cases c17 : t108 = true
              ·subst c17
               have H1 : (if x4_3 > 0 then (if 0 ≤ (wrap64 (x4_3 - 1)) then (if (wrap64 (x4_3 - 1)) < ((rd_L4 l0_0 x3_2).length : Int) then (if ((rd_T43 (rd_L4 l0_0 x3_2) (wrap64 (x4_3 - 1))).f0) ≥ ((rd_T43 (rd_L4 l0_0 x3_2) x4_3).f0) then (some false) else (spec_StoreOK.l1 k3 x3_2 (wrap64 (x4_3 + 1)) l0_0 a0_1)) else (none)) else (none)) else (spec_StoreOK.l1 k3 x3_2 (wrap64 (x4_3 + 1)) l0_0 a0_1)) = some r := by rw [if_pos rfl] at H; exact H
               clear H; have H := H1; clear H1
               by_cases c18 : x4_3 > 0
               ·rw [if_pos c18] at H
                have c18b0 : decide (0 < x4_3) = true := decide_eq_true c18; clear c18; obtain ⟨ji19, hji19⟩ : ∃ j_ : Int, (wrap64 (x4_3 - 1)) = j_ := ⟨_, rfl⟩; replace H : (if 0 ≤ (ji19) then (if (ji19) < ((rd_L4 l0_0 x3_2).length : Int) then (if ((rd_T43 (rd_L4 l0_0 x3_2) (ji19)).f0) ≥ ((rd_T43 (rd_L4 l0_0 x3_2) x4_3).f0) then (some false) else (spec_StoreOK.l1 k3 x3_2 (wrap64 (x4_3 + 1)) l0_0 a0_1)) else (none)) else (none)) = some r := by first | (rw [hji19] at H; exact H) | (simp only [hji19] at H ⊢; exact H)
                (try rw [hji19] at A14); (try rw [hji19] at A16); have hji19w : (IntKind.i64.wrap (x4_3 - 1)) = ji19 := (i64_w _).trans hji19
                by_cases c20 : 0 ≤ (ji19)
                ·rw [if_pos c20] at H
                 have c20b0 : decide (0 ≤ (ji19)) = true := decide_eq_true c20; clear c20
                 by_cases c21 : (ji19) < ((rd_L4 l0_0 x3_2).length : Int)
                 ·rw [if_pos c21] at H
                  have c21b0 : decide ((ji19) < ((rd_L4 l0_0 x3_2).length : Int)) = true := decide_eq_true c21; clear c21
                  by_cases c22 : ((rd_T43 (rd_L4 l0_0 x3_2) (ji19)).f0) ≥ ((rd_T43 (rd_L4 l0_0 x3_2) x4_3).f0)
                  ·rw [if_pos c22] at H
                   have c22b0 : decide (((rd_T43 (rd_L4 l0_0 x3_2) x4_3).f0) ≤ ((rd_T43 (rd_L4 l0_0 x3_2) (ji19)).f0)) = true := decide_eq_true c22; clear c22; obtain rfl := Option.some.inj H; obtain ⟨hcz23_0, hcz23_1, hfz23_0, hfz23_1⟩ := qb2 BK101.out; have p103 : 0 ≤ (x3_2 : Int) := qT qa1; have q103 : x3_2 < (l0_0.length : Int) := qT qa1; obtain ⟨ad103, A103_0, c103_0, e103, hx103_0, hl103_0, hi103_0⟩ := at_L4 HR0_0.out x3_2 p103 q103
                   cases e103
                   replace hx103_0 := (HB.out.cell (qL w _ hx103_0)).trans hx103_0; have HR103_0 := qO hi103_0; have HC103_0 := qO hl103_0; clear hi103_0 hl103_0; replace p103 := eq_true p103; replace q103 := eq_true q103; have p104 : 0 ≤ (x3_2 : Int) := qT qa1; have q104 : x3_2 < (l0_0.length : Int) := qT qa1; obtain ⟨ad104, A104_0, c104_0, e104, hx104_0, hl104_0, hi104_0⟩ := at_L4 HR0_0.out x3_2 p104 q104; obtain rfl : ad103 = ad104 := qa183; replace hx104_0 := (HB.out.cell (qL w _ hx104_0)).trans hx104_0; have HR104_0 := qO hi104_0; have HC104_0 := qO hl104_0; clear hi104_0 hl104_0; replace p104 := eq_true p104; replace q104 := eq_true q104; have ea_ := Option.some.inj (hx103_0.symm.trans hx104_0); injection ea_ with ea_ en_ ec_; subst ea_; subst ec_; clear en_; have p105 : 0 ≤ (x4_3 : Int) := qT qa1; have q105 : x4_3 < ((rd_L4 l0_0 x3_2).length : Int) := qT qa1; obtain ⟨ad105, e105, hx105_0, hx105_1⟩ := at_T43 HR104_0.out x4_3 p105 q105
                   cases e105
                   replace hx105_0 := (HB.out.cell (qL w _ hx105_0)).trans hx105_0; replace hx105_1 := (HB.out.cell (qL w _ hx105_1)).trans hx105_1; replace p105 := eq_true p105; replace q105 := eq_true q105
                   try go_wp2_with (first | ((with_reducible refine gate_dst (N := 5) rfl ?_); refine qX 5 #[.int .i64 0, .int .i64 0] 43 ?_; intro gb106 hg w24 hbox hb; have hx_ := qHX HB hb qa0; have BK106 := qO (hbox); have GW106 := qO ((qa9 : w.heap.size ≤ gb106)); have GE106 := GW106; have NB101_106 := qO ((qa15 : gb101 ≠ gb106)); have NB106_101 := qO (Ne.symm NB101_106.out); replace BK101 := qO (qB BK101.out hx_ hb); replace HB := qO (below_step (below_step HB.out hx_) hb); clear hx_ hb hbox hg; have hnb25 := NB106_101.out; have hnc25 := NB101_106.out; obtain ⟨hcz26_0, hcz26_1, hfz26_0, hfz26_1⟩ := qb2 BK106.out))
                   have n0_ : Aside0 (((w24.setCell ⟨gb106, 0, none⟩ (.int .i64 ((rd_T43 (rd_L4 l0_0 x3_2) x4_3).f0))).setCell ⟨gb106, 1, none⟩ (.int .i64 ((rd_T43 (rd_L4 l0_0 x3_2) x4_3).f1))).heap[gb101]? = some (.cells #[.slice (some ad103) l0_0.length c0_0, .int .i64 a0_1] 28 (0, 0))) := ⟨qa39⟩; have n1_ : Aside0 (((w24.setCell ⟨gb106, 0, none⟩ (.int .i64 ((rd_T43 (rd_L4 l0_0 x3_2) x4_3).f0))).setCell ⟨gb106, 1, none⟩ (.int .i64 ((rd_T43 (rd_L4 l0_0 x3_2) x4_3).f1))).heap[gb106]? = some (.cells #[.int .i64 ((rd_T43 (rd_L4 l0_0 x3_2) x4_3).f0), .int .i64 ((rd_T43 (rd_L4 l0_0 x3_2) x4_3).f1)] 43 (0, 0))) := ⟨qa35⟩; have n2_ : Aside0 (Below w.heap.size w ((w24.setCell ⟨gb106, 0, none⟩ (.int .i64 ((rd_T43 (rd_L4 l0_0 x3_2) x4_3).f0))).setCell ⟨gb106, 1, none⟩ (.int .i64 ((rd_T43 (rd_L4 l0_0 x3_2) x4_3).f1)))) := ⟨qa48⟩; (try clear BK101); (try clear BK106); (try clear HB); generalize ((w24.setCell ⟨gb106, 0, none⟩ (.int .i64 ((rd_T43 (rd_L4 l0_0 x3_2) x4_3).f0))).setCell ⟨gb106, 1, none⟩ (.int .i64 ((rd_T43 (rd_L4 l0_0 x3_2) x4_3).f1))) = w27 at n0_ n1_ n2_ ⊢; have BK101 := n0_; have BK106 := n1_; have HB := n2_; clear n0_ n1_ n2_; replace BK101 := qO (qkD BK101.out); replace BK106 := qO (qkD BK106.out); replace HB := qO (qbD HB.out); have p109 : 0 ≤ (x3_2 : Int) := qT qa1; have q109 : x3_2 < (l0_0.length : Int) := qT qa1; obtain ⟨ad109, A109_0, c109_0, e109, hx109_0, hl109_0, hi109_0⟩ := at_L4 HR0_0.out x3_2 p109 q109; have hw109_0 := hx109_0; obtain rfl : ad103 = ad109 := (by injection e109); replace hx109_0 := (HB.out.cell (qL w _ hx109_0)).trans hx109_0; have HR109_0 := qO hi109_0; have HC109_0 := qO hl109_0; clear hi109_0 hl109_0; replace p109 := eq_true p109; replace q109 := eq_true q109; have p110 : 0 ≤ ((ji19) : Int) := qT qa1; have q110 : (ji19) < ((rd_L4 l0_0 x3_2).length : Int) := qT qa1; obtain ⟨ad110, e110, hx110_0, hx110_1⟩ := at_T43 HR109_0.out (ji19) p110 q110; have hw110_1 := hx110_1; have hw110_0 := hx110_0
                   cases e110
                   replace hx110_0 := (HB.out.cell (qL w _ hx110_0)).trans hx110_0; replace hx110_1 := (HB.out.cell (qL w _ hx110_1)).trans hx110_1; replace p110 := eq_true p110; replace q110 := eq_true q110; refine start_ (n := 32) (S := fun w' => w'.cell? ⟨gb106, 0, none⟩ = some (.int .i64 ((rd_T43 (rd_L4 l0_0 x3_2) x4_3).f0)) ∧ w'.cell? ⟨gb106, 1, none⟩ = some (.int .i64 ((rd_T43 (rd_L4 l0_0 x3_2) x4_3).f1)) ∧ w'.cell? ⟨gb101, 0, none⟩ = some (.slice (some ad103) l0_0.length c0_0) ∧ w'.cell? ⟨gb101, 1, none⟩ = some (.int .i64 a0_1) ∧ w'.cell? (ad103.add (x3_2).toNat) = some (.slice (some ad110) (rd_L4 l0_0 x3_2).length c109_0) ∧ w'.cell? (ad110.add (((ji19)).toNat * 2)) = some (.int .i64 ((rd_T43 (rd_L4 l0_0 x3_2) (ji19)).f0)) ∧ w'.cell? ⟨(ad110.add (((ji19)).toNat * 2)).block, (ad110.add (((ji19)).toNat * 2)).off + 1, none⟩ = some (.int .i64 ((rd_T43 (rd_L4 l0_0 x3_2) (ji19)).f1))) (ds := []) spec_StoreOK.y0 qa5 rfl rfl ⟨qc0 BK106.out, qc1 BK106.out, qc0 BK101.out, qc1 BK101.out, ((HB.out.cell (qL w _ hw109_0)).trans hw109_0), ((HB.out.cell (qL w _ hw110_0)).trans hw110_0), ((HB.out.cell (qL w _ hw110_1)).trans hw110_1)⟩ (fun hHeld => ?_); refine with_tabW spec_StoreOK.tab10 spec_StoreOK.bits10 (fun HT_ HW_ => ?_); generalize w27.drew = w28 at BK101 BK106 HB HR109_0 hx109_0 hx110_0 hx110_1 hHeld ⊢; refine qPu 0 38 spec_StoreOK.y1 rfl rfl (any_of HT_.out qa5) qa8 qa2 ?_; refine qPu 2 40 spec_StoreOK.y2 rfl rfl (any_of HT_.out qa5) qa8 qa2 ?_; refine qTk 1 39 spec_StoreOK.y3 rfl rfl (take_ofW HT_.out HW_.out qa5) qa77 hHeld qa2 ?_; refine qTk 3 41 spec_StoreOK.y4 rfl rfl (take_ofW HT_.out HW_.out qa5) qa77 hHeld qa2 ?_; refine one_ (i := 4) (N := some 42) spec_StoreOK.y5 rfl rfl (one_of HT_.out qa5) qa51 (fun K hK => ?_); refine goes_ Try.func96 qa5 rfl #[.int .i64 ((rd_T43 (rd_L4 l0_0 x3_2) x4_3).f0), .int .i64 1, .int .i64 a0_1] (by rfl) rfl rfl qa3 ?_; (with_reducible refine (spec_l01In.calls ((rd_T43 (rd_L4 l0_0 x3_2) x4_3).f0) 1 a0_1 true _ A14.out).mono ?_); rintro e w' ⟨rfl, ⟨nd, rfl⟩⟩; refine ⟨_, rfl, ?_⟩; refine hK.out _ _ ⟨qc0 BK106.out, qc1 BK106.out, qc0 BK101.out, qc1 BK101.out, ((HB.out.cell (qL w _ hw109_0)).trans hw109_0), ((HB.out.cell (qL w _ hw110_0)).trans hw110_0), ((HB.out.cell (qL w _ hw110_1)).trans hw110_1)⟩ (fun hHeld => ?_); clear hK K; refine norm_ (a' := ?_) ?_ ?_; rotate_left
                   ·exact qa11
                   refine qPu 5 43 spec_StoreOK.y6 rfl rfl (any_of HT_.out qa5) qa8 qa2 ?_; refine qPu 6 44 spec_StoreOK.y7 rfl rfl (any_of HT_.out qa5) qa8 qa2 ?_; refine qPu 7 45 spec_StoreOK.y8 rfl rfl (any_of HT_.out qa5) qa8 qa2 ?_; refine qPu 8 46 spec_StoreOK.y9 rfl rfl (any_of HT_.out qa5) qa8 qa2 ?_; refine qTk 9 47 spec_StoreOK.y10 rfl rfl (take_ofW HT_.out HW_.out qa5) qa77 hHeld qa2 ?_; refine one_ (i := 10) (N := some 48) spec_StoreOK.y11 rfl rfl (one_of HT_.out qa5) qa51 (fun K hK => ?_); refine goes_ Try.func113 qa5 rfl #[.int .i64 x3_2, .int .i64 ((rd_T43 (rd_L4 l0_0 x3_2) x4_3).f1)] (by rfl) rfl rfl qa3 ?_; (with_reducible refine (spec_l06Value.calls x3_2 ((rd_T43 (rd_L4 l0_0 x3_2) x4_3).f1) true _ A16.out).mono ?_); rintro e w' ⟨rfl, ⟨nd, rfl⟩⟩; refine ⟨_, rfl, ?_⟩; refine hK.out _ _ ⟨qc0 BK106.out, qc1 BK106.out, qc0 BK101.out, qc1 BK101.out, ((HB.out.cell (qL w _ hw109_0)).trans hw109_0), ((HB.out.cell (qL w _ hw110_0)).trans hw110_0), ((HB.out.cell (qL w _ hw110_1)).trans hw110_1)⟩ (fun hHeld => ?_); clear hK K; refine norm_ (a' := ?_) ?_ ?_; rotate_left
                   ·exact qa11
                   refine qPu 11 49 spec_StoreOK.y12 rfl rfl (any_of HT_.out qa5) qa8 qa2 ?_; refine qPu 12 50 spec_StoreOK.y13 rfl rfl (any_of HT_.out qa5) qa8 qa2 ?_; refine qPu 13 51 spec_StoreOK.y14 rfl rfl (any_of HT_.out qa5) qa8 qa2 ?_; refine qPu 14 52 spec_StoreOK.y15 rfl rfl (any_of HT_.out qa5) qa8 qa2 ?_; refine qPu 15 53 spec_StoreOK.y16 rfl rfl (any_of HT_.out qa5) qa8 qa2 ?_; refine qPu 16 54 spec_StoreOK.y17 rfl rfl (any_of HT_.out qa5) qa8 qa2 ?_; refine qPu 17 55 spec_StoreOK.y18 rfl rfl (any_of HT_.out qa5) qa8 qa2 ?_; refine qPu 19 57 spec_StoreOK.y19 rfl rfl (any_of HT_.out qa5) qa8 qa2 ?_; refine qPu 22 60 spec_StoreOK.y20 rfl rfl (any_of HT_.out qa5) qa8 qa2 ?_; refine qPu 23 61 spec_StoreOK.y21 rfl rfl (any_of HT_.out qa5) qa8 qa2 ?_; refine qPu 27 65 spec_StoreOK.y22 rfl rfl (any_of HT_.out qa5) qa8 qa2 ?_; refine qTk 18 56 spec_StoreOK.y23 rfl rfl (take_ofW HT_.out HW_.out qa5) qa77 hHeld qa2 ?_; refine qPu 20 58 spec_StoreOK.y24 rfl rfl (any_of HT_.out qa5) qa8 qa2 ?_; refine qTk 21 59 spec_StoreOK.y25 rfl rfl (take_ofW HT_.out HW_.out qa5) qa77 hHeld qa2 ?_; refine qPu 24 62 spec_StoreOK.y26 rfl rfl (any_of HT_.out qa5) qa8 qa2 ?_; refine qPu 25 63 spec_StoreOK.y27 rfl rfl (any_of HT_.out qa5) qa8 qa2 ?_; refine qTk 26 64 spec_StoreOK.y28 rfl rfl (take_ofW HT_.out HW_.out qa5) qa77 hHeld qa2 ?_; refine qTk 28 66 spec_StoreOK.y29 rfl rfl (take_ofW HT_.out HW_.out qa5) qa77 hHeld qa2 ?_; refine qPu 29 67 spec_StoreOK.y30 rfl rfl (any_of HT_.out qa5) qa8 qa2 ?_; refine qPu 30 68 spec_StoreOK.y31 rfl rfl (any_of HT_.out qa5) qa8 qa2 ?_; refine qPu 31 69 spec_StoreOK.y32 rfl rfl (any_of HT_.out qa5) qa8 qa2 ?_; refine done_ (done_of HT_.out qa5) ?_
                   try go_wp2
                   go_ret
                   exact ⟨qa113, qa48⟩
                  ·rw [if_neg c22] at H
                   have c22b0 : decide (((rd_T43 (rd_L4 l0_0 x3_2) x4_3).f0) ≤ ((rd_T43 (rd_L4 l0_0 x3_2) (ji19)).f0)) = false := decide_eq_false c22; clear c22; have H' := qO H; clear H; obtain ⟨hcz29_0, hcz29_1, hfz29_0, hfz29_1⟩ := qb2 BK101.out; have p103 : 0 ≤ (x3_2 : Int) := qT qa1; have q103 : x3_2 < (l0_0.length : Int) := qT qa1; obtain ⟨ad103, A103_0, c103_0, e103, hx103_0, hl103_0, hi103_0⟩ := at_L4 HR0_0.out x3_2 p103 q103
                   cases e103
                   replace hx103_0 := (HB.out.cell (qL w _ hx103_0)).trans hx103_0; have HR103_0 := qO hi103_0; have HC103_0 := qO hl103_0; clear hi103_0 hl103_0; replace p103 := eq_true p103; replace q103 := eq_true q103; have p104 : 0 ≤ (x3_2 : Int) := qT qa1; have q104 : x3_2 < (l0_0.length : Int) := qT qa1; obtain ⟨ad104, A104_0, c104_0, e104, hx104_0, hl104_0, hi104_0⟩ := at_L4 HR0_0.out x3_2 p104 q104; obtain rfl : ad103 = ad104 := qa183; replace hx104_0 := (HB.out.cell (qL w _ hx104_0)).trans hx104_0; have HR104_0 := qO hi104_0; have HC104_0 := qO hl104_0; clear hi104_0 hl104_0; replace p104 := eq_true p104; replace q104 := eq_true q104; have ea_ := Option.some.inj (hx103_0.symm.trans hx104_0); injection ea_ with ea_ en_ ec_; subst ea_; subst ec_; clear en_; have p105 : 0 ≤ (x4_3 : Int) := qT qa1; have q105 : x4_3 < ((rd_L4 l0_0 x3_2).length : Int) := qT qa1; obtain ⟨ad105, e105, hx105_0, hx105_1⟩ := at_T43 HR104_0.out x4_3 p105 q105
                   cases e105
                   replace hx105_0 := (HB.out.cell (qL w _ hx105_0)).trans hx105_0; replace hx105_1 := (HB.out.cell (qL w _ hx105_1)).trans hx105_1; replace p105 := eq_true p105; replace q105 := eq_true q105
                   try go_wp2_with (first | ((with_reducible refine gate_dst (N := 5) rfl ?_); refine qX 5 #[.int .i64 0, .int .i64 0] 43 ?_; intro gb106 hg w30 hbox hb; have hx_ := qHX HB hb qa0; have BK106 := qO (hbox); have GW106 := qO ((qa9 : w.heap.size ≤ gb106)); have GE106 := GW106; have NB101_106 := qO ((qa15 : gb101 ≠ gb106)); have NB106_101 := qO (Ne.symm NB101_106.out); replace BK101 := qO (qB BK101.out hx_ hb); replace HB := qO (below_step (below_step HB.out hx_) hb); clear hx_ hb hbox hg; have hnb31 := NB106_101.out; have hnc31 := NB101_106.out; obtain ⟨hcz32_0, hcz32_1, hfz32_0, hfz32_1⟩ := qb2 BK106.out))
                   have n0_ : Aside0 (((w30.setCell ⟨gb106, 0, none⟩ (.int .i64 ((rd_T43 (rd_L4 l0_0 x3_2) x4_3).f0))).setCell ⟨gb106, 1, none⟩ (.int .i64 ((rd_T43 (rd_L4 l0_0 x3_2) x4_3).f1))).heap[gb101]? = some (.cells #[.slice (some ad103) l0_0.length c0_0, .int .i64 a0_1] 28 (0, 0))) := ⟨qa39⟩; have n1_ : Aside0 (((w30.setCell ⟨gb106, 0, none⟩ (.int .i64 ((rd_T43 (rd_L4 l0_0 x3_2) x4_3).f0))).setCell ⟨gb106, 1, none⟩ (.int .i64 ((rd_T43 (rd_L4 l0_0 x3_2) x4_3).f1))).heap[gb106]? = some (.cells #[.int .i64 ((rd_T43 (rd_L4 l0_0 x3_2) x4_3).f0), .int .i64 ((rd_T43 (rd_L4 l0_0 x3_2) x4_3).f1)] 43 (0, 0))) := ⟨qa35⟩; have n2_ : Aside0 (Below w.heap.size w ((w30.setCell ⟨gb106, 0, none⟩ (.int .i64 ((rd_T43 (rd_L4 l0_0 x3_2) x4_3).f0))).setCell ⟨gb106, 1, none⟩ (.int .i64 ((rd_T43 (rd_L4 l0_0 x3_2) x4_3).f1)))) := ⟨qa48⟩; (try clear BK101); (try clear BK106); (try clear HB); generalize ((w30.setCell ⟨gb106, 0, none⟩ (.int .i64 ((rd_T43 (rd_L4 l0_0 x3_2) x4_3).f0))).setCell ⟨gb106, 1, none⟩ (.int .i64 ((rd_T43 (rd_L4 l0_0 x3_2) x4_3).f1))) = w33 at n0_ n1_ n2_ ⊢; have BK101 := n0_; have BK106 := n1_; have HB := n2_; clear n0_ n1_ n2_; replace BK101 := qO (qkD BK101.out); replace BK106 := qO (qkD BK106.out); replace HB := qO (qbD HB.out); have p109 : 0 ≤ (x3_2 : Int) := qT qa1; have q109 : x3_2 < (l0_0.length : Int) := qT qa1; obtain ⟨ad109, A109_0, c109_0, e109, hx109_0, hl109_0, hi109_0⟩ := at_L4 HR0_0.out x3_2 p109 q109; have hw109_0 := hx109_0; obtain rfl : ad103 = ad109 := (by injection e109); replace hx109_0 := (HB.out.cell (qL w _ hx109_0)).trans hx109_0; have HR109_0 := qO hi109_0; have HC109_0 := qO hl109_0; clear hi109_0 hl109_0; replace p109 := eq_true p109; replace q109 := eq_true q109; have p110 : 0 ≤ ((ji19) : Int) := qT qa1; have q110 : (ji19) < ((rd_L4 l0_0 x3_2).length : Int) := qT qa1; obtain ⟨ad110, e110, hx110_0, hx110_1⟩ := at_T43 HR109_0.out (ji19) p110 q110; have hw110_1 := hx110_1; have hw110_0 := hx110_0
                   cases e110
                   replace hx110_0 := (HB.out.cell (qL w _ hx110_0)).trans hx110_0; replace hx110_1 := (HB.out.cell (qL w _ hx110_1)).trans hx110_1; replace p110 := eq_true p110; replace q110 := eq_true q110; refine start_ (n := 32) (S := fun w' => w'.cell? ⟨gb106, 0, none⟩ = some (.int .i64 ((rd_T43 (rd_L4 l0_0 x3_2) x4_3).f0)) ∧ w'.cell? ⟨gb106, 1, none⟩ = some (.int .i64 ((rd_T43 (rd_L4 l0_0 x3_2) x4_3).f1)) ∧ w'.cell? ⟨gb101, 0, none⟩ = some (.slice (some ad103) l0_0.length c0_0) ∧ w'.cell? ⟨gb101, 1, none⟩ = some (.int .i64 a0_1) ∧ w'.cell? (ad103.add (x3_2).toNat) = some (.slice (some ad110) (rd_L4 l0_0 x3_2).length c109_0) ∧ w'.cell? (ad110.add (((ji19)).toNat * 2)) = some (.int .i64 ((rd_T43 (rd_L4 l0_0 x3_2) (ji19)).f0)) ∧ w'.cell? ⟨(ad110.add (((ji19)).toNat * 2)).block, (ad110.add (((ji19)).toNat * 2)).off + 1, none⟩ = some (.int .i64 ((rd_T43 (rd_L4 l0_0 x3_2) (ji19)).f1))) (ds := []) spec_StoreOK.y0 qa5 rfl rfl ⟨qc0 BK106.out, qc1 BK106.out, qc0 BK101.out, qc1 BK101.out, ((HB.out.cell (qL w _ hw109_0)).trans hw109_0), ((HB.out.cell (qL w _ hw110_0)).trans hw110_0), ((HB.out.cell (qL w _ hw110_1)).trans hw110_1)⟩ (fun hHeld => ?_); refine with_tabW spec_StoreOK.tab10 spec_StoreOK.bits10 (fun HT_ HW_ => ?_); generalize w33.drew = w34 at BK101 BK106 HB HR109_0 hx109_0 hx110_0 hx110_1 hHeld ⊢; refine qPu 0 38 spec_StoreOK.y1 rfl rfl (any_of HT_.out qa5) qa8 qa2 ?_; refine qPu 2 40 spec_StoreOK.y2 rfl rfl (any_of HT_.out qa5) qa8 qa2 ?_; refine qTk 1 39 spec_StoreOK.y3 rfl rfl (take_ofW HT_.out HW_.out qa5) qa77 hHeld qa2 ?_; refine qTk 3 41 spec_StoreOK.y4 rfl rfl (take_ofW HT_.out HW_.out qa5) qa77 hHeld qa2 ?_; refine one_ (i := 4) (N := some 42) spec_StoreOK.y5 rfl rfl (one_of HT_.out qa5) qa51 (fun K hK => ?_); refine goes_ Try.func96 qa5 rfl #[.int .i64 ((rd_T43 (rd_L4 l0_0 x3_2) x4_3).f0), .int .i64 1, .int .i64 a0_1] (by rfl) rfl rfl qa3 ?_; (with_reducible refine (spec_l01In.calls ((rd_T43 (rd_L4 l0_0 x3_2) x4_3).f0) 1 a0_1 true _ A14.out).mono ?_); rintro e w' ⟨rfl, ⟨nd, rfl⟩⟩; refine ⟨_, rfl, ?_⟩; refine hK.out _ _ ⟨qc0 BK106.out, qc1 BK106.out, qc0 BK101.out, qc1 BK101.out, ((HB.out.cell (qL w _ hw109_0)).trans hw109_0), ((HB.out.cell (qL w _ hw110_0)).trans hw110_0), ((HB.out.cell (qL w _ hw110_1)).trans hw110_1)⟩ (fun hHeld => ?_); clear hK K; refine norm_ (a' := ?_) ?_ ?_; rotate_left
                   ·exact qa11
                   refine qPu 5 43 spec_StoreOK.y6 rfl rfl (any_of HT_.out qa5) qa8 qa2 ?_; refine qPu 6 44 spec_StoreOK.y7 rfl rfl (any_of HT_.out qa5) qa8 qa2 ?_; refine qPu 7 45 spec_StoreOK.y8 rfl rfl (any_of HT_.out qa5) qa8 qa2 ?_; refine qPu 8 46 spec_StoreOK.y9 rfl rfl (any_of HT_.out qa5) qa8 qa2 ?_; refine qTk 9 47 spec_StoreOK.y10 rfl rfl (take_ofW HT_.out HW_.out qa5) qa77 hHeld qa2 ?_; refine one_ (i := 10) (N := some 48) spec_StoreOK.y11 rfl rfl (one_of HT_.out qa5) qa51 (fun K hK => ?_); refine goes_ Try.func113 qa5 rfl #[.int .i64 x3_2, .int .i64 ((rd_T43 (rd_L4 l0_0 x3_2) x4_3).f1)] (by rfl) rfl rfl qa3 ?_; (with_reducible refine (spec_l06Value.calls x3_2 ((rd_T43 (rd_L4 l0_0 x3_2) x4_3).f1) true _ A16.out).mono ?_); rintro e w' ⟨rfl, ⟨nd, rfl⟩⟩; refine ⟨_, rfl, ?_⟩; refine hK.out _ _ ⟨qc0 BK106.out, qc1 BK106.out, qc0 BK101.out, qc1 BK101.out, ((HB.out.cell (qL w _ hw109_0)).trans hw109_0), ((HB.out.cell (qL w _ hw110_0)).trans hw110_0), ((HB.out.cell (qL w _ hw110_1)).trans hw110_1)⟩ (fun hHeld => ?_); clear hK K; refine norm_ (a' := ?_) ?_ ?_; rotate_left
                   ·exact qa11
                   refine qPu 11 49 spec_StoreOK.y12 rfl rfl (any_of HT_.out qa5) qa8 qa2 ?_; refine qPu 12 50 spec_StoreOK.y13 rfl rfl (any_of HT_.out qa5) qa8 qa2 ?_; refine qPu 13 51 spec_StoreOK.y14 rfl rfl (any_of HT_.out qa5) qa8 qa2 ?_; refine qPu 14 52 spec_StoreOK.y15 rfl rfl (any_of HT_.out qa5) qa8 qa2 ?_; refine qPu 15 53 spec_StoreOK.y16 rfl rfl (any_of HT_.out qa5) qa8 qa2 ?_; refine qPu 16 54 spec_StoreOK.y17 rfl rfl (any_of HT_.out qa5) qa8 qa2 ?_; refine qPu 17 55 spec_StoreOK.y18 rfl rfl (any_of HT_.out qa5) qa8 qa2 ?_; refine qPu 19 57 spec_StoreOK.y19 rfl rfl (any_of HT_.out qa5) qa8 qa2 ?_; refine qPu 22 60 spec_StoreOK.y20 rfl rfl (any_of HT_.out qa5) qa8 qa2 ?_; refine qPu 23 61 spec_StoreOK.y21 rfl rfl (any_of HT_.out qa5) qa8 qa2 ?_; refine qPu 27 65 spec_StoreOK.y22 rfl rfl (any_of HT_.out qa5) qa8 qa2 ?_; refine qTk 18 56 spec_StoreOK.y23 rfl rfl (take_ofW HT_.out HW_.out qa5) qa77 hHeld qa2 ?_; refine qPu 20 58 spec_StoreOK.y24 rfl rfl (any_of HT_.out qa5) qa8 qa2 ?_; refine qTk 21 59 spec_StoreOK.y25 rfl rfl (take_ofW HT_.out HW_.out qa5) qa77 hHeld qa2 ?_; refine qPu 24 62 spec_StoreOK.y26 rfl rfl (any_of HT_.out qa5) qa8 qa2 ?_; refine qPu 25 63 spec_StoreOK.y27 rfl rfl (any_of HT_.out qa5) qa8 qa2 ?_; refine qTk 26 64 spec_StoreOK.y28 rfl rfl (take_ofW HT_.out HW_.out qa5) qa77 hHeld qa2 ?_; refine qTk 28 66 spec_StoreOK.y29 rfl rfl (take_ofW HT_.out HW_.out qa5) qa77 hHeld qa2 ?_; refine qPu 29 67 spec_StoreOK.y30 rfl rfl (any_of HT_.out qa5) qa8 qa2 ?_; refine qPu 30 68 spec_StoreOK.y31 rfl rfl (any_of HT_.out qa5) qa8 qa2 ?_; refine qPu 31 69 spec_StoreOK.y32 rfl rfl (any_of HT_.out qa5) qa8 qa2 ?_; refine done_ (done_of HT_.out qa5) ?_
                   try go_wp2
                   go_roundg k3
                   case measure => have := HJ1.out; have := HK2.out; have := HK3.out; omega
                   case rel => exact ⟨(wrap64 (x4_3 + 1)), qa12, H', ⟨qa139⟩, ⟨qa17⟩, ⟨qa48⟩⟩
                 ·rw [if_neg c21] at H
                  exact absurd H qa117
                ·rw [if_neg c20] at H
                 exact absurd H qa117
               ·rw [if_neg c18] at H
                have c18b0 : decide (0 < x4_3) = false := decide_eq_false c18; clear c18; have H' := qO H; clear H; obtain ⟨hcz35_0, hcz35_1, hfz35_0, hfz35_1⟩ := qb2 BK101.out; have p103 : 0 ≤ (x3_2 : Int) := qT qa1; have q103 : x3_2 < (l0_0.length : Int) := qT qa1; obtain ⟨ad103, A103_0, c103_0, e103, hx103_0, hl103_0, hi103_0⟩ := at_L4 HR0_0.out x3_2 p103 q103
                cases e103
                replace hx103_0 := (HB.out.cell (qL w _ hx103_0)).trans hx103_0; have HR103_0 := qO hi103_0; have HC103_0 := qO hl103_0; clear hi103_0 hl103_0; replace p103 := eq_true p103; replace q103 := eq_true q103; have p104 : 0 ≤ (x3_2 : Int) := qT qa1; have q104 : x3_2 < (l0_0.length : Int) := qT qa1; obtain ⟨ad104, A104_0, c104_0, e104, hx104_0, hl104_0, hi104_0⟩ := at_L4 HR0_0.out x3_2 p104 q104; obtain rfl : ad103 = ad104 := qa183; replace hx104_0 := (HB.out.cell (qL w _ hx104_0)).trans hx104_0; have HR104_0 := qO hi104_0; have HC104_0 := qO hl104_0; clear hi104_0 hl104_0; replace p104 := eq_true p104; replace q104 := eq_true q104; have ea_ := Option.some.inj (hx103_0.symm.trans hx104_0); injection ea_ with ea_ en_ ec_; subst ea_; subst ec_; clear en_; have p105 : 0 ≤ (x4_3 : Int) := qT qa1; have q105 : x4_3 < ((rd_L4 l0_0 x3_2).length : Int) := qT qa1; obtain ⟨ad105, e105, hx105_0, hx105_1⟩ := at_T43 HR104_0.out x4_3 p105 q105
                cases e105
                replace hx105_0 := (HB.out.cell (qL w _ hx105_0)).trans hx105_0; replace hx105_1 := (HB.out.cell (qL w _ hx105_1)).trans hx105_1; replace p105 := eq_true p105; replace q105 := eq_true q105
                try go_wp2_with (first | ((with_reducible refine gate_dst (N := 5) rfl ?_); refine qX 5 #[.int .i64 0, .int .i64 0] 43 ?_; intro gb106 hg w36 hbox hb; have hx_ := qHX HB hb qa0; have BK106 := qO (hbox); have GW106 := qO ((qa9 : w.heap.size ≤ gb106)); have GE106 := GW106; have NB101_106 := qO ((qa15 : gb101 ≠ gb106)); have NB106_101 := qO (Ne.symm NB101_106.out); replace BK101 := qO (qB BK101.out hx_ hb); replace HB := qO (below_step (below_step HB.out hx_) hb); clear hx_ hb hbox hg; have hnb37 := NB106_101.out; have hnc37 := NB101_106.out; obtain ⟨hcz38_0, hcz38_1, hfz38_0, hfz38_1⟩ := qb2 BK106.out))
                have n0_ : Aside0 (((w36.setCell ⟨gb106, 0, none⟩ (.int .i64 ((rd_T43 (rd_L4 l0_0 x3_2) x4_3).f0))).setCell ⟨gb106, 1, none⟩ (.int .i64 ((rd_T43 (rd_L4 l0_0 x3_2) x4_3).f1))).heap[gb101]? = some (.cells #[.slice (some ad103) l0_0.length c0_0, .int .i64 a0_1] 28 (0, 0))) := ⟨qa39⟩; have n1_ : Aside0 (((w36.setCell ⟨gb106, 0, none⟩ (.int .i64 ((rd_T43 (rd_L4 l0_0 x3_2) x4_3).f0))).setCell ⟨gb106, 1, none⟩ (.int .i64 ((rd_T43 (rd_L4 l0_0 x3_2) x4_3).f1))).heap[gb106]? = some (.cells #[.int .i64 ((rd_T43 (rd_L4 l0_0 x3_2) x4_3).f0), .int .i64 ((rd_T43 (rd_L4 l0_0 x3_2) x4_3).f1)] 43 (0, 0))) := ⟨qa35⟩; have n2_ : Aside0 (Below w.heap.size w ((w36.setCell ⟨gb106, 0, none⟩ (.int .i64 ((rd_T43 (rd_L4 l0_0 x3_2) x4_3).f0))).setCell ⟨gb106, 1, none⟩ (.int .i64 ((rd_T43 (rd_L4 l0_0 x3_2) x4_3).f1)))) := ⟨qa48⟩; (try clear BK101); (try clear BK106); (try clear HB); generalize ((w36.setCell ⟨gb106, 0, none⟩ (.int .i64 ((rd_T43 (rd_L4 l0_0 x3_2) x4_3).f0))).setCell ⟨gb106, 1, none⟩ (.int .i64 ((rd_T43 (rd_L4 l0_0 x3_2) x4_3).f1))) = w39 at n0_ n1_ n2_ ⊢; have BK101 := n0_; have BK106 := n1_; have HB := n2_; clear n0_ n1_ n2_; replace BK101 := qO (qkD BK101.out); replace BK106 := qO (qkD BK106.out); replace HB := qO (qbD HB.out); refine start_ (n := 32) (S := fun w' => w'.cell? ⟨gb106, 0, none⟩ = some (.int .i64 ((rd_T43 (rd_L4 l0_0 x3_2) x4_3).f0)) ∧ w'.cell? ⟨gb106, 1, none⟩ = some (.int .i64 ((rd_T43 (rd_L4 l0_0 x3_2) x4_3).f1)) ∧ w'.cell? ⟨gb101, 0, none⟩ = some (.slice (some ad103) l0_0.length c0_0) ∧ w'.cell? ⟨gb101, 1, none⟩ = some (.int .i64 a0_1)) (ds := []) spec_StoreOK.y0 qa5 rfl rfl ⟨qc0 BK106.out, qc1 BK106.out, qc0 BK101.out, qc1 BK101.out⟩ (fun hHeld => ?_); refine with_tabW spec_StoreOK.tab10 spec_StoreOK.bits10 (fun HT_ HW_ => ?_); generalize w39.drew = w40 at BK101 BK106 HB hHeld ⊢; refine qPu 0 38 spec_StoreOK.y1 rfl rfl (any_of HT_.out qa5) qa8 qa2 ?_; refine qPu 2 40 spec_StoreOK.y2 rfl rfl (any_of HT_.out qa5) qa8 qa2 ?_; refine qTk 1 39 spec_StoreOK.y3 rfl rfl (take_ofW HT_.out HW_.out qa5) qa45 hHeld qa2 ?_; refine qTk 3 41 spec_StoreOK.y4 rfl rfl (take_ofW HT_.out HW_.out qa5) qa45 hHeld qa2 ?_; refine one_ (i := 4) (N := some 42) spec_StoreOK.y5 rfl rfl (one_of HT_.out qa5) qa51 (fun K hK => ?_); refine goes_ Try.func96 qa5 rfl #[.int .i64 ((rd_T43 (rd_L4 l0_0 x3_2) x4_3).f0), .int .i64 1, .int .i64 a0_1] (by rfl) rfl rfl qa3 ?_; (with_reducible refine (spec_l01In.calls ((rd_T43 (rd_L4 l0_0 x3_2) x4_3).f0) 1 a0_1 true _ A14.out).mono ?_); rintro e w' ⟨rfl, ⟨nd, rfl⟩⟩; refine ⟨_, rfl, ?_⟩; refine hK.out _ _ ⟨qc0 BK106.out, qc1 BK106.out, qc0 BK101.out, qc1 BK101.out⟩ (fun hHeld => ?_); clear hK K; refine norm_ (a' := ?_) ?_ ?_; rotate_left
                ·exact qa11
                refine qPu 5 43 spec_StoreOK.y6 rfl rfl (any_of HT_.out qa5) qa8 qa2 ?_; refine qPu 6 44 spec_StoreOK.y7 rfl rfl (any_of HT_.out qa5) qa8 qa2 ?_; refine qPu 7 45 spec_StoreOK.y8 rfl rfl (any_of HT_.out qa5) qa8 qa2 ?_; refine qPu 8 46 spec_StoreOK.y9 rfl rfl (any_of HT_.out qa5) qa8 qa2 ?_; refine qTk 9 47 spec_StoreOK.y10 rfl rfl (take_ofW HT_.out HW_.out qa5) qa45 hHeld qa2 ?_; refine one_ (i := 10) (N := some 48) spec_StoreOK.y11 rfl rfl (one_of HT_.out qa5) qa51 (fun K hK => ?_); refine goes_ Try.func113 qa5 rfl #[.int .i64 x3_2, .int .i64 ((rd_T43 (rd_L4 l0_0 x3_2) x4_3).f1)] (by rfl) rfl rfl qa3 ?_; (with_reducible refine (spec_l06Value.calls x3_2 ((rd_T43 (rd_L4 l0_0 x3_2) x4_3).f1) true _ A16.out).mono ?_); rintro e w' ⟨rfl, ⟨nd, rfl⟩⟩; refine ⟨_, rfl, ?_⟩; refine hK.out _ _ ⟨qc0 BK106.out, qc1 BK106.out, qc0 BK101.out, qc1 BK101.out⟩ (fun hHeld => ?_); clear hK K; refine norm_ (a' := ?_) ?_ ?_; rotate_left
                ·exact qa11
                refine qPu 11 49 spec_StoreOK.y12 rfl rfl (any_of HT_.out qa5) qa8 qa2 ?_; refine qPu 12 50 spec_StoreOK.y13 rfl rfl (any_of HT_.out qa5) qa8 qa2 ?_; refine qPu 13 51 spec_StoreOK.y14 rfl rfl (any_of HT_.out qa5) qa8 qa2 ?_; refine qPu 14 52 spec_StoreOK.y15 rfl rfl (any_of HT_.out qa5) qa8 qa2 ?_; refine qPu 15 53 spec_StoreOK.y16 rfl rfl (any_of HT_.out qa5) qa8 qa2 ?_; refine qPu 16 54 spec_StoreOK.y17 rfl rfl (any_of HT_.out qa5) qa8 qa2 ?_; refine pure_ (i := 17) (N := some 55) (v := undef) (a' := ?_) spec_StoreOK.y18 rfl rfl (any_of HT_.out qa5) (fun _ _ _ h => h) (Or.inr ⟨by rfl, rfl⟩) ?_ ?_; rotate_left
                ·simp only [Act.put, qzA, qzB, qzC, i64_w, i32_w]
                 rfl
                refine pure_ (i := 18) (N := some 56) (v := undef) (a' := ?_) spec_StoreOK.y33 rfl rfl (any_of HT_.out qa5) (fun _ _ _ h => h) (Or.inr ⟨by rfl, rfl⟩) ?_ ?_; rotate_left
                ·simp only [Act.put, qzA, qzB, qzC, i64_w, i32_w]
                 rfl
                refine pure_ (i := 19) (N := some 57) (v := undef) (a' := ?_) spec_StoreOK.y34 rfl rfl (any_of HT_.out qa5) (fun _ _ _ h => h) (Or.inr ⟨by rfl, rfl⟩) ?_ ?_; rotate_left
                ·simp only [Act.put, qzA, qzB, qzC, i64_w, i32_w]
                 rfl
                refine pure_ (i := 20) (N := some 58) (v := undef) (a' := ?_) spec_StoreOK.y35 rfl rfl (any_of HT_.out qa5) (fun _ _ _ h => h) (Or.inr ⟨by rfl, rfl⟩) ?_ ?_; rotate_left
                ·simp only [Act.put, qzA, qzB, qzC, i64_w, i32_w]
                 rfl
                refine pure_ (i := 21) (N := some 59) (v := undef) (a' := ?_) spec_StoreOK.y36 rfl rfl (any_of HT_.out qa5) (fun _ _ _ h => h) (Or.inr ⟨by rfl, rfl⟩) ?_ ?_; rotate_left
                ·simp only [Act.put, qzA, qzB, qzC, i64_w, i32_w]
                 rfl
                refine pure_ (i := 22) (N := some 60) (v := undef) (a' := ?_) spec_StoreOK.y37 rfl rfl (any_of HT_.out qa5) (fun _ _ _ h => h) (Or.inr ⟨by rfl, rfl⟩) ?_ ?_; rotate_left
                ·simp only [Act.put, qzA, qzB, qzC, i64_w, i32_w]
                 rfl
                refine pure_ (i := 23) (N := some 61) (v := undef) (a' := ?_) spec_StoreOK.y38 rfl rfl (any_of HT_.out qa5) (fun _ _ _ h => h) (Or.inr ⟨by rfl, rfl⟩) ?_ ?_; rotate_left
                ·simp only [Act.put, qzA, qzB, qzC, i64_w, i32_w]
                 rfl
                refine pure_ (i := 24) (N := some 62) (v := undef) (a' := ?_) spec_StoreOK.y39 rfl rfl (any_of HT_.out qa5) (fun _ _ _ h => h) (Or.inr ⟨by rfl, rfl⟩) ?_ ?_; rotate_left
                ·simp only [Act.put, qzA, qzB, qzC, i64_w, i32_w]
                 rfl
                refine pure_ (i := 25) (N := some 63) (v := undef) (a' := ?_) spec_StoreOK.y40 rfl rfl (any_of HT_.out qa5) (fun _ _ _ h => h) (Or.inr ⟨by rfl, rfl⟩) ?_ ?_; rotate_left
                ·simp only [Act.put, qzA, qzB, qzC, i64_w, i32_w]
                 rfl
                refine pure_ (i := 26) (N := some 64) (v := undef) (a' := ?_) spec_StoreOK.y41 rfl rfl (any_of HT_.out qa5) (fun _ _ _ h => h) (Or.inr ⟨by rfl, rfl⟩) ?_ ?_; rotate_left
                ·simp only [Act.put, qzA, qzB, qzC, i64_w, i32_w]
                 rfl
                refine pure_ (i := 27) (N := some 65) (v := undef) (a' := ?_) spec_StoreOK.y28 rfl rfl (any_of HT_.out qa5) (fun _ _ _ h => h) (Or.inr ⟨by rfl, rfl⟩) ?_ ?_; rotate_left
                ·simp only [Act.put, qzA, qzB, qzC, i64_w, i32_w]
                 rfl
                refine pure_ (i := 28) (N := some 66) (v := undef) (a' := ?_) spec_StoreOK.y29 rfl rfl (any_of HT_.out qa5) (fun _ _ _ h => h) (Or.inr ⟨by rfl, rfl⟩) ?_ ?_; rotate_left
                ·simp only [Act.put, qzA, qzB, qzC, i64_w, i32_w]
                 rfl
                refine pure_ (i := 29) (N := some 67) (v := undef) (a' := ?_) spec_StoreOK.y30 rfl rfl (any_of HT_.out qa5) (fun _ _ _ h => h) (Or.inr ⟨by rfl, rfl⟩) ?_ ?_; rotate_left
                ·simp only [Act.put, qzA, qzB, qzC, i64_w, i32_w]
                 rfl
                refine qPu 30 68 spec_StoreOK.y31 rfl rfl (any_of HT_.out qa5) qa8 qa2 ?_; refine qPu 31 69 spec_StoreOK.y32 rfl rfl (any_of HT_.out qa5) qa8 qa2 ?_; refine done_ (done_of HT_.out qa5) ?_
                try go_wp2
                go_roundg k3
                case measure => have := HJ1.out; have := HK2.out; have := HK3.out; omega
                case rel => exact ⟨(wrap64 (x4_3 + 1)), qa12, H', ⟨qa139⟩, ⟨qa17⟩, ⟨qa48⟩⟩
              ·replace c17 := Bool.eq_false_iff.mpr c17
               subst c17; have H1 : (some false) = some r := by rw [if_neg (show ¬ (false = true) by decide)] at H; exact H
               clear H; have H := H1; clear H1; obtain rfl := Option.some.inj H; obtain ⟨hcz41_0, hcz41_1, hfz41_0, hfz41_1⟩ := qb2 BK101.out; have p103 : 0 ≤ (x3_2 : Int) := qT qa1; have q103 : x3_2 < (l0_0.length : Int) := qT qa1; obtain ⟨ad103, A103_0, c103_0, e103, hx103_0, hl103_0, hi103_0⟩ := at_L4 HR0_0.out x3_2 p103 q103
               cases e103
               replace hx103_0 := (HB.out.cell (qL w _ hx103_0)).trans hx103_0; have HR103_0 := qO hi103_0; have HC103_0 := qO hl103_0; clear hi103_0 hl103_0; replace p103 := eq_true p103; replace q103 := eq_true q103; have p104 : 0 ≤ (x3_2 : Int) := qT qa1; have q104 : x3_2 < (l0_0.length : Int) := qT qa1; obtain ⟨ad104, A104_0, c104_0, e104, hx104_0, hl104_0, hi104_0⟩ := at_L4 HR0_0.out x3_2 p104 q104; obtain rfl : ad103 = ad104 := qa183; replace hx104_0 := (HB.out.cell (qL w _ hx104_0)).trans hx104_0; have HR104_0 := qO hi104_0; have HC104_0 := qO hl104_0; clear hi104_0 hl104_0; replace p104 := eq_true p104; replace q104 := eq_true q104; have ea_ := Option.some.inj (hx103_0.symm.trans hx104_0); injection ea_ with ea_ en_ ec_; subst ea_; subst ec_; clear en_; have p105 : 0 ≤ (x4_3 : Int) := qT qa1; have q105 : x4_3 < ((rd_L4 l0_0 x3_2).length : Int) := qT qa1; obtain ⟨ad105, e105, hx105_0, hx105_1⟩ := at_T43 HR104_0.out x4_3 p105 q105
               cases e105
               replace hx105_0 := (HB.out.cell (qL w _ hx105_0)).trans hx105_0; replace hx105_1 := (HB.out.cell (qL w _ hx105_1)).trans hx105_1; replace p105 := eq_true p105; replace q105 := eq_true q105
               try go_wp2_with (first | ((with_reducible refine gate_dst (N := 5) rfl ?_); refine qX 5 #[.int .i64 0, .int .i64 0] 43 ?_; intro gb106 hg w42 hbox hb; have hx_ := qHX HB hb qa0; have BK106 := qO (hbox); have GW106 := qO ((qa9 : w.heap.size ≤ gb106)); have GE106 := GW106; have NB101_106 := qO ((qa15 : gb101 ≠ gb106)); have NB106_101 := qO (Ne.symm NB101_106.out); replace BK101 := qO (qB BK101.out hx_ hb); replace HB := qO (below_step (below_step HB.out hx_) hb); clear hx_ hb hbox hg; have hnb43 := NB106_101.out; have hnc43 := NB101_106.out; obtain ⟨hcz44_0, hcz44_1, hfz44_0, hfz44_1⟩ := qb2 BK106.out))
               have n0_ : Aside0 (((w42.setCell ⟨gb106, 0, none⟩ (.int .i64 ((rd_T43 (rd_L4 l0_0 x3_2) x4_3).f0))).setCell ⟨gb106, 1, none⟩ (.int .i64 ((rd_T43 (rd_L4 l0_0 x3_2) x4_3).f1))).heap[gb101]? = some (.cells #[.slice (some ad103) l0_0.length c0_0, .int .i64 a0_1] 28 (0, 0))) := ⟨qa39⟩; have n1_ : Aside0 (((w42.setCell ⟨gb106, 0, none⟩ (.int .i64 ((rd_T43 (rd_L4 l0_0 x3_2) x4_3).f0))).setCell ⟨gb106, 1, none⟩ (.int .i64 ((rd_T43 (rd_L4 l0_0 x3_2) x4_3).f1))).heap[gb106]? = some (.cells #[.int .i64 ((rd_T43 (rd_L4 l0_0 x3_2) x4_3).f0), .int .i64 ((rd_T43 (rd_L4 l0_0 x3_2) x4_3).f1)] 43 (0, 0))) := ⟨qa35⟩; have n2_ : Aside0 (Below w.heap.size w ((w42.setCell ⟨gb106, 0, none⟩ (.int .i64 ((rd_T43 (rd_L4 l0_0 x3_2) x4_3).f0))).setCell ⟨gb106, 1, none⟩ (.int .i64 ((rd_T43 (rd_L4 l0_0 x3_2) x4_3).f1)))) := ⟨qa48⟩; (try clear BK101); (try clear BK106); (try clear HB); generalize ((w42.setCell ⟨gb106, 0, none⟩ (.int .i64 ((rd_T43 (rd_L4 l0_0 x3_2) x4_3).f0))).setCell ⟨gb106, 1, none⟩ (.int .i64 ((rd_T43 (rd_L4 l0_0 x3_2) x4_3).f1))) = w45 at n0_ n1_ n2_ ⊢; have BK101 := n0_; have BK106 := n1_; have HB := n2_; clear n0_ n1_ n2_; replace BK101 := qO (qkD BK101.out); replace BK106 := qO (qkD BK106.out); replace HB := qO (qbD HB.out); refine start_ (n := 32) (S := fun w' => w'.cell? ⟨gb106, 0, none⟩ = some (.int .i64 ((rd_T43 (rd_L4 l0_0 x3_2) x4_3).f0)) ∧ w'.cell? ⟨gb106, 1, none⟩ = some (.int .i64 ((rd_T43 (rd_L4 l0_0 x3_2) x4_3).f1)) ∧ w'.cell? ⟨gb101, 0, none⟩ = some (.slice (some ad103) l0_0.length c0_0) ∧ w'.cell? ⟨gb101, 1, none⟩ = some (.int .i64 a0_1)) (ds := []) spec_StoreOK.y0 qa5 rfl rfl ⟨qc0 BK106.out, qc1 BK106.out, qc0 BK101.out, qc1 BK101.out⟩ (fun hHeld => ?_); refine with_tabW spec_StoreOK.tab10 spec_StoreOK.bits10 (fun HT_ HW_ => ?_); generalize w45.drew = w46 at BK101 BK106 HB hHeld ⊢; refine qPu 0 38 spec_StoreOK.y1 rfl rfl (any_of HT_.out qa5) qa8 qa2 ?_; refine qPu 2 40 spec_StoreOK.y2 rfl rfl (any_of HT_.out qa5) qa8 qa2 ?_; refine qTk 1 39 spec_StoreOK.y3 rfl rfl (take_ofW HT_.out HW_.out qa5) qa45 hHeld qa2 ?_; refine qTk 3 41 spec_StoreOK.y4 rfl rfl (take_ofW HT_.out HW_.out qa5) qa45 hHeld qa2 ?_; refine one_ (i := 4) (N := some 42) spec_StoreOK.y5 rfl rfl (one_of HT_.out qa5) qa51 (fun K hK => ?_); refine goes_ Try.func96 qa5 rfl #[.int .i64 ((rd_T43 (rd_L4 l0_0 x3_2) x4_3).f0), .int .i64 1, .int .i64 a0_1] (by rfl) rfl rfl qa3 ?_; (with_reducible refine (spec_l01In.calls ((rd_T43 (rd_L4 l0_0 x3_2) x4_3).f0) 1 a0_1 true _ A14.out).mono ?_); rintro e w' ⟨rfl, ⟨nd, rfl⟩⟩; refine ⟨_, rfl, ?_⟩; refine hK.out _ _ ⟨qc0 BK106.out, qc1 BK106.out, qc0 BK101.out, qc1 BK101.out⟩ (fun hHeld => ?_); clear hK K; refine norm_ (a' := ?_) ?_ ?_; rotate_left
               ·exact qa11
               refine qPu 5 43 spec_StoreOK.y6 rfl rfl (any_of HT_.out qa5) qa8 qa2 ?_; refine qPu 6 44 spec_StoreOK.y7 rfl rfl (any_of HT_.out qa5) qa8 qa2 ?_; refine qPu 7 45 spec_StoreOK.y8 rfl rfl (any_of HT_.out qa5) qa8 qa2 ?_; refine qPu 8 46 spec_StoreOK.y9 rfl rfl (any_of HT_.out qa5) qa8 qa2 ?_; refine qTk 9 47 spec_StoreOK.y10 rfl rfl (take_ofW HT_.out HW_.out qa5) qa45 hHeld qa2 ?_; refine one_ (i := 10) (N := some 48) spec_StoreOK.y11 rfl rfl (one_of HT_.out qa5) qa51 (fun K hK => ?_); refine goes_ Try.func113 qa5 rfl #[.int .i64 x3_2, .int .i64 ((rd_T43 (rd_L4 l0_0 x3_2) x4_3).f1)] (by rfl) rfl rfl qa3 ?_; (with_reducible refine (spec_l06Value.calls x3_2 ((rd_T43 (rd_L4 l0_0 x3_2) x4_3).f1) false _ A16.out).mono ?_); rintro e w' ⟨rfl, ⟨nd, rfl⟩⟩; refine ⟨_, rfl, ?_⟩; refine hK.out _ _ ⟨qc0 BK106.out, qc1 BK106.out, qc0 BK101.out, qc1 BK101.out⟩ (fun hHeld => ?_); clear hK K; refine norm_ (a' := ?_) ?_ ?_; rotate_left
               ·exact qa11
               refine qPu 11 49 spec_StoreOK.y12 rfl rfl (any_of HT_.out qa5) qa8 qa2 ?_; refine qPu 12 50 spec_StoreOK.y13 rfl rfl (any_of HT_.out qa5) qa8 qa2 ?_; refine qPu 13 51 spec_StoreOK.y14 rfl rfl (any_of HT_.out qa5) qa8 qa2 ?_; refine pure_ (i := 14) (N := some 52) (v := undef) (a' := ?_) spec_StoreOK.y15 rfl rfl (any_of HT_.out qa5) (fun _ _ _ h => h) (Or.inr ⟨by rfl, rfl⟩) ?_ ?_; rotate_left
               ·simp only [Act.put, qzA, qzB, qzC, i64_w, i32_w]
                rfl
               refine pure_ (i := 15) (N := some 53) (v := undef) (a' := ?_) spec_StoreOK.y16 rfl rfl (any_of HT_.out qa5) (fun _ _ _ h => h) (Or.inr ⟨by rfl, rfl⟩) ?_ ?_; rotate_left
               ·simp only [Act.put, qzA, qzB, qzC, i64_w, i32_w]
                rfl
               refine pure_ (i := 16) (N := some 54) (v := undef) (a' := ?_) spec_StoreOK.y17 rfl rfl (any_of HT_.out qa5) (fun _ _ _ h => h) (Or.inr ⟨by rfl, rfl⟩) ?_ ?_; rotate_left
               ·simp only [Act.put, qzA, qzB, qzC, i64_w, i32_w]
                rfl
               refine pure_ (i := 17) (N := some 55) (v := undef) (a' := ?_) spec_StoreOK.y18 rfl rfl (any_of HT_.out qa5) (fun _ _ _ h => h) (Or.inr ⟨by rfl, rfl⟩) ?_ ?_; rotate_left
               ·simp only [Act.put, qzA, qzB, qzC, i64_w, i32_w]
                rfl
               refine pure_ (i := 18) (N := some 56) (v := undef) (a' := ?_) spec_StoreOK.y33 rfl rfl (any_of HT_.out qa5) (fun _ _ _ h => h) (Or.inr ⟨by rfl, rfl⟩) ?_ ?_; rotate_left
               ·simp only [Act.put, qzA, qzB, qzC, i64_w, i32_w]
                rfl
               refine pure_ (i := 19) (N := some 57) (v := undef) (a' := ?_) spec_StoreOK.y34 rfl rfl (any_of HT_.out qa5) (fun _ _ _ h => h) (Or.inr ⟨by rfl, rfl⟩) ?_ ?_; rotate_left
               ·simp only [Act.put, qzA, qzB, qzC, i64_w, i32_w]
                rfl
               refine pure_ (i := 20) (N := some 58) (v := undef) (a' := ?_) spec_StoreOK.y35 rfl rfl (any_of HT_.out qa5) (fun _ _ _ h => h) (Or.inr ⟨by rfl, rfl⟩) ?_ ?_; rotate_left
               ·simp only [Act.put, qzA, qzB, qzC, i64_w, i32_w]
                rfl
               refine pure_ (i := 21) (N := some 59) (v := undef) (a' := ?_) spec_StoreOK.y36 rfl rfl (any_of HT_.out qa5) (fun _ _ _ h => h) (Or.inr ⟨by rfl, rfl⟩) ?_ ?_; rotate_left
               ·simp only [Act.put, qzA, qzB, qzC, i64_w, i32_w]
                rfl
               refine pure_ (i := 22) (N := some 60) (v := undef) (a' := ?_) spec_StoreOK.y37 rfl rfl (any_of HT_.out qa5) (fun _ _ _ h => h) (Or.inr ⟨by rfl, rfl⟩) ?_ ?_; rotate_left
               ·simp only [Act.put, qzA, qzB, qzC, i64_w, i32_w]
                rfl
               refine pure_ (i := 23) (N := some 61) (v := undef) (a' := ?_) spec_StoreOK.y38 rfl rfl (any_of HT_.out qa5) (fun _ _ _ h => h) (Or.inr ⟨by rfl, rfl⟩) ?_ ?_; rotate_left
               ·simp only [Act.put, qzA, qzB, qzC, i64_w, i32_w]
                rfl
               refine pure_ (i := 24) (N := some 62) (v := undef) (a' := ?_) spec_StoreOK.y39 rfl rfl (any_of HT_.out qa5) (fun _ _ _ h => h) (Or.inr ⟨by rfl, rfl⟩) ?_ ?_; rotate_left
               ·simp only [Act.put, qzA, qzB, qzC, i64_w, i32_w]
                rfl
               refine pure_ (i := 25) (N := some 63) (v := undef) (a' := ?_) spec_StoreOK.y40 rfl rfl (any_of HT_.out qa5) (fun _ _ _ h => h) (Or.inr ⟨by rfl, rfl⟩) ?_ ?_; rotate_left
               ·simp only [Act.put, qzA, qzB, qzC, i64_w, i32_w]
                rfl
               refine pure_ (i := 26) (N := some 64) (v := undef) (a' := ?_) spec_StoreOK.y41 rfl rfl (any_of HT_.out qa5) (fun _ _ _ h => h) (Or.inr ⟨by rfl, rfl⟩) ?_ ?_; rotate_left
               ·simp only [Act.put, qzA, qzB, qzC, i64_w, i32_w]
                rfl
               refine pure_ (i := 27) (N := some 65) (v := undef) (a' := ?_) spec_StoreOK.y28 rfl rfl (any_of HT_.out qa5) (fun _ _ _ h => h) (Or.inr ⟨by rfl, rfl⟩) ?_ ?_; rotate_left
               ·simp only [Act.put, qzA, qzB, qzC, i64_w, i32_w]
                rfl
               refine pure_ (i := 28) (N := some 66) (v := undef) (a' := ?_) spec_StoreOK.y29 rfl rfl (any_of HT_.out qa5) (fun _ _ _ h => h) (Or.inr ⟨by rfl, rfl⟩) ?_ ?_; rotate_left
               ·simp only [Act.put, qzA, qzB, qzC, i64_w, i32_w]
                rfl
               refine pure_ (i := 29) (N := some 67) (v := undef) (a' := ?_) spec_StoreOK.y30 rfl rfl (any_of HT_.out qa5) (fun _ _ _ h => h) (Or.inr ⟨by rfl, rfl⟩) ?_ ?_; rotate_left
               ·simp only [Act.put, qzA, qzB, qzC, i64_w, i32_w]
                rfl
               refine pure_ (i := 30) (N := some 68) (v := undef) (a' := ?_) spec_StoreOK.y31 rfl rfl (any_of HT_.out qa5) (fun _ _ _ h => h) (Or.inr ⟨by rfl, rfl⟩) ?_ ?_; rotate_left
               ·simp only [Act.put, qzA, qzB, qzC, i64_w, i32_w]
                rfl
               refine qPu 31 69 spec_StoreOK.y32 rfl rfl (any_of HT_.out qa5) qa8 qa2 ?_; refine done_ (done_of HT_.out qa5) ?_
               try go_wp2
               go_ret
               exact ⟨qa7, qa48⟩
             ·replace c15 := Bool.eq_false_iff.mpr c15
              subst c15; have H1 : (some false) = some r := by rw [if_neg (show ¬ (false = true) by decide)] at H; exact H
              clear H; have H := H1; clear H1; obtain rfl := Option.some.inj H; obtain ⟨hcz47_0, hcz47_1, hfz47_0, hfz47_1⟩ := qb2 BK101.out; have p103 : 0 ≤ (x3_2 : Int) := qT qa1; have q103 : x3_2 < (l0_0.length : Int) := qT qa1; obtain ⟨ad103, A103_0, c103_0, e103, hx103_0, hl103_0, hi103_0⟩ := at_L4 HR0_0.out x3_2 p103 q103
              cases e103
              replace hx103_0 := (HB.out.cell (qL w _ hx103_0)).trans hx103_0; have HR103_0 := qO hi103_0; have HC103_0 := qO hl103_0; clear hi103_0 hl103_0; replace p103 := eq_true p103; replace q103 := eq_true q103; have p104 : 0 ≤ (x3_2 : Int) := qT qa1; have q104 : x3_2 < (l0_0.length : Int) := qT qa1; obtain ⟨ad104, A104_0, c104_0, e104, hx104_0, hl104_0, hi104_0⟩ := at_L4 HR0_0.out x3_2 p104 q104; obtain rfl : ad103 = ad104 := qa183; replace hx104_0 := (HB.out.cell (qL w _ hx104_0)).trans hx104_0; have HR104_0 := qO hi104_0; have HC104_0 := qO hl104_0; clear hi104_0 hl104_0; replace p104 := eq_true p104; replace q104 := eq_true q104; have ea_ := Option.some.inj (hx103_0.symm.trans hx104_0); injection ea_ with ea_ en_ ec_; subst ea_; subst ec_; clear en_; have p105 : 0 ≤ (x4_3 : Int) := qT qa1; have q105 : x4_3 < ((rd_L4 l0_0 x3_2).length : Int) := qT qa1; obtain ⟨ad105, e105, hx105_0, hx105_1⟩ := at_T43 HR104_0.out x4_3 p105 q105
              cases e105
              replace hx105_0 := (HB.out.cell (qL w _ hx105_0)).trans hx105_0; replace hx105_1 := (HB.out.cell (qL w _ hx105_1)).trans hx105_1; replace p105 := eq_true p105; replace q105 := eq_true q105
              try go_wp2_with (first | ((with_reducible refine gate_dst (N := 5) rfl ?_); refine qX 5 #[.int .i64 0, .int .i64 0] 43 ?_; intro gb106 hg w48 hbox hb; have hx_ := qHX HB hb qa0; have BK106 := qO (hbox); have GW106 := qO ((qa9 : w.heap.size ≤ gb106)); have GE106 := GW106; have NB101_106 := qO ((qa15 : gb101 ≠ gb106)); have NB106_101 := qO (Ne.symm NB101_106.out); replace BK101 := qO (qB BK101.out hx_ hb); replace HB := qO (below_step (below_step HB.out hx_) hb); clear hx_ hb hbox hg; have hnb49 := NB106_101.out; have hnc49 := NB101_106.out; obtain ⟨hcz50_0, hcz50_1, hfz50_0, hfz50_1⟩ := qb2 BK106.out))
              have n0_ : Aside0 (((w48.setCell ⟨gb106, 0, none⟩ (.int .i64 ((rd_T43 (rd_L4 l0_0 x3_2) x4_3).f0))).setCell ⟨gb106, 1, none⟩ (.int .i64 ((rd_T43 (rd_L4 l0_0 x3_2) x4_3).f1))).heap[gb101]? = some (.cells #[.slice (some ad103) l0_0.length c0_0, .int .i64 a0_1] 28 (0, 0))) := ⟨qa39⟩; have n1_ : Aside0 (((w48.setCell ⟨gb106, 0, none⟩ (.int .i64 ((rd_T43 (rd_L4 l0_0 x3_2) x4_3).f0))).setCell ⟨gb106, 1, none⟩ (.int .i64 ((rd_T43 (rd_L4 l0_0 x3_2) x4_3).f1))).heap[gb106]? = some (.cells #[.int .i64 ((rd_T43 (rd_L4 l0_0 x3_2) x4_3).f0), .int .i64 ((rd_T43 (rd_L4 l0_0 x3_2) x4_3).f1)] 43 (0, 0))) := ⟨qa35⟩; have n2_ : Aside0 (Below w.heap.size w ((w48.setCell ⟨gb106, 0, none⟩ (.int .i64 ((rd_T43 (rd_L4 l0_0 x3_2) x4_3).f0))).setCell ⟨gb106, 1, none⟩ (.int .i64 ((rd_T43 (rd_L4 l0_0 x3_2) x4_3).f1)))) := ⟨qa48⟩; (try clear BK101); (try clear BK106); (try clear HB); generalize ((w48.setCell ⟨gb106, 0, none⟩ (.int .i64 ((rd_T43 (rd_L4 l0_0 x3_2) x4_3).f0))).setCell ⟨gb106, 1, none⟩ (.int .i64 ((rd_T43 (rd_L4 l0_0 x3_2) x4_3).f1))) = w51 at n0_ n1_ n2_ ⊢; have BK101 := n0_; have BK106 := n1_; have HB := n2_; clear n0_ n1_ n2_; replace BK101 := qO (qkD BK101.out); replace BK106 := qO (qkD BK106.out); replace HB := qO (qbD HB.out); refine start_ (n := 32) (S := fun w' => w'.cell? ⟨gb106, 0, none⟩ = some (.int .i64 ((rd_T43 (rd_L4 l0_0 x3_2) x4_3).f0)) ∧ w'.cell? ⟨gb106, 1, none⟩ = some (.int .i64 ((rd_T43 (rd_L4 l0_0 x3_2) x4_3).f1)) ∧ w'.cell? ⟨gb101, 0, none⟩ = some (.slice (some ad103) l0_0.length c0_0) ∧ w'.cell? ⟨gb101, 1, none⟩ = some (.int .i64 a0_1)) (ds := []) spec_StoreOK.y0 qa5 rfl rfl ⟨qc0 BK106.out, qc1 BK106.out, qc0 BK101.out, qc1 BK101.out⟩ (fun hHeld => ?_); refine with_tabW spec_StoreOK.tab10 spec_StoreOK.bits10 (fun HT_ HW_ => ?_); generalize w51.drew = w52 at BK101 BK106 HB hHeld ⊢; refine qPu 0 38 spec_StoreOK.y1 rfl rfl (any_of HT_.out qa5) qa8 qa2 ?_; refine qPu 2 40 spec_StoreOK.y2 rfl rfl (any_of HT_.out qa5) qa8 qa2 ?_; refine qTk 1 39 spec_StoreOK.y3 rfl rfl (take_ofW HT_.out HW_.out qa5) qa45 hHeld qa2 ?_; refine qTk 3 41 spec_StoreOK.y4 rfl rfl (take_ofW HT_.out HW_.out qa5) qa45 hHeld qa2 ?_; refine one_ (i := 4) (N := some 42) spec_StoreOK.y5 rfl rfl (one_of HT_.out qa5) qa51 (fun K hK => ?_); refine goes_ Try.func96 qa5 rfl #[.int .i64 ((rd_T43 (rd_L4 l0_0 x3_2) x4_3).f0), .int .i64 1, .int .i64 a0_1] (by rfl) rfl rfl qa3 ?_; (with_reducible refine (spec_l01In.calls ((rd_T43 (rd_L4 l0_0 x3_2) x4_3).f0) 1 a0_1 false _ A14.out).mono ?_); rintro e w' ⟨rfl, ⟨nd, rfl⟩⟩; refine ⟨_, rfl, ?_⟩; refine hK.out _ _ ⟨qc0 BK106.out, qc1 BK106.out, qc0 BK101.out, qc1 BK101.out⟩ (fun hHeld => ?_); clear hK K; refine norm_ (a' := ?_) ?_ ?_; rotate_left
              ·exact qa11
              refine qPu 5 43 spec_StoreOK.y6 rfl rfl (any_of HT_.out qa5) qa8 qa2 ?_; refine qPu 6 44 spec_StoreOK.y7 rfl rfl (any_of HT_.out qa5) qa8 qa2 ?_; refine pure_ (i := 7) (N := some 45) (v := undef) (a' := ?_) spec_StoreOK.y8 rfl rfl (any_of HT_.out qa5) (fun _ _ _ h => h) (Or.inr ⟨by rfl, rfl⟩) ?_ ?_; rotate_left
              ·simp only [Act.put, qzA, qzB, qzC, i64_w, i32_w]
               rfl
              refine pure_ (i := 8) (N := some 46) (v := undef) (a' := ?_) spec_StoreOK.y9 rfl rfl (any_of HT_.out qa5) (fun _ _ _ h => h) (Or.inr ⟨by rfl, rfl⟩) ?_ ?_; rotate_left
              ·simp only [Act.put, qzA, qzB, qzC, i64_w, i32_w]
               rfl
              refine pure_ (i := 9) (N := some 47) (v := undef) (a' := ?_) spec_StoreOK.y10 rfl rfl (any_of HT_.out qa5) (fun _ _ _ h => h) (Or.inr ⟨by rfl, rfl⟩) ?_ ?_; rotate_left
              ·simp only [Act.put, qzA, qzB, qzC, i64_w, i32_w]
               rfl
              refine pure_ (i := 10) (N := some 48) (v := undef) (a' := ?_) spec_StoreOK.y11 rfl rfl (any_of HT_.out qa5) (fun _ _ _ h => h) (Or.inr ⟨by rfl, rfl⟩) ?_ ?_; rotate_left
              ·simp only [Act.put, qzA, qzB, qzC, i64_w, i32_w]
               rfl
              refine pure_ (i := 11) (N := some 49) (v := undef) (a' := ?_) spec_StoreOK.y12 rfl rfl (any_of HT_.out qa5) (fun _ _ _ h => h) (Or.inr ⟨by rfl, rfl⟩) ?_ ?_; rotate_left
              ·simp only [Act.put, qzA, qzB, qzC, i64_w, i32_w]
               rfl
              refine qPu 12 50 spec_StoreOK.y13 rfl rfl (any_of HT_.out qa5) qa8 qa2 ?_; refine qPu 13 51 spec_StoreOK.y14 rfl rfl (any_of HT_.out qa5) qa8 qa2 ?_; refine pure_ (i := 14) (N := some 52) (v := undef) (a' := ?_) spec_StoreOK.y15 rfl rfl (any_of HT_.out qa5) (fun _ _ _ h => h) (Or.inr ⟨by rfl, rfl⟩) ?_ ?_; rotate_left
              ·simp only [Act.put, qzA, qzB, qzC, i64_w, i32_w]
               rfl
              refine pure_ (i := 15) (N := some 53) (v := undef) (a' := ?_) spec_StoreOK.y16 rfl rfl (any_of HT_.out qa5) (fun _ _ _ h => h) (Or.inr ⟨by rfl, rfl⟩) ?_ ?_; rotate_left
              ·simp only [Act.put, qzA, qzB, qzC, i64_w, i32_w]
               rfl
              refine pure_ (i := 16) (N := some 54) (v := undef) (a' := ?_) spec_StoreOK.y17 rfl rfl (any_of HT_.out qa5) (fun _ _ _ h => h) (Or.inr ⟨by rfl, rfl⟩) ?_ ?_; rotate_left
              ·simp only [Act.put, qzA, qzB, qzC, i64_w, i32_w]
               rfl
              refine pure_ (i := 17) (N := some 55) (v := undef) (a' := ?_) spec_StoreOK.y18 rfl rfl (any_of HT_.out qa5) (fun _ _ _ h => h) (Or.inr ⟨by rfl, rfl⟩) ?_ ?_; rotate_left
              ·simp only [Act.put, qzA, qzB, qzC, i64_w, i32_w]
               rfl
              refine pure_ (i := 18) (N := some 56) (v := undef) (a' := ?_) spec_StoreOK.y33 rfl rfl (any_of HT_.out qa5) (fun _ _ _ h => h) (Or.inr ⟨by rfl, rfl⟩) ?_ ?_; rotate_left
              ·simp only [Act.put, qzA, qzB, qzC, i64_w, i32_w]
               rfl
              refine pure_ (i := 19) (N := some 57) (v := undef) (a' := ?_) spec_StoreOK.y34 rfl rfl (any_of HT_.out qa5) (fun _ _ _ h => h) (Or.inr ⟨by rfl, rfl⟩) ?_ ?_; rotate_left
              ·simp only [Act.put, qzA, qzB, qzC, i64_w, i32_w]
               rfl
              refine pure_ (i := 20) (N := some 58) (v := undef) (a' := ?_) spec_StoreOK.y35 rfl rfl (any_of HT_.out qa5) (fun _ _ _ h => h) (Or.inr ⟨by rfl, rfl⟩) ?_ ?_; rotate_left
              ·simp only [Act.put, qzA, qzB, qzC, i64_w, i32_w]
               rfl
              refine pure_ (i := 21) (N := some 59) (v := undef) (a' := ?_) spec_StoreOK.y36 rfl rfl (any_of HT_.out qa5) (fun _ _ _ h => h) (Or.inr ⟨by rfl, rfl⟩) ?_ ?_; rotate_left
              ·simp only [Act.put, qzA, qzB, qzC, i64_w, i32_w]
               rfl
              refine pure_ (i := 22) (N := some 60) (v := undef) (a' := ?_) spec_StoreOK.y37 rfl rfl (any_of HT_.out qa5) (fun _ _ _ h => h) (Or.inr ⟨by rfl, rfl⟩) ?_ ?_; rotate_left
              ·simp only [Act.put, qzA, qzB, qzC, i64_w, i32_w]
               rfl
              refine pure_ (i := 23) (N := some 61) (v := undef) (a' := ?_) spec_StoreOK.y38 rfl rfl (any_of HT_.out qa5) (fun _ _ _ h => h) (Or.inr ⟨by rfl, rfl⟩) ?_ ?_; rotate_left
              ·simp only [Act.put, qzA, qzB, qzC, i64_w, i32_w]
               rfl
              refine pure_ (i := 24) (N := some 62) (v := undef) (a' := ?_) spec_StoreOK.y39 rfl rfl (any_of HT_.out qa5) (fun _ _ _ h => h) (Or.inr ⟨by rfl, rfl⟩) ?_ ?_; rotate_left
              ·simp only [Act.put, qzA, qzB, qzC, i64_w, i32_w]
               rfl
              refine pure_ (i := 25) (N := some 63) (v := undef) (a' := ?_) spec_StoreOK.y40 rfl rfl (any_of HT_.out qa5) (fun _ _ _ h => h) (Or.inr ⟨by rfl, rfl⟩) ?_ ?_; rotate_left
              ·simp only [Act.put, qzA, qzB, qzC, i64_w, i32_w]
               rfl
              refine pure_ (i := 26) (N := some 64) (v := undef) (a' := ?_) spec_StoreOK.y41 rfl rfl (any_of HT_.out qa5) (fun _ _ _ h => h) (Or.inr ⟨by rfl, rfl⟩) ?_ ?_; rotate_left
              ·simp only [Act.put, qzA, qzB, qzC, i64_w, i32_w]
               rfl
              refine pure_ (i := 27) (N := some 65) (v := undef) (a' := ?_) spec_StoreOK.y28 rfl rfl (any_of HT_.out qa5) (fun _ _ _ h => h) (Or.inr ⟨by rfl, rfl⟩) ?_ ?_; rotate_left
              ·simp only [Act.put, qzA, qzB, qzC, i64_w, i32_w]
               rfl
              refine pure_ (i := 28) (N := some 66) (v := undef) (a' := ?_) spec_StoreOK.y29 rfl rfl (any_of HT_.out qa5) (fun _ _ _ h => h) (Or.inr ⟨by rfl, rfl⟩) ?_ ?_; rotate_left
              ·simp only [Act.put, qzA, qzB, qzC, i64_w, i32_w]
               rfl
              refine pure_ (i := 29) (N := some 67) (v := undef) (a' := ?_) spec_StoreOK.y30 rfl rfl (any_of HT_.out qa5) (fun _ _ _ h => h) (Or.inr ⟨by rfl, rfl⟩) ?_ ?_; rotate_left
              ·simp only [Act.put, qzA, qzB, qzC, i64_w, i32_w]
               rfl
              refine pure_ (i := 30) (N := some 68) (v := undef) (a' := ?_) spec_StoreOK.y31 rfl rfl (any_of HT_.out qa5) (fun _ _ _ h => h) (Or.inr ⟨by rfl, rfl⟩) ?_ ?_; rotate_left
              ·simp only [Act.put, qzA, qzB, qzC, i64_w, i32_w]
               rfl
              refine qPu 31 69 spec_StoreOK.y32 rfl rfl (any_of HT_.out qa5) qa8 qa2 ?_; refine done_ (done_of HT_.out qa5) ?_
              try go_wp2
              go_ret
              exact ⟨qa7, qa48⟩
            ·rw [if_neg c13] at H
             exact absurd H qa117
           ·rw [if_neg c12] at H
            have c12b0 : decide (x4_3 < ((rd_L4 l0_0 x3_2).length : Int)) = false := decide_eq_false c12; clear c12; have H' := qO H; clear H; obtain ⟨hcz53_0, hcz53_1, hfz53_0, hfz53_1⟩ := qb2 BK101.out; have p103 : 0 ≤ (x3_2 : Int) := qT qa1; have q103 : x3_2 < (l0_0.length : Int) := qT qa1; obtain ⟨ad103, A103_0, c103_0, e103, hx103_0, hl103_0, hi103_0⟩ := at_L4 HR0_0.out x3_2 p103 q103
            cases e103
            replace hx103_0 := (HB.out.cell (qL w _ hx103_0)).trans hx103_0; have HR103_0 := qO hi103_0; have HC103_0 := qO hl103_0; clear hi103_0 hl103_0; replace p103 := eq_true p103; replace q103 := eq_true q103; go_wp2
            go_roundg k3
            case measure => have := HJ1.out; have := HK2.out; have := HK3.out; omega
            case rel => exact ⟨(wrap64 (x3_2 + 1)), qa12, H', ⟨qa139⟩, ⟨qa17⟩, ⟨qa14⟩⟩
          ·rw [if_neg c11] at H
           exact absurd H qa117
         ·rw [if_neg c10] at H
          exact absurd H qa117
      ·rw [if_neg c9] at H
       have c9b0 : decide (x3_2 < 16) = false := decide_eq_false c9; clear c9; obtain rfl := Option.some.inj H; go_wp2
       go_ret
       exact ⟨qa7, qa14⟩


def spec_l06Puts.l0 : Nat → List (S58) → Int → Option (Bool)
 | 0, _, _ => none
 | k + 1, x0, x3 => if x3 < (x0.length : Int) then (if 0 ≤ x3 then ((spec_l01In.f ((rd_T58 x0 x3).f0) 0 15).bind fun t102 => (if t102 = true then ((spec_l06Value.f ((rd_T58 x0 x3).f0) ((rd_T58 x0 x3).f1)).bind fun t105 => (if t105 = true then (spec_l06Puts.l0 k x0 (wrap64 (x3 + 1))) else (some false))) else (some false))) else (none)) else (some (decide ((x0.length : Int) ≤ 400)))
def spec_l06Puts.f (k : Nat) (l0 : List (S58)) : Option (Bool) := spec_l06Puts.l0 k l0 0
set_option maxHeartbeats 8000000 in
set_option maxRecDepth 100000 in
theorem spec_l06Puts.calls (k : Nat) (A0 : Option Addr) (c0 : Nat) (l0 : List (S58)) (r : Bool) (w : World) (hr0 : Kd.C k58 w A0 l0.length l0) (hc0 : l0.length ≤ c0) (h : spec_l06Puts.f k l0 = some r) :
  Calls Try.prog 71 #[.slice A0 l0.length c0] w fun e w' => e = .returned (.bool r) ∧ Drawn0 w w' := by
 have HR0 := qO hr0; have HC0 := qO hc0; clear hr0 hc0; have H : (spec_l06Puts.l0 k l0 0) = some r := h; clear h; have H' := qO H; clear H
 go_enter Try.func71, Try.ntmps71
 go_wp2
 repeat (go_quiet (fail); try go_wp2)
 go_loopg [3] k (fun kq v3 w' => ∃ (x3_1 : Int), v3 = .int .i64 x3_1 ∧ Aside0 (spec_l06Puts.l0 kq l0 x3_1 = some r) ∧ Aside0 (kq ≤ k) ∧ Drawn0 w w')
 case atStart => exact ⟨(0), qa12, H', ⟨Nat.le_refl _⟩, qa22⟩
 case round =>
  clear H'; obtain ⟨x3_1, rfl, HA, HK1, ⟨m1, rfl⟩⟩ := hrel
  cases gk with
  | zero => exact absurd HA.out (by simp [spec_l06Puts.l0])
  | succ k1 =>
   have H := HA.out; clear HA; simp only [spec_l06Puts.l0] at H
   by_cases c2 : x3_1 < (l0.length : Int)
   ·rw [if_pos c2] at H
    have c2b0 : decide (x3_1 < (l0.length : Int)) = true := decide_eq_true c2; clear c2
    by_cases c3 : 0 ≤ x3_1
    ·rw [if_pos c3] at H
     have c3b0 : decide (0 ≤ x3_1) = true := decide_eq_true c3; clear c3; replace H := Option.bind_eq_some_iff.mp H; obtain ⟨t102, A40, H⟩ := H; replace H : (if t102 = true then ((spec_l06Value.f ((rd_T58 l0 x3_1).f0) ((rd_T58 l0 x3_1).f1)).bind fun t105 => (if t105 = true then (spec_l06Puts.l0 k1 l0 (wrap64 (x3_1 + 1))) else (some false))) else (some false)) = some r := H; have A4 := qO A40; clear A40
     by_cases c5 : t102 = true
     ·subst c5
      have H1 : ((spec_l06Value.f ((rd_T58 l0 x3_1).f0) ((rd_T58 l0 x3_1).f1)).bind fun t105 => (if t105 = true then (spec_l06Puts.l0 k1 l0 (wrap64 (x3_1 + 1))) else (some false))) = some r := by rw [if_pos rfl] at H; exact H
      clear H; have H := H1; clear H1; replace H := Option.bind_eq_some_iff.mp H; obtain ⟨t105, A60, H⟩ := H; replace H : (if t105 = true then (spec_l06Puts.l0 k1 l0 (wrap64 (x3_1 + 1))) else (some false)) = some r := H; have A6 := qO A60; clear A60
      by_cases c7 : t105 = true
      ·subst c7
       have H1 : (spec_l06Puts.l0 k1 l0 (wrap64 (x3_1 + 1))) = some r := by rw [if_pos rfl] at H; exact H
       clear H; have H := H1; clear H1; have H' := qO H; clear H; have p101 : 0 ≤ (x3_1 : Int) := qT qa1; have q101 : x3_1 < (l0.length : Int) := qT qa1; obtain ⟨ad101, e101, hx101_0, hx101_1⟩ := at_T58 HR0.out x3_1 p101 q101
       cases e101
       replace p101 := eq_true p101; replace q101 := eq_true q101
       go_wp2_with (first | (go_at_call 96; (with_reducible refine (spec_l01In.calls ((rd_T58 l0 x3_1).f0) 0 15 true _ A4.out).mono ?_); rintro e w' ⟨rfl, ⟨nd, rfl⟩⟩; (try first | exact ⟨rfl, _, World.drewN_drewN _ _ _⟩ | exact ⟨rfl, _, Eq.trans (World.drewN_drewN _ _ _) (congrArg (World.drewN _) (Nat.add_assoc _ _ _))⟩); have p103 : 0 ≤ (x3_1 : Int) := qT qa1; have q103 : x3_1 < (l0.length : Int) := qT qa1; obtain ⟨ad103, e103, hx103_0, hx103_1⟩ := at_T58 HR0.out x3_1 p103 q103; obtain rfl : ad101 = ad103 := qa191; replace p103 := eq_true p103; replace q103 := eq_true q103; have p104 : 0 ≤ (x3_1 : Int) := qT qa1; have q104 : x3_1 < (l0.length : Int) := qT qa1; obtain ⟨ad104, e104, hx104_0, hx104_1⟩ := at_T58 HR0.out x3_1 p104 q104; obtain rfl : ad101 = ad104 := qa183; replace p104 := eq_true p104; replace q104 := eq_true q104) | (go_at_call 113; (with_reducible refine (spec_l06Value.calls ((rd_T58 l0 x3_1).f0) ((rd_T58 l0 x3_1).f1) true _ A6.out).mono ?_); rintro e w' ⟨rfl, ⟨nd, rfl⟩⟩; (try first | exact ⟨rfl, _, World.drewN_drewN _ _ _⟩ | exact ⟨rfl, _, Eq.trans (World.drewN_drewN _ _ _) (congrArg (World.drewN _) (Nat.add_assoc _ _ _))⟩)))
       repeat (go_quiet (first | (go_at_call 96; (with_reducible refine (spec_l01In.calls ((rd_T58 l0 x3_1).f0) 0 15 true _ A4.out).mono ?_); rintro e w' ⟨rfl, ⟨nd, rfl⟩⟩; (try first | exact ⟨rfl, _, World.drewN_drewN _ _ _⟩ | exact ⟨rfl, _, Eq.trans (World.drewN_drewN _ _ _) (congrArg (World.drewN _) (Nat.add_assoc _ _ _))⟩); have p103 : 0 ≤ (x3_1 : Int) := qT qa1; have q103 : x3_1 < (l0.length : Int) := qT qa1; obtain ⟨ad103, e103, hx103_0, hx103_1⟩ := at_T58 HR0.out x3_1 p103 q103; obtain rfl : ad101 = ad103 := qa191; replace p103 := eq_true p103; replace q103 := eq_true q103; have p104 : 0 ≤ (x3_1 : Int) := qT qa1; have q104 : x3_1 < (l0.length : Int) := qT qa1; obtain ⟨ad104, e104, hx104_0, hx104_1⟩ := at_T58 HR0.out x3_1 p104 q104; obtain rfl : ad101 = ad104 := qa183; replace p104 := eq_true p104; replace q104 := eq_true q104) | (go_at_call 113; (with_reducible refine (spec_l06Value.calls ((rd_T58 l0 x3_1).f0) ((rd_T58 l0 x3_1).f1) true _ A6.out).mono ?_); rintro e w' ⟨rfl, ⟨nd, rfl⟩⟩; (try first | exact ⟨rfl, _, World.drewN_drewN _ _ _⟩ | exact ⟨rfl, _, Eq.trans (World.drewN_drewN _ _ _) (congrArg (World.drewN _) (Nat.add_assoc _ _ _))⟩))); try go_wp2_with (first | (go_at_call 96; (with_reducible refine (spec_l01In.calls ((rd_T58 l0 x3_1).f0) 0 15 true _ A4.out).mono ?_); rintro e w' ⟨rfl, ⟨nd, rfl⟩⟩; (try first | exact ⟨rfl, _, World.drewN_drewN _ _ _⟩ | exact ⟨rfl, _, Eq.trans (World.drewN_drewN _ _ _) (congrArg (World.drewN _) (Nat.add_assoc _ _ _))⟩); have p103 : 0 ≤ (x3_1 : Int) := qT qa1; have q103 : x3_1 < (l0.length : Int) := qT qa1; obtain ⟨ad103, e103, hx103_0, hx103_1⟩ := at_T58 HR0.out x3_1 p103 q103; obtain rfl : ad101 = ad103 := qa191; replace p103 := eq_true p103; replace q103 := eq_true q103; have p104 : 0 ≤ (x3_1 : Int) := qT qa1; have q104 : x3_1 < (l0.length : Int) := qT qa1; obtain ⟨ad104, e104, hx104_0, hx104_1⟩ := at_T58 HR0.out x3_1 p104 q104; obtain rfl : ad101 = ad104 := qa183; replace p104 := eq_true p104; replace q104 := eq_true q104) | (go_at_call 113; (with_reducible refine (spec_l06Value.calls ((rd_T58 l0 x3_1).f0) ((rd_T58 l0 x3_1).f1) true _ A6.out).mono ?_); rintro e w' ⟨rfl, ⟨nd, rfl⟩⟩; (try first | exact ⟨rfl, _, World.drewN_drewN _ _ _⟩ | exact ⟨rfl, _, Eq.trans (World.drewN_drewN _ _ _) (congrArg (World.drewN _) (Nat.add_assoc _ _ _))⟩))))
       go_roundg k1
       case measure => have := HK1.out; omega
       case rel => exact ⟨(wrap64 (x3_1 + 1)), qa12, H', ⟨qa103⟩, qa22⟩
      ·replace c7 := Bool.eq_false_iff.mpr c7
       subst c7; have H1 : (some false) = some r := by rw [if_neg (show ¬ (false = true) by decide)] at H; exact H
       clear H; have H := H1; clear H1; obtain rfl := Option.some.inj H; have p101 : 0 ≤ (x3_1 : Int) := qT qa1; have q101 : x3_1 < (l0.length : Int) := qT qa1; obtain ⟨ad101, e101, hx101_0, hx101_1⟩ := at_T58 HR0.out x3_1 p101 q101
       cases e101
       replace p101 := eq_true p101; replace q101 := eq_true q101
       go_wp2_with (first | (go_at_call 96; (with_reducible refine (spec_l01In.calls ((rd_T58 l0 x3_1).f0) 0 15 true _ A4.out).mono ?_); rintro e w' ⟨rfl, ⟨nd, rfl⟩⟩; (try first | exact ⟨rfl, _, World.drewN_drewN _ _ _⟩ | exact ⟨rfl, _, Eq.trans (World.drewN_drewN _ _ _) (congrArg (World.drewN _) (Nat.add_assoc _ _ _))⟩); have p103 : 0 ≤ (x3_1 : Int) := qT qa1; have q103 : x3_1 < (l0.length : Int) := qT qa1; obtain ⟨ad103, e103, hx103_0, hx103_1⟩ := at_T58 HR0.out x3_1 p103 q103; obtain rfl : ad101 = ad103 := qa191; replace p103 := eq_true p103; replace q103 := eq_true q103; have p104 : 0 ≤ (x3_1 : Int) := qT qa1; have q104 : x3_1 < (l0.length : Int) := qT qa1; obtain ⟨ad104, e104, hx104_0, hx104_1⟩ := at_T58 HR0.out x3_1 p104 q104; obtain rfl : ad101 = ad104 := qa183; replace p104 := eq_true p104; replace q104 := eq_true q104) | (go_at_call 113; (with_reducible refine (spec_l06Value.calls ((rd_T58 l0 x3_1).f0) ((rd_T58 l0 x3_1).f1) false _ A6.out).mono ?_); rintro e w' ⟨rfl, ⟨nd, rfl⟩⟩; (try first | exact ⟨rfl, _, World.drewN_drewN _ _ _⟩ | exact ⟨rfl, _, Eq.trans (World.drewN_drewN _ _ _) (congrArg (World.drewN _) (Nat.add_assoc _ _ _))⟩)))
       repeat (go_quiet (first | (go_at_call 96; (with_reducible refine (spec_l01In.calls ((rd_T58 l0 x3_1).f0) 0 15 true _ A4.out).mono ?_); rintro e w' ⟨rfl, ⟨nd, rfl⟩⟩; (try first | exact ⟨rfl, _, World.drewN_drewN _ _ _⟩ | exact ⟨rfl, _, Eq.trans (World.drewN_drewN _ _ _) (congrArg (World.drewN _) (Nat.add_assoc _ _ _))⟩); have p103 : 0 ≤ (x3_1 : Int) := qT qa1; have q103 : x3_1 < (l0.length : Int) := qT qa1; obtain ⟨ad103, e103, hx103_0, hx103_1⟩ := at_T58 HR0.out x3_1 p103 q103; obtain rfl : ad101 = ad103 := qa191; replace p103 := eq_true p103; replace q103 := eq_true q103; have p104 : 0 ≤ (x3_1 : Int) := qT qa1; have q104 : x3_1 < (l0.length : Int) := qT qa1; obtain ⟨ad104, e104, hx104_0, hx104_1⟩ := at_T58 HR0.out x3_1 p104 q104; obtain rfl : ad101 = ad104 := qa183; replace p104 := eq_true p104; replace q104 := eq_true q104) | (go_at_call 113; (with_reducible refine (spec_l06Value.calls ((rd_T58 l0 x3_1).f0) ((rd_T58 l0 x3_1).f1) false _ A6.out).mono ?_); rintro e w' ⟨rfl, ⟨nd, rfl⟩⟩; (try first | exact ⟨rfl, _, World.drewN_drewN _ _ _⟩ | exact ⟨rfl, _, Eq.trans (World.drewN_drewN _ _ _) (congrArg (World.drewN _) (Nat.add_assoc _ _ _))⟩))); try go_wp2_with (first | (go_at_call 96; (with_reducible refine (spec_l01In.calls ((rd_T58 l0 x3_1).f0) 0 15 true _ A4.out).mono ?_); rintro e w' ⟨rfl, ⟨nd, rfl⟩⟩; (try first | exact ⟨rfl, _, World.drewN_drewN _ _ _⟩ | exact ⟨rfl, _, Eq.trans (World.drewN_drewN _ _ _) (congrArg (World.drewN _) (Nat.add_assoc _ _ _))⟩); have p103 : 0 ≤ (x3_1 : Int) := qT qa1; have q103 : x3_1 < (l0.length : Int) := qT qa1; obtain ⟨ad103, e103, hx103_0, hx103_1⟩ := at_T58 HR0.out x3_1 p103 q103; obtain rfl : ad101 = ad103 := qa191; replace p103 := eq_true p103; replace q103 := eq_true q103; have p104 : 0 ≤ (x3_1 : Int) := qT qa1; have q104 : x3_1 < (l0.length : Int) := qT qa1; obtain ⟨ad104, e104, hx104_0, hx104_1⟩ := at_T58 HR0.out x3_1 p104 q104; obtain rfl : ad101 = ad104 := qa183; replace p104 := eq_true p104; replace q104 := eq_true q104) | (go_at_call 113; (with_reducible refine (spec_l06Value.calls ((rd_T58 l0 x3_1).f0) ((rd_T58 l0 x3_1).f1) false _ A6.out).mono ?_); rintro e w' ⟨rfl, ⟨nd, rfl⟩⟩; (try first | exact ⟨rfl, _, World.drewN_drewN _ _ _⟩ | exact ⟨rfl, _, Eq.trans (World.drewN_drewN _ _ _) (congrArg (World.drewN _) (Nat.add_assoc _ _ _))⟩))))
       go_ret
       exact ⟨qa12, qa22⟩
     ·replace c5 := Bool.eq_false_iff.mpr c5
      subst c5; have H1 : (some false) = some r := by rw [if_neg (show ¬ (false = true) by decide)] at H; exact H
      clear H; have H := H1; clear H1; obtain rfl := Option.some.inj H; have p101 : 0 ≤ (x3_1 : Int) := qT qa1; have q101 : x3_1 < (l0.length : Int) := qT qa1; obtain ⟨ad101, e101, hx101_0, hx101_1⟩ := at_T58 HR0.out x3_1 p101 q101
      cases e101
      replace p101 := eq_true p101; replace q101 := eq_true q101
      go_wp2_with (first | (go_at_call 96; (with_reducible refine (spec_l01In.calls ((rd_T58 l0 x3_1).f0) 0 15 false _ A4.out).mono ?_); rintro e w' ⟨rfl, ⟨nd, rfl⟩⟩; (try first | exact ⟨rfl, _, World.drewN_drewN _ _ _⟩ | exact ⟨rfl, _, Eq.trans (World.drewN_drewN _ _ _) (congrArg (World.drewN _) (Nat.add_assoc _ _ _))⟩)))
      repeat (go_quiet (first | (go_at_call 96; (with_reducible refine (spec_l01In.calls ((rd_T58 l0 x3_1).f0) 0 15 false _ A4.out).mono ?_); rintro e w' ⟨rfl, ⟨nd, rfl⟩⟩; (try first | exact ⟨rfl, _, World.drewN_drewN _ _ _⟩ | exact ⟨rfl, _, Eq.trans (World.drewN_drewN _ _ _) (congrArg (World.drewN _) (Nat.add_assoc _ _ _))⟩))); try go_wp2_with (first | (go_at_call 96; (with_reducible refine (spec_l01In.calls ((rd_T58 l0 x3_1).f0) 0 15 false _ A4.out).mono ?_); rintro e w' ⟨rfl, ⟨nd, rfl⟩⟩; (try first | exact ⟨rfl, _, World.drewN_drewN _ _ _⟩ | exact ⟨rfl, _, Eq.trans (World.drewN_drewN _ _ _) (congrArg (World.drewN _) (Nat.add_assoc _ _ _))⟩))))
      go_ret
      exact ⟨qa12, qa22⟩
    ·rw [if_neg c3] at H
     exact absurd H qa117
   ·rw [if_neg c2] at H
    have c2b0 : decide (x3_1 < (l0.length : Int)) = false := decide_eq_false c2; clear c2; obtain rfl := Option.some.inj H; go_wp2
    repeat (go_quiet (fail); try go_wp2)
    go_ret
    exact ⟨qa12, qa22⟩


def spec_l07In.l0 : Nat → List Int → Int → Int → Option (Bool)
 | 0, _, _, _ => none
 | k + 1, x0, x1, x5 => if x5 < (x0.length : Int) then (if 0 ≤ x5 then (if (rd x0 x5) = x1 then (some true) else (spec_l07In.l0 k x0 x1 (wrap64 (x5 + 1)))) else (none)) else (some false)
def spec_l07In.f (k : Nat) (l0 : List Int) (a1 : Int) : Option (Bool) := spec_l07In.l0 k l0 a1 0
set_option maxHeartbeats 8000000 in
set_option maxRecDepth 100000 in
theorem spec_l07In.calls (k : Nat) (A0 : Option Addr) (c0 : Nat) (l0 : List Int) (a1 : Int) (r : Bool) (w : World) (hr0 : Kd.C (Kd.int .i64) w A0 l0.length l0) (hc0 : l0.length ≤ c0) (h : spec_l07In.f k l0 a1 = some r) :
  Calls Try.prog 125 #[.slice A0 l0.length c0, .int .i64 a1] w fun e w' => e = .returned (.bool r) ∧ Drawn0 w w' := by
 have HR0 := qO hr0; have HC0 := qO hc0; clear hr0 hc0; have H : (spec_l07In.l0 k l0 a1 0) = some r := h; clear h; have H' := qO H; clear H
 go_enter Try.func125, Try.ntmps125
 go_wp2
 go_loopg [5] k (fun kq v5 w' => ∃ (x5_1 : Int), v5 = .int .i64 x5_1 ∧ Aside0 (spec_l07In.l0 kq l0 a1 x5_1 = some r) ∧ Aside0 (kq ≤ k) ∧ Drawn0 w w')
 case atStart => exact ⟨(0), qa12, H', ⟨Nat.le_refl _⟩, qa22⟩
 case round =>
  clear H'
  try clear c1
  try clear p2
  obtain ⟨x5_1, rfl, HA, HK1, ⟨m1, rfl⟩⟩ := hrel
  cases gk with
  | zero => exact absurd HA.out (by simp [spec_l07In.l0])
  | succ k1 =>
   have H := HA.out; clear HA; simp only [spec_l07In.l0] at H
   by_cases c3 : x5_1 < (l0.length : Int)
   ·rw [if_pos c3] at H
    have c3b0 : decide (x5_1 < (l0.length : Int)) = true := decide_eq_true c3; clear c3
    by_cases c4 : 0 ≤ x5_1
    ·rw [if_pos c4] at H
     have c4b0 : decide (0 ≤ x5_1) = true := decide_eq_true c4; clear c4
     by_cases c5 : (rd l0 x5_1) = a1
     ·rw [if_pos c5] at H
      have c5b0 : ((rd l0 x5_1) == a1) = true := beq_iff_eq.mpr c5; have c5b1 : ((rd l0 x5_1) != a1) = false := bne_eq_false_iff_eq.mpr c5; clear c5; obtain rfl := Option.some.inj H; have p101 : 0 ≤ (x5_1 : Int) := qT qa1; have q101 : x5_1 < (l0.length : Int) := qT qa1; obtain ⟨ad101, e101, hx101_0⟩ := Kd.at_int HR0.out x5_1 p101 q101
      cases e101
      replace p101 := eq_true p101; replace q101 := eq_true q101; go_wp2
      go_ret
      exact ⟨qa12, qa22⟩
     ·rw [if_neg c5] at H
      have c5b0 : ((rd l0 x5_1) == a1) = false := beq_eq_false_iff_ne.mpr c5; have c5b1 : ((rd l0 x5_1) != a1) = true := bne_iff_ne.mpr c5; have H' := qO H; clear H; have p101 : 0 ≤ (x5_1 : Int) := qT qa1; have q101 : x5_1 < (l0.length : Int) := qT qa1; obtain ⟨ad101, e101, hx101_0⟩ := Kd.at_int HR0.out x5_1 p101 q101
      cases e101
      replace p101 := eq_true p101; replace q101 := eq_true q101; go_wp2
      go_roundg k1
      case measure => have := HK1.out; omega
      case rel => exact ⟨(wrap64 (x5_1 + 1)), qa12, H', ⟨qa103⟩, qa22⟩
    ·rw [if_neg c4] at H
     exact absurd H qa117
   ·rw [if_neg c3] at H
    have c3b0 : decide (x5_1 < (l0.length : Int)) = false := decide_eq_false c3; clear c3; obtain rfl := Option.some.inj H; go_wp2
    go_ret
    exact ⟨qa12, qa22⟩


mutual
def spec_l07OK.j0 : Nat → Bool → Int → List Int → List (S58) → Option (Bool)
 | 0, _, _, _, _ => none
 | k + 1, x17, x103000, x103001, x103002 => if x17 = true then (some false) else (spec_l07OK.l0 k 0 x103000 x103001 x103002)
def spec_l07OK.l0 : Nat → Int → Int → List Int → List (S58) → Option (Bool)
 | 0, _, _, _, _ => none
 | k + 1, x5, x103000, x103001, x103002 => if x5 < (x103001.length : Int) then (if 0 ≤ x5 then ((spec_l01In.f (rd x103001 x5) 0 15).bind fun t106 => (if t106 = true then (if x5 ≤ (x103001.length : Int) then ((spec_l07In.f k (x103001.take (x5 : Int).toNat) (rd x103001 x5)).bind fun t109 => (if t109 = true then (some false) else (spec_l07OK.l0 k (wrap64 (x5 + 1)) x103000 x103001 x103002))) else (none)) else (some false))) else (none)) else (some true)
end
def spec_l07OK.f (k : Nat) (l0_0 : List (List (S43))) (a0_1 : Int) (a1_0 : Int) (l1_1 : List Int) (l1_2 : List (S58)) : Option (Bool) := (spec_l01In.f a1_0 0 a0_1).bind fun t103 => (if t103 = true then ((spec_l06Puts.f k l1_2).bind fun t104 => (spec_l07OK.j0 k (!t104) a1_0 l1_1 l1_2)) else (spec_l07OK.j0 k true a1_0 l1_1 l1_2))
def spec_l07OK.T6 : Bool × List (List Nat × List Nat) := (true, [([], []), ([0], [0]), ([], []), ([1, 2], [1, 2]), ([3], [3]), ([4], [4]), ([5], [5]), ([6, 5], [6]), ([7], [7]), ([8, 7], [7, 8]), ([7], [7]), ([9, 10, 7], [7, 9, 10]), ([7], [7]), ([12, 7], [7, 12]), ([7], [7]), ([13, 14, 7], [7, 13, 14]), ([15, 7], [7, 15]), ([11, 16, 7, 7], [7, 11, 16]), ([7, 17], [7, 17])])
def spec_l07OK.B6 : List Nat := [0, 1, 0, 7, 15, 31, 63, 127, 255, 511, 255, 2047, 255, 4351, 255, 28927, 61695, 131071, 262143]
theorem spec_l07OK.tab6 : rtab .any (opsOf Try.f123 6) = spec_l07OK.T6 := by kernel_rfl
theorem spec_l07OK.bits6 : waitsOk spec_l07OK.T6.2 spec_l07OK.B6 = true := by kernel_rfl
def spec_l07OK.y0 := #[qf,qf,qf,qf,qf,qf,qf,qf,qf,qf,qf,qf,qf,qf,qf,qf,qf,qf,qf]
def spec_l07OK.y1 := #[qt,qf,qf,qf,qf,qf,qf,qf,qf,qf,qf,qf,qf,qf,qf,qf,qf,qf,qf]
def spec_l07OK.y2 := #[qt,qf,qt,qf,qf,qf,qf,qf,qf,qf,qf,qf,qf,qf,qf,qf,qf,qf,qf]
def spec_l07OK.y3 := #[qt,qt,qt,qf,qf,qf,qf,qf,qf,qf,qf,qf,qf,qf,qf,qf,qf,qf,qf]
def spec_l07OK.y4 := #[qt,qt,qt,qt,qf,qf,qf,qf,qf,qf,qf,qf,qf,qf,qf,qf,qf,qf,qf]
def spec_l07OK.y5 := #[qt,qt,qt,qt,qt,qf,qf,qf,qf,qf,qf,qf,qf,qf,qf,qf,qf,qf,qf]
def spec_l07OK.y6 := #[qt,qt,qt,qt,qt,qt,qf,qf,qf,qf,qf,qf,qf,qf,qf,qf,qf,qf,qf]
def spec_l07OK.y7 := #[qt,qt,qt,qt,qt,qt,qt,qf,qf,qf,qf,qf,qf,qf,qf,qf,qf,qf,qf]
def spec_l07OK.y8 := #[qt,qt,qt,qt,qt,qt,qt,qt,qf,qf,qf,qf,qf,qf,qf,qf,qf,qf,qf]
def spec_l07OK.y9 := #[qt,qt,qt,qt,qt,qt,qt,qt,qt,qf,qf,qf,qf,qf,qf,qf,qf,qf,qf]
def spec_l07OK.y10 := #[qt,qt,qt,qt,qt,qt,qt,qt,qt,qf,qt,qf,qf,qf,qf,qf,qf,qf,qf]
def spec_l07OK.y11 := #[qt,qt,qt,qt,qt,qt,qt,qt,qt,qf,qt,qf,qt,qf,qf,qf,qf,qf,qf]
def spec_l07OK.y12 := #[qt,qt,qt,qt,qt,qt,qt,qt,qt,qf,qt,qf,qt,qf,qt,qf,qf,qf,qf]
def spec_l07OK.y13 := #[qt,qt,qt,qt,qt,qt,qt,qt,qt,qt,qt,qf,qt,qf,qt,qf,qf,qf,qf]
def spec_l07OK.y14 := #[qt,qt,qt,qt,qt,qt,qt,qt,qt,qt,qt,qt,qt,qf,qt,qf,qf,qf,qf]
def spec_l07OK.y15 := #[qt,qt,qt,qt,qt,qt,qt,qt,qt,qt,qt,qt,qt,qt,qt,qf,qf,qf,qf]
def spec_l07OK.y16 := #[qt,qt,qt,qt,qt,qt,qt,qt,qt,qt,qt,qt,qt,qt,qt,qt,qf,qf,qf]
def spec_l07OK.y17 := #[qt,qt,qt,qt,qt,qt,qt,qt,qt,qt,qt,qt,qt,qt,qt,qt,qt,qf,qf]
def spec_l07OK.y18 := #[qt,qt,qt,qt,qt,qt,qt,qt,qt,qt,qt,qt,qt,qt,qt,qt,qt,qt,qf]
def spec_l07OK.y19 := #[qt,qt,qt,qt,qt,qt,qt,qt,qt,qt,qt,qt,qt,qt,qt,qt,qt,qt,qt]
def spec_l07OK.y20 := #[qt,qt,qt,qt,qt,qt,qt,qt,qt,qt,qf,qf,qf,qf,qf,qf,qf,qf,qf]
def spec_l07OK.y21 := #[qt,qt,qt,qt,qt,qt,qt,qt,qt,qt,qt,qf,qf,qf,qf,qf,qf,qf,qf]
def spec_l07OK.y22 := #[qt,qt,qt,qt,qt,qt,qt,qt,qt,qt,qt,qt,qf,qf,qf,qf,qf,qf,qf]
def spec_l07OK.y23 := #[qt,qt,qt,qt,qt,qt,qt,qt,qt,qt,qt,qt,qt,qf,qf,qf,qf,qf,qf]
def spec_l07OK.y24 := #[qt,qt,qt,qt,qt,qt,qt,qt,qt,qt,qt,qt,qt,qt,qf,qf,qf,qf,qf]
set_option maxHeartbeats 8000000 in
set_option maxRecDepth 100000 in
theorem spec_l07OK.calls (k : Nat) (A0_0 : Option Addr) (c0_0 : Nat) (l0_0 : List (List (S43))) (a0_1 : Int) (a1_0 : Int) (A1_1 : Option Addr) (c1_1 : Nat) (l1_1 : List Int) (A1_2 : Option Addr) (c1_2 : Nat) (l1_2 : List (S58)) (r : Bool) (w : World) (hr0_0 : Kd.C (Kd.slice 43 k43) w A0_0 l0_0.length l0_0) (hc0_0 : l0_0.length ≤ c0_0) (hr1_1 : Kd.C (Kd.int .i64) w A1_1 l1_1.length l1_1) (hc1_1 : l1_1.length ≤ c1_1) (hr1_2 : Kd.C k58 w A1_2 l1_2.length l1_2) (hc1_2 : l1_2.length ≤ c1_2) (h : spec_l07OK.f k l0_0 a0_1 a1_0 l1_1 l1_2 = some r) :
  Calls Try.prog 123 #[.agg #[.slice A0_0 l0_0.length c0_0, .int .i64 a0_1], .agg #[.int .i64 a1_0, .slice A1_1 l1_1.length c1_1, .slice A1_2 l1_2.length c1_2]] w fun e w' => e = .returned (.bool r) ∧ Below w.heap.size w w' := by
 have hu28 := Try.underlying28; have hu65 := Try.underlying65; have HR0_0 := qO hr0_0; have HC0_0 := qO hc0_0; clear hr0_0 hc0_0; have HR1_1 := qO hr1_1; have HC1_1 := qO hc1_1; clear hr1_1 hc1_1; have HR1_2 := qO hr1_2; have HC1_2 := qO hc1_2; clear hr1_2 hc1_2; have HB := qO (Below.refl w.heap.size w); have H : ((spec_l01In.f a1_0 0 a0_1).bind fun t103 => (if t103 = true then ((spec_l06Puts.f k l1_2).bind fun t104 => (spec_l07OK.j0 k (!t104) a1_0 l1_1 l1_2)) else (spec_l07OK.j0 k true a1_0 l1_1 l1_2))) = some r := h; clear h; have HC3 := qO H; clear H
 go_enter Try.func123, Try.ntmps123
 go_upto_region 1 with (first | ((with_reducible refine gate_dst (N := 2) rfl ?_); refine qX 2 #[.slice A0_0 l0_0.length c0_0, .int .i64 a0_1] 28 ?_; intro gb101 hg w4 hbox hb; have BK101 := qO (hbox); have GW101 := qO ((qa46 : w.heap.size ≤ gb101)); have GE101 := qO ((qa46 : w.heap.size ≤ gb101)); replace HB := qO (below_step qa16 hb); clear hb hbox hg) | ((with_reducible refine gate_dst (N := 3) rfl ?_); refine qX 3 #[.int .i64 a1_0, .slice A1_1 l1_1.length c1_1, .slice A1_2 l1_2.length c1_2] 65 ?_; intro gb102 hg w5 hbox hb; have BK102 := qO (hbox); have GW102 := qO ((qa30 : w.heap.size ≤ gb102)); have GE102 := qO ((qa30 : w.heap.size ≤ gb102)); have NB101_102 := qO ((qa4 : gb101 ≠ gb102)); have NB102_101 := qO ((qa121 : gb102 ≠ gb101)); replace BK101 := qO (blk_below (g := gb101) (o := .cells #[.slice A0_0 l0_0.length c0_0, .int .i64 a0_1] 28 (0, 0)) qa17 hb); replace HB := qO (below_step qa14 hb); clear hb hbox hg))
 (try simp only [Act.put, qzA, qzB, qzC])
 go_cut [17] (fun v17 wc => ∃ (kq : Nat) (x17_2 : Bool), v17 = .bool x17_2 ∧ Aside0 (spec_l07OK.j0 kq x17_2 a1_0 l1_1 l1_2 = some r) ∧ Aside0 (kq ≤ k) ∧ Aside0 (wc.heap[gb101]? = some (.cells #[(.slice A0_0 l0_0.length c0_0), .int .i64 a0_1] 28 (0, 0))) ∧ Aside0 (wc.heap[gb102]? = some (.cells #[.int .i64 a1_0, (.slice A1_1 l1_1.length c1_1), (.slice A1_2 l1_2.length c1_2)] 65 (0, 0))) ∧ Aside0 (Below w.heap.size w wc))
 case first =>
  have H := HC3.out; clear HC3; replace H := Option.bind_eq_some_iff.mp H; obtain ⟨t103, A60, H⟩ := H; replace H : (if t103 = true then ((spec_l06Puts.f k l1_2).bind fun t104 => (spec_l07OK.j0 k (!t104) a1_0 l1_1 l1_2)) else (spec_l07OK.j0 k true a1_0 l1_1 l1_2)) = some r := H; have A6 := qO A60; clear A60
  by_cases c7 : t103 = true
  ·subst c7
   have H1 : ((spec_l06Puts.f k l1_2).bind fun t104 => (spec_l07OK.j0 k (!t104) a1_0 l1_1 l1_2)) = some r := by rw [if_pos rfl] at H; exact H
   clear H; have H := H1; clear H1; replace H := Option.bind_eq_some_iff.mp H; obtain ⟨t104, A80, H⟩ := H; replace H : (spec_l07OK.j0 k (!t104) a1_0 l1_1 l1_2) = some r := H; have A8 := qO A80; clear A80; have H' := qO H; clear H; have hnb9 := NB102_101.out; have hnc9 := NB101_102.out; obtain ⟨hcz10_0, hcz10_1, hcz10_2, hfz10_0, hfz10_1, hfz10_2⟩ := qb3 BK102.out; obtain ⟨hcz11_0, hcz11_1, hfz11_0, hfz11_1⟩ := qb2 BK101.out
   go_wp2_with (first | ((with_reducible refine gate_callee (f := 96) rfl ?_); refine goesL_ (some 10) rfl rfl Try.func96 qa5 rfl #[.int .i64 a1_0, .int .i64 0, .int .i64 a0_1] rfl qa3 ?_; (with_reducible refine (spec_l01In.calls a1_0 0 a0_1 true _ A6.out).mono ?_); rintro e w' ⟨rfl, ⟨nd, rfl⟩⟩; refine ⟨_, rfl, ?_⟩) | (go_at_call 71; (with_reducible refine (spec_l06Puts.calls k _ _ l1_2 t104 _ ?side1 ?side2 A8.out).mono ?_); (case side1 => exact qa76); (case side2 => exact HC1_2.out); rintro e w' ⟨rfl, ⟨nd, rfl⟩⟩))
   go_meet
   case rel => exact ⟨_, (!t104), qa12, H', ⟨qa148⟩, ⟨qa17⟩, ⟨qa28⟩, ⟨qa13⟩⟩
  ·replace c7 := Bool.eq_false_iff.mpr c7
   subst c7; have H1 : (spec_l07OK.j0 k true a1_0 l1_1 l1_2) = some r := by rw [if_neg (show ¬ (false = true) by decide)] at H; exact H
   clear H; have H := H1; clear H1; have H' := qO H; clear H; have hnb12 := NB102_101.out; have hnc12 := NB101_102.out; obtain ⟨hcz13_0, hcz13_1, hcz13_2, hfz13_0, hfz13_1, hfz13_2⟩ := qb3 BK102.out; obtain ⟨hcz14_0, hcz14_1, hfz14_0, hfz14_1⟩ := qb2 BK101.out
   go_wp2_with (first | ((with_reducible refine gate_callee (f := 96) rfl ?_); refine goesL_ (some 10) rfl rfl Try.func96 qa5 rfl #[.int .i64 a1_0, .int .i64 0, .int .i64 a0_1] rfl qa3 ?_; (with_reducible refine (spec_l01In.calls a1_0 0 a0_1 false _ A6.out).mono ?_); rintro e w' ⟨rfl, ⟨nd, rfl⟩⟩; refine ⟨_, rfl, ?_⟩))
   go_meet
   case rel => exact ⟨_, (true), qa12, H', ⟨qa148⟩, ⟨qa17⟩, ⟨qa28⟩, ⟨qa13⟩⟩
 case rest =>
  clear HC3
  try clear c1
  try clear p2
  try clear c7
  try clear c9
  try clear c12
  try clear hcz10_0
  try clear hcz10_1
  try clear hcz10_2
  try clear hcz11_0
  try clear hcz11_1
  try clear hcz13_0
  try clear hcz13_1
  try clear hcz13_2
  try clear hcz14_0
  try clear hcz14_1
  try clear hfz10_0
  try clear hfz10_1
  try clear hfz10_2
  try clear hfz11_0
  try clear hfz11_1
  try clear hfz13_0
  try clear hfz13_1
  try clear hfz13_2
  try clear hfz14_0
  try clear hfz14_1
  obtain ⟨kq, x17_2, rfl, HA, HJ2, BK101, BK102, HB⟩ := hcut
  cases kq with
  | zero => exact absurd HA.out (by simp [spec_l07OK.j0])
  | succ kj2 =>
   have H := HA.out; clear HA; simp only [spec_l07OK.j0] at H
   by_cases c15 : x17_2 = true
   ·subst c15
    have H1 : (some false) = some r := by rw [if_pos rfl] at H; exact H
    clear H; have H := H1; clear H1; obtain rfl := Option.some.inj H; go_wp2
    go_ret
    exact ⟨qa7, qa13⟩
   ·replace c15 := Bool.eq_false_iff.mpr c15
    subst c15; have H1 : (spec_l07OK.l0 kj2 0 a1_0 l1_1 l1_2) = some r := by rw [if_neg (show ¬ (false = true) by decide)] at H; exact H
    clear H; have H := H1; clear H1; have H' := qO H; clear H; go_wp2
    go_loopg [5] kj2 (fun kq v5 w' => ∃ (x5_2 : Int), v5 = .int .i64 x5_2 ∧ Aside0 (spec_l07OK.l0 kq x5_2 a1_0 l1_1 l1_2 = some r) ∧ Aside0 (kq ≤ kj2) ∧ Aside0 (w'.heap[gb101]? = some (.cells #[(.slice A0_0 l0_0.length c0_0), .int .i64 a0_1] 28 (0, 0))) ∧ Aside0 (w'.heap[gb102]? = some (.cells #[.int .i64 a1_0, (.slice A1_1 l1_1.length c1_1), (.slice A1_2 l1_2.length c1_2)] 65 (0, 0))) ∧ Aside0 (Below w.heap.size w w'))
    case atStart => exact ⟨(0), qa12, H', ⟨Nat.le_refl _⟩, ⟨qa17⟩, ⟨qa28⟩, ⟨qa13⟩⟩
    case round =>
     clear H'
     try clear c1
     try clear p2
     try clear c7
     try clear c9
     try clear c12
     try clear c15
     try clear hcz10_0
     try clear hcz10_1
     try clear hcz10_2
     try clear hcz11_0
     try clear hcz11_1
     try clear hcz13_0
     try clear hcz13_1
     try clear hcz13_2
     try clear hcz14_0
     try clear hcz14_1
     try clear hfz10_0
     try clear hfz10_1
     try clear hfz10_2
     try clear hfz11_0
     try clear hfz11_1
     try clear hfz13_0
     try clear hfz13_1
     try clear hfz13_2
     try clear hfz14_0
     try clear hfz14_1
     try clear p2
     obtain ⟨x5_2, rfl, HA, HK2, BK101, BK102, HB⟩ := hrel
     cases gk with
     | zero => exact absurd HA.out (by simp [spec_l07OK.l0])
     | succ k2 =>
      have H := HA.out; clear HA; simp only [spec_l07OK.l0] at H
      by_cases c16 : x5_2 < (l1_1.length : Int)
      ·rw [if_pos c16] at H
       have c16b0 : decide (x5_2 < (l1_1.length : Int)) = true := decide_eq_true c16; clear c16
       by_cases c17 : 0 ≤ x5_2
       ·rw [if_pos c17] at H
        have c17b0 : decide (0 ≤ x5_2) = true := decide_eq_true c17; clear c17; replace H := Option.bind_eq_some_iff.mp H; obtain ⟨t106, A180, H⟩ := H; replace H : (if t106 = true then (if x5_2 ≤ (l1_1.length : Int) then ((spec_l07In.f k2 (l1_1.take (x5_2 : Int).toNat) (rd l1_1 x5_2)).bind fun t109 => (if t109 = true then (some false) else (spec_l07OK.l0 k2 (wrap64 (x5_2 + 1)) a1_0 l1_1 l1_2))) else (none)) else (some false)) = some r := H; have A18 := qO A180; clear A180
        by_cases c19 : t106 = true
        ·subst c19
         have H1 : (if x5_2 ≤ (l1_1.length : Int) then ((spec_l07In.f k2 (l1_1.take (x5_2 : Int).toNat) (rd l1_1 x5_2)).bind fun t109 => (if t109 = true then (some false) else (spec_l07OK.l0 k2 (wrap64 (x5_2 + 1)) a1_0 l1_1 l1_2))) else (none)) = some r := by rw [if_pos rfl] at H; exact H
         clear H; have H := H1; clear H1; have c20b0 := eq_true (qT qa1 : 0 ≤ x5_2)
         by_cases c21 : x5_2 ≤ (l1_1.length : Int)
         ·rw [if_pos c21] at H
          have c21b0 := eq_true c21; have c21b1 : decide (x5_2 ≤ (l1_1.length : Int)) = true := decide_eq_true c21; clear c21; replace H := Option.bind_eq_some_iff.mp H; obtain ⟨t109, A220, H⟩ := H; replace H : (if t109 = true then (some false) else (spec_l07OK.l0 k2 (wrap64 (x5_2 + 1)) a1_0 l1_1 l1_2)) = some r := H; have A22 := qO A220; clear A220
          by_cases c23 : t109 = true
          ·subst c23
           have H1 : (some false) = some r := by rw [if_pos rfl] at H; exact H
           clear H; have H := H1; clear H1; obtain rfl := Option.some.inj H; have hnb24 := NB102_101.out; have hnc24 := NB101_102.out; obtain ⟨hcz25_0, hcz25_1, hcz25_2, hfz25_0, hfz25_1, hfz25_2⟩ := qb3 BK102.out
           try go_wp2
           replace BK101 := qO (qkD BK101.out); replace BK102 := qO (qkD BK102.out); replace HB := qO (qbD HB.out); have p105 : 0 ≤ (x5_2 : Int) := qT qa1; have q105 : x5_2 < (l1_1.length : Int) := qT qa1; obtain ⟨ad105, e105, hx105_0⟩ := Kd.at_int HR1_1.out x5_2 p105 q105; have hw105_0 := hx105_0
           cases e105
           replace hx105_0 := (HB.out.cell (qL w _ hx105_0)).trans hx105_0; replace p105 := eq_true p105; replace q105 := eq_true q105; have p108 : 0 ≤ (x5_2 : Int) := qT qa1; have q108 : x5_2 < (l1_1.length : Int) := qT qa1; obtain ⟨ad108, e108, hx108_0⟩ := Kd.at_int HR1_1.out x5_2 p108 q108; have hw108_0 := hx108_0; obtain rfl : ad105 = ad108 := (by injection e108); replace hx108_0 := (HB.out.cell (qL w _ hx108_0)).trans hx108_0; replace p108 := eq_true p108; replace q108 := eq_true q108; refine start_ (n := 19) (S := fun w' => w'.cell? ⟨gb102, 0, none⟩ = some (.int .i64 a1_0) ∧ w'.cell? ⟨gb102, 1, none⟩ = some (.slice (some ad105) l1_1.length c1_1) ∧ w'.cell? ⟨gb102, 2, none⟩ = some (.slice A1_2 l1_2.length c1_2) ∧ w'.cell? (ad105.add (x5_2).toNat) = some (.int .i64 (rd l1_1 x5_2)) ∧ w'.cell? (ad105.add (x5_2).toNat) = some (.int .i64 (rd l1_1 x5_2))) (ds := []) spec_l07OK.y0 qa5 rfl rfl ⟨qc0 BK102.out, qc1 BK102.out, qc2 BK102.out, ((HB.out.cell (qL w _ hw105_0)).trans hw105_0), ((HB.out.cell (qL w _ hw108_0)).trans hw108_0)⟩ (fun hHeld => ?_); refine with_tabW spec_l07OK.tab6 spec_l07OK.bits6 (fun HT_ HW_ => ?_); generalize wr.drew = w26 at BK101 BK102 HB hx105_0 hx108_0 hHeld ⊢; refine qPu 0 25 spec_l07OK.y1 rfl rfl (any_of HT_.out qa5) qa8 qa2 ?_; refine qPu 2 27 spec_l07OK.y2 rfl rfl (any_of HT_.out qa5) qa8 qa2 ?_; refine qTk 1 26 spec_l07OK.y3 rfl rfl (take_ofW HT_.out HW_.out qa5) qa65 hHeld qa2 ?_; refine qPu 3 28 spec_l07OK.y4 rfl rfl (any_of HT_.out qa5) qa8 qa2 ?_; refine qTk 4 29 spec_l07OK.y5 rfl rfl (take_ofW HT_.out HW_.out qa5) qa65 hHeld qa2 ?_; refine one_ (i := 5) (N := some 30) spec_l07OK.y6 rfl rfl (one_of HT_.out qa5) qa51 (fun K hK => ?_); refine goes_ Try.func96 qa5 rfl #[.int .i64 (rd l1_1 x5_2), .int .i64 0, .int .i64 15] (by rfl) rfl rfl qa3 ?_; (with_reducible refine (spec_l01In.calls (rd l1_1 x5_2) 0 15 true _ A18.out).mono ?_); rintro e w' ⟨rfl, ⟨nd, rfl⟩⟩; refine ⟨_, rfl, ?_⟩; obtain ⟨i027, hi027, _, hsz27, _⟩ := info_parts info3; obtain ⟨hcut27, hA27, hC27⟩ := print_take_of (P := Try.prog) (Value.int .i64) 0 60 3 .i64 Try.underlying60 hi027 hsz27 (some ad105) c1_1 l1_1 x5_2 (qT qa1) (qT qa1) HC1_1.out; have HR107 := qO (Kd.C_of_reads (h1 := fun _ => rfl) (hA27 _ (Kd.reads_of_C HR1_1.out))); have HC107 := qO hC27; clear hA27 hC27 hi027 hsz27; refine hK.out _ _ ⟨qc0 BK102.out, qc1 BK102.out, qc2 BK102.out, ((HB.out.cell (qL w _ hw105_0)).trans hw105_0), ((HB.out.cell (qL w _ hw108_0)).trans hw108_0)⟩ (fun hHeld => ?_); clear hK K; refine norm_ (a' := ?_) ?_ ?_; rotate_left
           ·exact qa11
           refine qPu 6 31 spec_l07OK.y7 rfl rfl (any_of HT_.out qa5) qa8 qa2 ?_; refine qPu 7 32 spec_l07OK.y8 rfl rfl (any_of HT_.out qa5) qa8 qa2 ?_; refine qPu 8 33 spec_l07OK.y9 rfl rfl (any_of HT_.out qa5) qa8 qa2 ?_; refine qPu 10 35 spec_l07OK.y10 rfl rfl (any_of HT_.out qa5) qa8 qa2 ?_; refine qPu 12 37 spec_l07OK.y11 rfl rfl (any_of HT_.out qa5) qa8 qa2 ?_; refine qPu 14 39 spec_l07OK.y12 rfl rfl (any_of HT_.out qa5) qa8 qa2 ?_; refine qTk 9 34 spec_l07OK.y13 rfl rfl (take_ofW HT_.out HW_.out qa5) qa65 hHeld qa2 ?_; refine qPu 11 36 spec_l07OK.y14 rfl rfl (any_of HT_.out qa5) qa8 qa2 ?_; refine qTk 13 38 spec_l07OK.y15 rfl rfl (take_ofW HT_.out HW_.out qa5) qa65 hHeld qa2 ?_; refine qPu 15 40 spec_l07OK.y16 rfl rfl (any_of HT_.out qa5) qa8 qa2 ?_; refine qTk 16 41 spec_l07OK.y17 rfl rfl (take_ofW HT_.out HW_.out qa5) qa65 hHeld qa2 ?_; refine one_ (i := 17) (N := some 42) spec_l07OK.y18 rfl rfl (one_of HT_.out qa5) qa51 (fun K hK => ?_); refine goes_ Try.func125 qa5 rfl #[.slice (some ad105) (l1_1.take (x5_2 : Int).toNat).length c1_1, .int .i64 (rd l1_1 x5_2)] (by rfl) rfl rfl qa79 ?_; (with_reducible refine (spec_l07In.calls k2 _ _ (l1_1.take (x5_2 : Int).toNat) (rd l1_1 x5_2) true _ ?side1 ?side2 A22.out).mono ?_); (case side1 => exact qa99); (case side2 => exact HC107.out); rintro e w' ⟨rfl, ⟨nd, rfl⟩⟩; refine ⟨_, rfl, ?_⟩; refine hK.out _ _ ⟨qc0 BK102.out, qc1 BK102.out, qc2 BK102.out, ((HB.out.cell (qL w _ hw105_0)).trans hw105_0), ((HB.out.cell (qL w _ hw108_0)).trans hw108_0)⟩ (fun hHeld => ?_); clear hK K; refine norm_ (a' := ?_) ?_ ?_; rotate_left
           ·exact qa11
           refine qPu 18 43 spec_l07OK.y19 rfl rfl (any_of HT_.out qa5) qa8 qa2 ?_; refine done_ (done_of HT_.out qa5) ?_
           try go_wp2
           go_ret
           exact ⟨qa7, qa13⟩
          ·replace c23 := Bool.eq_false_iff.mpr c23
           subst c23; have H1 : (spec_l07OK.l0 k2 (wrap64 (x5_2 + 1)) a1_0 l1_1 l1_2) = some r := by rw [if_neg (show ¬ (false = true) by decide)] at H; exact H
           clear H; have H := H1; clear H1; have H' := qO H; clear H; have hnb28 := NB102_101.out; have hnc28 := NB101_102.out; obtain ⟨hcz29_0, hcz29_1, hcz29_2, hfz29_0, hfz29_1, hfz29_2⟩ := qb3 BK102.out
           try go_wp2
           replace BK101 := qO (qkD BK101.out); replace BK102 := qO (qkD BK102.out); replace HB := qO (qbD HB.out); have p105 : 0 ≤ (x5_2 : Int) := qT qa1; have q105 : x5_2 < (l1_1.length : Int) := qT qa1; obtain ⟨ad105, e105, hx105_0⟩ := Kd.at_int HR1_1.out x5_2 p105 q105; have hw105_0 := hx105_0
           cases e105
           replace hx105_0 := (HB.out.cell (qL w _ hx105_0)).trans hx105_0; replace p105 := eq_true p105; replace q105 := eq_true q105; have p108 : 0 ≤ (x5_2 : Int) := qT qa1; have q108 : x5_2 < (l1_1.length : Int) := qT qa1; obtain ⟨ad108, e108, hx108_0⟩ := Kd.at_int HR1_1.out x5_2 p108 q108; have hw108_0 := hx108_0; obtain rfl : ad105 = ad108 := (by injection e108); replace hx108_0 := (HB.out.cell (qL w _ hx108_0)).trans hx108_0; replace p108 := eq_true p108; replace q108 := eq_true q108; refine start_ (n := 19) (S := fun w' => w'.cell? ⟨gb102, 0, none⟩ = some (.int .i64 a1_0) ∧ w'.cell? ⟨gb102, 1, none⟩ = some (.slice (some ad105) l1_1.length c1_1) ∧ w'.cell? ⟨gb102, 2, none⟩ = some (.slice A1_2 l1_2.length c1_2) ∧ w'.cell? (ad105.add (x5_2).toNat) = some (.int .i64 (rd l1_1 x5_2)) ∧ w'.cell? (ad105.add (x5_2).toNat) = some (.int .i64 (rd l1_1 x5_2))) (ds := []) spec_l07OK.y0 qa5 rfl rfl ⟨qc0 BK102.out, qc1 BK102.out, qc2 BK102.out, ((HB.out.cell (qL w _ hw105_0)).trans hw105_0), ((HB.out.cell (qL w _ hw108_0)).trans hw108_0)⟩ (fun hHeld => ?_); refine with_tabW spec_l07OK.tab6 spec_l07OK.bits6 (fun HT_ HW_ => ?_); generalize wr.drew = w30 at BK101 BK102 HB hx105_0 hx108_0 hHeld ⊢; refine qPu 0 25 spec_l07OK.y1 rfl rfl (any_of HT_.out qa5) qa8 qa2 ?_; refine qPu 2 27 spec_l07OK.y2 rfl rfl (any_of HT_.out qa5) qa8 qa2 ?_; refine qTk 1 26 spec_l07OK.y3 rfl rfl (take_ofW HT_.out HW_.out qa5) qa65 hHeld qa2 ?_; refine qPu 3 28 spec_l07OK.y4 rfl rfl (any_of HT_.out qa5) qa8 qa2 ?_; refine qTk 4 29 spec_l07OK.y5 rfl rfl (take_ofW HT_.out HW_.out qa5) qa65 hHeld qa2 ?_; refine one_ (i := 5) (N := some 30) spec_l07OK.y6 rfl rfl (one_of HT_.out qa5) qa51 (fun K hK => ?_); refine goes_ Try.func96 qa5 rfl #[.int .i64 (rd l1_1 x5_2), .int .i64 0, .int .i64 15] (by rfl) rfl rfl qa3 ?_; (with_reducible refine (spec_l01In.calls (rd l1_1 x5_2) 0 15 true _ A18.out).mono ?_); rintro e w' ⟨rfl, ⟨nd, rfl⟩⟩; refine ⟨_, rfl, ?_⟩; obtain ⟨i031, hi031, _, hsz31, _⟩ := info_parts info3; obtain ⟨hcut31, hA31, hC31⟩ := print_take_of (P := Try.prog) (Value.int .i64) 0 60 3 .i64 Try.underlying60 hi031 hsz31 (some ad105) c1_1 l1_1 x5_2 (qT qa1) (qT qa1) HC1_1.out; have HR107 := qO (Kd.C_of_reads (h1 := fun _ => rfl) (hA31 _ (Kd.reads_of_C HR1_1.out))); have HC107 := qO hC31; clear hA31 hC31 hi031 hsz31; refine hK.out _ _ ⟨qc0 BK102.out, qc1 BK102.out, qc2 BK102.out, ((HB.out.cell (qL w _ hw105_0)).trans hw105_0), ((HB.out.cell (qL w _ hw108_0)).trans hw108_0)⟩ (fun hHeld => ?_); clear hK K; refine norm_ (a' := ?_) ?_ ?_; rotate_left
           ·exact qa11
           refine qPu 6 31 spec_l07OK.y7 rfl rfl (any_of HT_.out qa5) qa8 qa2 ?_; refine qPu 7 32 spec_l07OK.y8 rfl rfl (any_of HT_.out qa5) qa8 qa2 ?_; refine qPu 8 33 spec_l07OK.y9 rfl rfl (any_of HT_.out qa5) qa8 qa2 ?_; refine qPu 10 35 spec_l07OK.y10 rfl rfl (any_of HT_.out qa5) qa8 qa2 ?_; refine qPu 12 37 spec_l07OK.y11 rfl rfl (any_of HT_.out qa5) qa8 qa2 ?_; refine qPu 14 39 spec_l07OK.y12 rfl rfl (any_of HT_.out qa5) qa8 qa2 ?_; refine qTk 9 34 spec_l07OK.y13 rfl rfl (take_ofW HT_.out HW_.out qa5) qa65 hHeld qa2 ?_; refine qPu 11 36 spec_l07OK.y14 rfl rfl (any_of HT_.out qa5) qa8 qa2 ?_; refine qTk 13 38 spec_l07OK.y15 rfl rfl (take_ofW HT_.out HW_.out qa5) qa65 hHeld qa2 ?_; refine qPu 15 40 spec_l07OK.y16 rfl rfl (any_of HT_.out qa5) qa8 qa2 ?_; refine qTk 16 41 spec_l07OK.y17 rfl rfl (take_ofW HT_.out HW_.out qa5) qa65 hHeld qa2 ?_; refine one_ (i := 17) (N := some 42) spec_l07OK.y18 rfl rfl (one_of HT_.out qa5) qa51 (fun K hK => ?_); refine goes_ Try.func125 qa5 rfl #[.slice (some ad105) (l1_1.take (x5_2 : Int).toNat).length c1_1, .int .i64 (rd l1_1 x5_2)] (by rfl) rfl rfl qa79 ?_; (with_reducible refine (spec_l07In.calls k2 _ _ (l1_1.take (x5_2 : Int).toNat) (rd l1_1 x5_2) false _ ?side1 ?side2 A22.out).mono ?_); (case side1 => exact qa99); (case side2 => exact HC107.out); rintro e w' ⟨rfl, ⟨nd, rfl⟩⟩; refine ⟨_, rfl, ?_⟩; refine hK.out _ _ ⟨qc0 BK102.out, qc1 BK102.out, qc2 BK102.out, ((HB.out.cell (qL w _ hw105_0)).trans hw105_0), ((HB.out.cell (qL w _ hw108_0)).trans hw108_0)⟩ (fun hHeld => ?_); clear hK K; refine norm_ (a' := ?_) ?_ ?_; rotate_left
           ·exact qa11
           refine qPu 18 43 spec_l07OK.y19 rfl rfl (any_of HT_.out qa5) qa8 qa2 ?_; refine done_ (done_of HT_.out qa5) ?_
           try go_wp2
           go_roundg k2
           case measure => have := HJ2.out; have := HK2.out; omega
           case rel => exact ⟨(wrap64 (x5_2 + 1)), qa12, H', ⟨by have := HJ2.out; have := HK2.out; omega⟩, ⟨qa17⟩, ⟨qa28⟩, ⟨qa13⟩⟩
         ·rw [if_neg c21] at H
          exact absurd H qa117
        ·replace c19 := Bool.eq_false_iff.mpr c19
         subst c19; have H1 : (some false) = some r := by rw [if_neg (show ¬ (false = true) by decide)] at H; exact H
         clear H; have H := H1; clear H1; obtain rfl := Option.some.inj H; have hnb32 := NB102_101.out; have hnc32 := NB101_102.out; obtain ⟨hcz33_0, hcz33_1, hcz33_2, hfz33_0, hfz33_1, hfz33_2⟩ := qb3 BK102.out
         try go_wp2
         replace BK101 := qO (qkD BK101.out); replace BK102 := qO (qkD BK102.out); replace HB := qO (qbD HB.out); have p105 : 0 ≤ (x5_2 : Int) := qT qa1; have q105 : x5_2 < (l1_1.length : Int) := qT qa1; obtain ⟨ad105, e105, hx105_0⟩ := Kd.at_int HR1_1.out x5_2 p105 q105; have hw105_0 := hx105_0
         cases e105
         replace hx105_0 := (HB.out.cell (qL w _ hx105_0)).trans hx105_0; replace p105 := eq_true p105; replace q105 := eq_true q105; refine start_ (n := 19) (S := fun w' => w'.cell? ⟨gb102, 0, none⟩ = some (.int .i64 a1_0) ∧ w'.cell? ⟨gb102, 1, none⟩ = some (.slice (some ad105) l1_1.length c1_1) ∧ w'.cell? ⟨gb102, 2, none⟩ = some (.slice A1_2 l1_2.length c1_2) ∧ w'.cell? (ad105.add (x5_2).toNat) = some (.int .i64 (rd l1_1 x5_2))) (ds := []) spec_l07OK.y0 qa5 rfl rfl ⟨qc0 BK102.out, qc1 BK102.out, qc2 BK102.out, ((HB.out.cell (qL w _ hw105_0)).trans hw105_0)⟩ (fun hHeld => ?_); refine with_tabW spec_l07OK.tab6 spec_l07OK.bits6 (fun HT_ HW_ => ?_); generalize wr.drew = w34 at BK101 BK102 HB hx105_0 hHeld ⊢; refine qPu 0 25 spec_l07OK.y1 rfl rfl (any_of HT_.out qa5) qa8 qa2 ?_; refine qPu 2 27 spec_l07OK.y2 rfl rfl (any_of HT_.out qa5) qa8 qa2 ?_; refine qTk 1 26 spec_l07OK.y3 rfl rfl (take_ofW HT_.out HW_.out qa5) qa45 hHeld qa2 ?_; refine qPu 3 28 spec_l07OK.y4 rfl rfl (any_of HT_.out qa5) qa8 qa2 ?_; refine qTk 4 29 spec_l07OK.y5 rfl rfl (take_ofW HT_.out HW_.out qa5) qa45 hHeld qa2 ?_; refine one_ (i := 5) (N := some 30) spec_l07OK.y6 rfl rfl (one_of HT_.out qa5) qa51 (fun K hK => ?_); refine goes_ Try.func96 qa5 rfl #[.int .i64 (rd l1_1 x5_2), .int .i64 0, .int .i64 15] (by rfl) rfl rfl qa3 ?_; (with_reducible refine (spec_l01In.calls (rd l1_1 x5_2) 0 15 false _ A18.out).mono ?_); rintro e w' ⟨rfl, ⟨nd, rfl⟩⟩; refine ⟨_, rfl, ?_⟩; refine hK.out _ _ ⟨qc0 BK102.out, qc1 BK102.out, qc2 BK102.out, ((HB.out.cell (qL w _ hw105_0)).trans hw105_0)⟩ (fun hHeld => ?_); clear hK K; refine norm_ (a' := ?_) ?_ ?_; rotate_left
         ·exact qa11
         refine qPu 6 31 spec_l07OK.y7 rfl rfl (any_of HT_.out qa5) qa8 qa2 ?_; refine qPu 7 32 spec_l07OK.y8 rfl rfl (any_of HT_.out qa5) qa8 qa2 ?_; refine pure_ (i := 8) (N := some 33) (v := undef) (a' := ?_) spec_l07OK.y9 rfl rfl (any_of HT_.out qa5) (fun _ _ _ h => h) (Or.inr ⟨by rfl, rfl⟩) ?_ ?_; rotate_left
         ·simp only [Act.put, qzA, qzB, qzC, i64_w, i32_w]
          rfl
         refine pure_ (i := 9) (N := some 34) (v := undef) (a' := ?_) spec_l07OK.y20 rfl rfl (any_of HT_.out qa5) (fun _ _ _ h => h) (Or.inr ⟨by rfl, rfl⟩) ?_ ?_; rotate_left
         ·simp only [Act.put, qzA, qzB, qzC, i64_w, i32_w]
          rfl
         refine pure_ (i := 10) (N := some 35) (v := undef) (a' := ?_) spec_l07OK.y21 rfl rfl (any_of HT_.out qa5) (fun _ _ _ h => h) (Or.inr ⟨by rfl, rfl⟩) ?_ ?_; rotate_left
         ·simp only [Act.put, qzA, qzB, qzC, i64_w, i32_w]
          rfl
         refine pure_ (i := 11) (N := some 36) (v := undef) (a' := ?_) spec_l07OK.y22 rfl rfl (any_of HT_.out qa5) (fun _ _ _ h => h) (Or.inr ⟨by rfl, rfl⟩) ?_ ?_; rotate_left
         ·simp only [Act.put, qzA, qzB, qzC, i64_w, i32_w]
          rfl
         refine pure_ (i := 12) (N := some 37) (v := undef) (a' := ?_) spec_l07OK.y23 rfl rfl (any_of HT_.out qa5) (fun _ _ _ h => h) (Or.inr ⟨by rfl, rfl⟩) ?_ ?_; rotate_left
         ·simp only [Act.put, qzA, qzB, qzC, i64_w, i32_w]
          rfl
         refine pure_ (i := 13) (N := some 38) (v := undef) (a' := ?_) spec_l07OK.y24 rfl rfl (any_of HT_.out qa5) (fun _ _ _ h => h) (Or.inr ⟨by rfl, rfl⟩) ?_ ?_; rotate_left
         ·simp only [Act.put, qzA, qzB, qzC, i64_w, i32_w]
          rfl
         refine pure_ (i := 14) (N := some 39) (v := undef) (a' := ?_) spec_l07OK.y15 rfl rfl (any_of HT_.out qa5) (fun _ _ _ h => h) (Or.inr ⟨by rfl, rfl⟩) ?_ ?_; rotate_left
         ·simp only [Act.put, qzA, qzB, qzC, i64_w, i32_w]
          rfl
         refine pure_ (i := 15) (N := some 40) (v := undef) (a' := ?_) spec_l07OK.y16 rfl rfl (any_of HT_.out qa5) (fun _ _ _ h => h) (Or.inr ⟨by rfl, rfl⟩) ?_ ?_; rotate_left
         ·simp only [Act.put, qzA, qzB, qzC, i64_w, i32_w]
          rfl
         refine pure_ (i := 16) (N := some 41) (v := undef) (a' := ?_) spec_l07OK.y17 rfl rfl (any_of HT_.out qa5) (fun _ _ _ h => h) (Or.inr ⟨by rfl, rfl⟩) ?_ ?_; rotate_left
         ·simp only [Act.put, qzA, qzB, qzC, i64_w, i32_w]
          rfl
         refine pure_ (i := 17) (N := some 42) (v := undef) (a' := ?_) spec_l07OK.y18 rfl rfl (any_of HT_.out qa5) (fun _ _ _ h => h) (Or.inr ⟨by rfl, rfl⟩) ?_ ?_; rotate_left
         ·simp only [Act.put, qzA, qzB, qzC, i64_w, i32_w]
          rfl
         refine qPu 18 43 spec_l07OK.y19 rfl rfl (any_of HT_.out qa5) qa8 qa2 ?_; refine done_ (done_of HT_.out qa5) ?_
         try go_wp2
         go_ret
         exact ⟨qa7, qa13⟩
       ·rw [if_neg c17] at H
        exact absurd H qa117
      ·rw [if_neg c16] at H
       have c16b0 : decide (x5_2 < (l1_1.length : Int)) = false := decide_eq_false c16; clear c16; obtain rfl := Option.some.inj H; have hnb35 := NB102_101.out; have hnc35 := NB101_102.out; obtain ⟨hcz36_0, hcz36_1, hcz36_2, hfz36_0, hfz36_1, hfz36_2⟩ := qb3 BK102.out; go_wp2
       go_ret
       exact ⟨qa7, qa13⟩


def spec_TxnOK.f (k : Nat) (l0_0 : List (List (S43))) (a0_1 : Int) (a1_0 : Int) (l1_1 : List Int) (l1_2 : List (S58)) : Option (Bool) := (spec_StoreOK.f k l0_0 a0_1).bind fun t103 => (if t103 = true then ((spec_l07OK.f k l0_0 a0_1 a1_0 l1_1 l1_2).bind fun t104 => (some t104)) else (some false))
set_option maxHeartbeats 8000000 in
set_option maxRecDepth 100000 in
theorem spec_TxnOK.calls (k : Nat) (A0_0 : Option Addr) (c0_0 : Nat) (l0_0 : List (List (S43))) (a0_1 : Int) (a1_0 : Int) (A1_1 : Option Addr) (c1_1 : Nat) (l1_1 : List Int) (A1_2 : Option Addr) (c1_2 : Nat) (l1_2 : List (S58)) (r : Bool) (w : World) (hr0_0 : Kd.C (Kd.slice 43 k43) w A0_0 l0_0.length l0_0) (hc0_0 : l0_0.length ≤ c0_0) (hr1_1 : Kd.C (Kd.int .i64) w A1_1 l1_1.length l1_1) (hc1_1 : l1_1.length ≤ c1_1) (hr1_2 : Kd.C k58 w A1_2 l1_2.length l1_2) (hc1_2 : l1_2.length ≤ c1_2) (h : spec_TxnOK.f k l0_0 a0_1 a1_0 l1_1 l1_2 = some r) :
  Calls Try.prog 87 #[.agg #[.slice A0_0 l0_0.length c0_0, .int .i64 a0_1], .agg #[.int .i64 a1_0, .slice A1_1 l1_1.length c1_1, .slice A1_2 l1_2.length c1_2]] w fun e w' => e = .returned (.bool r) ∧ Below w.heap.size w w' := by
 have hu28 := Try.underlying28; have hu65 := Try.underlying65; have HR0_0 := qO hr0_0; have HC0_0 := qO hc0_0; clear hr0_0 hc0_0; have HR1_1 := qO hr1_1; have HC1_1 := qO hc1_1; clear hr1_1 hc1_1; have HR1_2 := qO hr1_2; have HC1_2 := qO hc1_2; clear hr1_2 hc1_2; have HB := qO (Below.refl w.heap.size w); have H : ((spec_StoreOK.f k l0_0 a0_1).bind fun t103 => (if t103 = true then ((spec_l07OK.f k l0_0 a0_1 a1_0 l1_1 l1_2).bind fun t104 => (some t104)) else (some false))) = some r := h; clear h; replace H := Option.bind_eq_some_iff.mp H; obtain ⟨t103, A30, H⟩ := H; replace H : (if t103 = true then ((spec_l07OK.f k l0_0 a0_1 a1_0 l1_1 l1_2).bind fun t104 => (some t104)) else (some false)) = some r := H; have A3 := qO A30; clear A30
 by_cases c4 : t103 = true
 ·subst c4
  have H1 : ((spec_l07OK.f k l0_0 a0_1 a1_0 l1_1 l1_2).bind fun t104 => (some t104)) = some r := by rw [if_pos rfl] at H; exact H
  clear H; have H := H1; clear H1; replace H := Option.bind_eq_some_iff.mp H; obtain ⟨t104, A50, H⟩ := H; replace H : (some t104) = some r := H; have A5 := qO A50; clear A50; obtain rfl := Option.some.inj H
  go_enter Try.func87, Try.ntmps87
  go_wp2_with (first | ((with_reducible refine gate_dst (N := 2) rfl ?_); refine qX 2 #[.slice A0_0 l0_0.length c0_0, .int .i64 a0_1] 28 ?_; intro gb101 hg w6 hbox hb; have hx_ := qHX HB hb qa0; have BK101 := qO (hbox); have GW101 := qO ((qa9 : w.heap.size ≤ gb101)); have GE101 := GW101; replace HB := qO (below_step (below_step HB.out hx_) hb); clear hx_ hb hbox hg) | ((with_reducible refine gate_dst (N := 3) rfl ?_); refine qX 3 #[.int .i64 a1_0, .slice A1_1 l1_1.length c1_1, .slice A1_2 l1_2.length c1_2] 65 ?_; intro gb102 hg w7 hbox hb; have hx_ := qHX HB hb qa0; have BK102 := qO (hbox); have GW102 := qO ((qa9 : w.heap.size ≤ gb102)); have GE102 := GW102; have NB101_102 := qO ((qa4 : gb101 ≠ gb102)); have NB102_101 := qO (Ne.symm NB101_102.out); replace BK101 := qO (qB BK101.out hx_ hb); replace HB := qO (below_step (below_step HB.out hx_) hb); clear hx_ hb hbox hg; have hnb8 := NB101_102.out; have hnc8 := NB102_101.out; obtain ⟨hcz9_0, hcz9_1, hfz9_0, hfz9_1⟩ := qb2 BK101.out) | ((with_reducible refine gate_callee (f := 70) rfl ?_); refine goesL_ (some 6) rfl rfl Try.func70 qa5 rfl #[.agg #[.slice A0_0 l0_0.length c0_0, .int .i64 a0_1]] rfl qa3 ?_; (with_reducible refine (spec_StoreOK.calls k _ _ l0_0 a0_1 true _ ?side1 ?side2 A3.out).mono ?_); (case side1 => exact qa18); (case side2 => exact HC0_0.out); rintro e w10 ⟨rfl, hb⟩; have hx_ := qHX HB hb qa0; refine ⟨_, rfl, ?_⟩; replace BK101 := qO (qB BK101.out hx_ hb); replace BK102 := qO (qB BK102.out hx_ hb); replace HB := qO (below_step (below_step HB.out hx_) hb); clear hx_; (try clear hb); (try clear hb2); (try clear hk); (try clear hi); obtain ⟨hcz11_0, hcz11_1, hfz11_0, hfz11_1⟩ := qb2 BK101.out; obtain ⟨hcz12_0, hcz12_1, hcz12_2, hfz12_0, hfz12_1, hfz12_2⟩ := qb3 BK102.out) | (go_at_call 123; (with_reducible refine (spec_l07OK.calls k _ _ l0_0 a0_1 a1_0 _ _ l1_1 _ _ l1_2 t104 _ ?side1 ?side2 ?side3 ?side4 ?side5 ?side6 A5.out).mono ?_); (case side1 => exact qa18); (case side2 => exact HC0_0.out); (case side3 => exact qa37); (case side4 => exact HC1_1.out); (case side5 => exact qa38); (case side6 => exact HC1_2.out); rintro e w13 ⟨rfl, hb⟩; have hx_ := qHX HB hb qa0; replace BK101 := qO (qB BK101.out hx_ hb); replace BK102 := qO (qB BK102.out hx_ hb); replace HB := qO (below_step (below_step HB.out hx_) hb); clear hx_; (try clear hb); (try clear hb2); (try clear hk); (try clear hi)))
  go_ret
  exact ⟨qa7, qa13⟩
 ·replace c4 := Bool.eq_false_iff.mpr c4
  subst c4; have H1 : (some false) = some r := by rw [if_neg (show ¬ (false = true) by decide)] at H; exact H
  clear H; have H := H1; clear H1; obtain rfl := Option.some.inj H
  go_enter Try.func87, Try.ntmps87
  go_wp2_with (first | ((with_reducible refine gate_dst (N := 2) rfl ?_); refine qX 2 #[.slice A0_0 l0_0.length c0_0, .int .i64 a0_1] 28 ?_; intro gb101 hg w14 hbox hb; have hx_ := qHX HB hb qa0; have BK101 := qO (hbox); have GW101 := qO ((qa9 : w.heap.size ≤ gb101)); have GE101 := GW101; replace HB := qO (below_step (below_step HB.out hx_) hb); clear hx_ hb hbox hg) | ((with_reducible refine gate_dst (N := 3) rfl ?_); refine qX 3 #[.int .i64 a1_0, .slice A1_1 l1_1.length c1_1, .slice A1_2 l1_2.length c1_2] 65 ?_; intro gb102 hg w15 hbox hb; have hx_ := qHX HB hb qa0; have BK102 := qO (hbox); have GW102 := qO ((qa9 : w.heap.size ≤ gb102)); have GE102 := GW102; have NB101_102 := qO ((qa4 : gb101 ≠ gb102)); have NB102_101 := qO (Ne.symm NB101_102.out); replace BK101 := qO (qB BK101.out hx_ hb); replace HB := qO (below_step (below_step HB.out hx_) hb); clear hx_ hb hbox hg; have hnb16 := NB101_102.out; have hnc16 := NB102_101.out; obtain ⟨hcz17_0, hcz17_1, hfz17_0, hfz17_1⟩ := qb2 BK101.out) | ((with_reducible refine gate_callee (f := 70) rfl ?_); refine goesL_ (some 6) rfl rfl Try.func70 qa5 rfl #[.agg #[.slice A0_0 l0_0.length c0_0, .int .i64 a0_1]] rfl qa3 ?_; (with_reducible refine (spec_StoreOK.calls k _ _ l0_0 a0_1 false _ ?side1 ?side2 A3.out).mono ?_); (case side1 => exact qa18); (case side2 => exact HC0_0.out); rintro e w18 ⟨rfl, hb⟩; have hx_ := qHX HB hb qa0; refine ⟨_, rfl, ?_⟩; replace BK101 := qO (qB BK101.out hx_ hb); replace BK102 := qO (qB BK102.out hx_ hb); replace HB := qO (below_step (below_step HB.out hx_) hb); clear hx_; (try clear hb); (try clear hb2); (try clear hk); (try clear hi)))
  go_ret
  exact ⟨qa7, qa13⟩

end Go.Proofs.Ytfiboooflebdpaa.Q
