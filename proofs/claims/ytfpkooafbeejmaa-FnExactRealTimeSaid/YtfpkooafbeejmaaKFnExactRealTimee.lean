/- Texts of the claim on FnExactRealTime, gathered by a program of this session: what the program's functions compute (proved by walks), and the plain part. -/
import Derived.Test.YtfpkooafbeejmaaKFnExactRealTimed
namespace Go.Proofs.Ytfpkooafbeejmaa.Q
open Go.RowKit Go.Proofs.YtfpkooafbeejmaaW.PrintWords Go.Proofs.YtfpkooafbeejmaaW.PrintLast Go.Proofs.YtfpkooafbeejmaaW.PrintMore
attribute [local go_sem] max2_int min2_int max_two min_two max_three min_three max_four min_four
set_option linter.unusedVariables false
set_option linter.unusedSimpArgs false
set_option maxHeartbeats 8000000
set_option maxRecDepth 100000
def laws_markSelS.l0 : Nat → List (S161) → Int → Int → Option Int
 | 0, _, _, _ => none
 | k + 1, l, m, i => if i < (l.length : Int) then (if 0 ≤ i then ((laws_markText.f k (wrap64 (m + 1))).bind fun t1_ => ((laws_markText.f k (wrap64 ((wrap64 (m + 1)) + 1))).bind fun t2_ => ((laws_markArgS.l0 k (rd_T161 l i).f3 (wrap64 ((wrap64 ((wrap64 (m + 1)) + 1)) + 1)) 0).bind fun t3_ => ((laws_markDirS.l0 k (rd_T161 l i).f4 t3_ 0).bind fun t4_ => ((laws_markSelS.l0 k (rd_T161 l i).f5 t4_ 0).bind fun t5_ => laws_markSelS.l0 k l t5_ (wrap64 (i + 1))))))) else none) else some m
def laws_markSelS.f (k : Nat) (l0 : List (S161)) (a1 : Int) : Option Int := laws_markSelS.l0 k l0 a1 0
theorem laws_markSelS.callsW (k : Nat) : ∀ (ok : Nat → Prop) (base : Nat) (v : Value) (l : List (S161)) (m r : Int) (d w : World) (hR : Kd.R (k161) 161 d base ok v l) (hS : wk_Sk ok d w) (h : laws_markSelS.l0 k l m 0 = some r),
  Calls Try.prog 111 #[v, .int .i64 m] w fun e w' => e = .returned (.int .i64 r) ∧ wk_Sk ok d w' := by
 induction k using Nat.strongRecOn with
 | _ k ih =>
 intro ok base v l m r d w hR hS h; have hu161 := Try.underlying161; obtain ⟨A0, c0, e0⟩ := Kd.R_slice hR; subst e0; have HR := qO hR; have HS0 := qO hS; have H0' := qO h; clear h hR hS
 go_enter Try.func111, Try.ntmps111
 go_wp2
 go_loopg [1, 5] k (fun kq v1 v5 w' => ∃ (m i : Int), v1 = .int .i64 m ∧ v5 = .int .i64 i ∧ Aside0 (laws_markSelS.l0 kq l m i = some r) ∧ Aside0 (kq ≤ k) ∧ Aside0 (wk_Sk ok d w'))
 case atStart => exact ⟨m, 0, rfl, rfl, H0', ⟨Nat.le_refl _⟩, HS0⟩
 case round =>
  clear H0' HS0; obtain ⟨m, i, rfl, rfl, HA, HK1, HSwr⟩ := hrel
  cases gk with
  | zero => exact absurd HA.out (by simp [laws_markSelS.l0])
  | succ k1 =>
   have H := HA.out; clear HA; simp only [laws_markSelS.l0] at H
   by_cases c1 : i < (l.length : Int)
   ·rw [if_pos c1] at H
    by_cases c2 : 0 ≤ i
    ·rw [if_pos c2] at H
     obtain ⟨xe, hxe⟩ : ∃ xe, xe = rd_T161 l i := ⟨_, rfl⟩; (try rw [← hxe] at H); replace H := Option.bind_eq_some_iff.mp H; obtain ⟨t1_, A1_0, H⟩ := H; have A1_ := qO A1_0; clear A1_0; replace H := Option.bind_eq_some_iff.mp H; obtain ⟨t2_, A2_0, H⟩ := H; have A2_ := qO A2_0; clear A2_0; replace H := Option.bind_eq_some_iff.mp H; obtain ⟨t3_, A3_0, H⟩ := H; have A3_ := qO A3_0; clear A3_0; replace H := Option.bind_eq_some_iff.mp H; obtain ⟨t4_, A4_0, H⟩ := H; have A4_ := qO A4_0; clear A4_0; replace H := Option.bind_eq_some_iff.mp H; obtain ⟨t5_, A5_0, H⟩ := H; have A5_ := qO A5_0; clear A5_0; have H' := qO (show laws_markSelS.l0 k1 l t5_ (wrap64 (i + 1)) = some r from H); clear H; have c1b := decide_eq_true c1; have c2b := decide_eq_true c2; obtain ⟨go, co, eo, gb, gl, cl, HG⟩ := Kd.R_form HR.out qa5; (first | cases eo | (injection eo with ea_ en_ ec_; (first | subst ea_ | (injection ea_ with ea_; subst ea_)); subst ec_; clear en_)); have HOK := qO (HR.out.1 go rfl); have HGd := qO HG; obtain ⟨ce, hcl, hM, hcc, hfr⟩ := Kd.R_elem HR.out z161 i c2 c1; rw [show List.getD l i.toNat z161 = xe from hxe.symm] at hM; clear hxe; obtain ⟨v3_, v4_, v5_, rfl, g3_, g4_, g5_⟩ := k161_openM hM; have hd0 : d.cell? ⟨go, i.toNat * 6, none⟩ = some (.int .i64 (xe.f0)) := hcc 0 _ rfl; have hd1 : d.cell? ⟨go, i.toNat * 6 + 1, none⟩ = some (.string (xe.f1)) := hcc 1 _ rfl; have hd2 : d.cell? ⟨go, i.toNat * 6 + 2, none⟩ = some (.string (xe.f2)) := hcc 2 _ rfl; have hd3 : d.cell? ⟨go, i.toNat * 6 + 3, none⟩ = some (v3_) := hcc 3 _ rfl; have hd4 : d.cell? ⟨go, i.toNat * 6 + 4, none⟩ = some (v4_) := hcc 4 _ rfl; have hd5 : d.cell? ⟨go, i.toNat * 6 + 5, none⟩ = some (v5_) := hcc 5 _ rfl; obtain ⟨Av3, cv3, ev3⟩ := Kd.R_slice g3_; obtain ⟨Av4, cv4, ev4⟩ := Kd.R_slice g4_; obtain ⟨Av5, cv5, ev5⟩ := Kd.R_slice g5_; subst ev3; subst ev4; subst ev5; have HR3 := qO (Kd.R_mono (ok' := ok) g3_ (fun _ hk => hk.1)); have HR4 := qO (Kd.R_mono (ok' := ok) g4_ (fun _ hk => hk.1)); have HR5 := qO (Kd.R_mono (ok' := ok) g5_ (fun _ hk => hk.1)); obtain ⟨uwr_0, hxwr_0⟩ := wk_some HSwr.out HGd.out hd0; obtain ⟨uwr_1, hxwr_1⟩ := wk_some HSwr.out HGd.out hd1; obtain ⟨uwr_2, hxwr_2⟩ := wk_some HSwr.out HGd.out hd2; have hxwr_3 := wk_slice HSwr.out HGd.out hd3; have hxwr_4 := wk_slice HSwr.out HGd.out hd4; have hxwr_5 := wk_slice HSwr.out HGd.out hd5; have hfwr_0 : wr.frozen? ⟨go, i.toNat * 6, none⟩ = false := wk_froz HSwr.out HGd.out _; have hfwr_1 : wr.frozen? ⟨go, i.toNat * 6 + 1, none⟩ = false := wk_froz HSwr.out HGd.out _; have hfwr_2 : wr.frozen? ⟨go, i.toNat * 6 + 2, none⟩ = false := wk_froz HSwr.out HGd.out _; clear hcc hfr hcl HG gb gl g3_ g4_ g5_; (try clear hM); replace c1 := eq_true c1; replace c2 := eq_true c2
     go_wp2_with (first | ((with_reducible refine gate_callee (f := 77) rfl ?_); refine goesL_ (some 22) rfl rfl Try.func77 qa8 rfl #[.int .i64 (wrap64 (m + 1))] rfl qa7 ?_; (with_reducible refine (laws_markText.calls k1 (wrap64 (m + 1)) t1_ _ A1_.out).mono ?_); rintro e w1x ⟨rfl, hd_⟩; have HSw1x := qO (wk_below (wk_set HSwr.out HGd.out HOK.out hd0 qa11 _) hd_); clear hd_; refine ⟨_, rfl, ?_⟩; obtain ⟨uw1x_0, hxw1x_0⟩ := wk_some HSw1x.out HGd.out hd0; obtain ⟨uw1x_1, hxw1x_1⟩ := wk_some HSw1x.out HGd.out hd1; obtain ⟨uw1x_2, hxw1x_2⟩ := wk_some HSw1x.out HGd.out hd2; have hxw1x_3 := wk_slice HSw1x.out HGd.out hd3; have hxw1x_4 := wk_slice HSw1x.out HGd.out hd4; have hxw1x_5 := wk_slice HSw1x.out HGd.out hd5; have hfw1x_0 : w1x.frozen? ⟨go, i.toNat * 6, none⟩ = false := wk_froz HSw1x.out HGd.out _; have hfw1x_1 : w1x.frozen? ⟨go, i.toNat * 6 + 1, none⟩ = false := wk_froz HSw1x.out HGd.out _; have hfw1x_2 : w1x.frozen? ⟨go, i.toNat * 6 + 2, none⟩ = false := wk_froz HSw1x.out HGd.out _) | ((with_reducible refine gate_callee (f := 77) rfl ?_); refine goesL_ (some 30) rfl rfl Try.func77 qa8 rfl #[.int .i64 (wrap64 ((wrap64 (m + 1)) + 1))] rfl qa7 ?_; (with_reducible refine (laws_markText.calls k1 (wrap64 ((wrap64 (m + 1)) + 1)) t2_ _ A2_.out).mono ?_); rintro e w2x ⟨rfl, hd_⟩; have HSw2x := qO (wk_below (wk_set HSw1x.out HGd.out HOK.out hd1 qa11 _) hd_); clear hd_; refine ⟨_, rfl, ?_⟩; obtain ⟨uw2x_0, hxw2x_0⟩ := wk_some HSw2x.out HGd.out hd0; obtain ⟨uw2x_1, hxw2x_1⟩ := wk_some HSw2x.out HGd.out hd1; obtain ⟨uw2x_2, hxw2x_2⟩ := wk_some HSw2x.out HGd.out hd2; have hxw2x_3 := wk_slice HSw2x.out HGd.out hd3; have hxw2x_4 := wk_slice HSw2x.out HGd.out hd4; have hxw2x_5 := wk_slice HSw2x.out HGd.out hd5; have hfw2x_0 : w2x.frozen? ⟨go, i.toNat * 6, none⟩ = false := wk_froz HSw2x.out HGd.out _; have hfw2x_1 : w2x.frozen? ⟨go, i.toNat * 6 + 1, none⟩ = false := wk_froz HSw2x.out HGd.out _; have hfw2x_2 : w2x.frozen? ⟨go, i.toNat * 6 + 2, none⟩ = false := wk_froz HSw2x.out HGd.out _) | ((with_reducible refine gate_callee (f := 128) rfl ?_); refine goesL_ (some 41) rfl rfl Try.func128 qa8 rfl #[.slice Av3 (xe.f3).length cv3, .int .i64 (wrap64 ((wrap64 ((wrap64 (m + 1)) + 1)) + 1))] rfl qa7 ?_; refine ((laws_markArgS.callsW k1) ok base _ _ (wrap64 ((wrap64 ((wrap64 (m + 1)) + 1)) + 1)) t3_ d _ HR3.out (wk_set HSw2x.out HGd.out HOK.out hd2 qa11 _) A3_.out).mono ?_; rintro e w3x ⟨rfl, hS_⟩; have HSw3x := qO hS_; clear hS_; refine ⟨_, rfl, ?_⟩; obtain ⟨uw3x_0, hxw3x_0⟩ := wk_some HSw3x.out HGd.out hd0; obtain ⟨uw3x_1, hxw3x_1⟩ := wk_some HSw3x.out HGd.out hd1; obtain ⟨uw3x_2, hxw3x_2⟩ := wk_some HSw3x.out HGd.out hd2; have hxw3x_3 := wk_slice HSw3x.out HGd.out hd3; have hxw3x_4 := wk_slice HSw3x.out HGd.out hd4; have hxw3x_5 := wk_slice HSw3x.out HGd.out hd5; have hfw3x_0 : w3x.frozen? ⟨go, i.toNat * 6, none⟩ = false := wk_froz HSw3x.out HGd.out _; have hfw3x_1 : w3x.frozen? ⟨go, i.toNat * 6 + 1, none⟩ = false := wk_froz HSw3x.out HGd.out _; have hfw3x_2 : w3x.frozen? ⟨go, i.toNat * 6 + 2, none⟩ = false := wk_froz HSw3x.out HGd.out _) | ((with_reducible refine gate_callee (f := 129) rfl ?_); refine goesL_ (some 48) rfl rfl Try.func129 qa8 rfl #[.slice Av4 (xe.f4).length cv4, .int .i64 t3_] rfl qa7 ?_; refine ((laws_markDirS.callsW k1) ok base _ _ t3_ t4_ d _ HR4.out HSw3x.out A4_.out).mono ?_; rintro e w4x ⟨rfl, hS_⟩; have HSw4x := qO hS_; clear hS_; refine ⟨_, rfl, ?_⟩; obtain ⟨uw4x_0, hxw4x_0⟩ := wk_some HSw4x.out HGd.out hd0; obtain ⟨uw4x_1, hxw4x_1⟩ := wk_some HSw4x.out HGd.out hd1; obtain ⟨uw4x_2, hxw4x_2⟩ := wk_some HSw4x.out HGd.out hd2; have hxw4x_3 := wk_slice HSw4x.out HGd.out hd3; have hxw4x_4 := wk_slice HSw4x.out HGd.out hd4; have hxw4x_5 := wk_slice HSw4x.out HGd.out hd5; have hfw4x_0 : w4x.frozen? ⟨go, i.toNat * 6, none⟩ = false := wk_froz HSw4x.out HGd.out _; have hfw4x_1 : w4x.frozen? ⟨go, i.toNat * 6 + 1, none⟩ = false := wk_froz HSw4x.out HGd.out _; have hfw4x_2 : w4x.frozen? ⟨go, i.toNat * 6 + 2, none⟩ = false := wk_froz HSw4x.out HGd.out _) | ((with_reducible refine gate_callee (f := 111) rfl ?_); refine goesL_ (some 55) rfl rfl Try.func111 qa8 rfl #[.slice Av5 (xe.f5).length cv5, .int .i64 t4_] rfl qa7 ?_; refine ((ih k1 qa9) ok base _ _ t4_ t5_ d _ HR5.out HSw4x.out A5_.out).mono ?_; rintro e w5x ⟨rfl, hS_⟩; have HSw5x := qO hS_; clear hS_; refine ⟨_, rfl, ?_⟩; obtain ⟨uw5x_0, hxw5x_0⟩ := wk_some HSw5x.out HGd.out hd0; obtain ⟨uw5x_1, hxw5x_1⟩ := wk_some HSw5x.out HGd.out hd1; obtain ⟨uw5x_2, hxw5x_2⟩ := wk_some HSw5x.out HGd.out hd2; have hxw5x_3 := wk_slice HSw5x.out HGd.out hd3; have hxw5x_4 := wk_slice HSw5x.out HGd.out hd4; have hxw5x_5 := wk_slice HSw5x.out HGd.out hd5; have hfw5x_0 : w5x.frozen? ⟨go, i.toNat * 6, none⟩ = false := wk_froz HSw5x.out HGd.out _; have hfw5x_1 : w5x.frozen? ⟨go, i.toNat * 6 + 1, none⟩ = false := wk_froz HSw5x.out HGd.out _; have hfw5x_2 : w5x.frozen? ⟨go, i.toNat * 6 + 2, none⟩ = false := wk_froz HSw5x.out HGd.out _))
     go_roundg k1
     case measure => have := HK1.out; omega
     case rel => exact ⟨t5_, wrap64 (i + 1), qa4, qa4, H', ⟨qa9⟩, ⟨HSw5x.out⟩⟩
    ·rw [if_neg c2] at H
     exact absurd H qa12
   ·rw [if_neg c1] at H
    have c1b := decide_eq_false c1; clear c1; simp only [Option.some.injEq] at H; subst H; go_wp2
    go_ret
    exact ⟨rfl, HSwr.out⟩
theorem laws_markSelS.calls (k : Nat) (P0_ : Nat → Prop) (u9000_ : Value) (l0 : List (S161)) (a1 : Int) (r1 : Int) (w0 w : World) (hB : Below w0.heap.size w0 w) (ho0 : Kd.R (k161) 161 w w0.heap.size P0_ u9000_ l0) (h : laws_markSelS.f k l0 a1 = some r1) :
  Calls Try.prog 111 #[u9000_, .int .i64 a1] w fun e w' => e = .returned (.int .i64 r1) ∧ Below w0.heap.size w0 w' ∧ Kept w w' (fun k_ => P0_ k_) := by
 refine (laws_markSelS.callsW k (fun k_ => P0_ k_ ∧ w0.heap.size ≤ k_) w0.heap.size u9000_ l0 a1 r1 w w (Kd.R_mono (Kd.R_bound ho0) (fun k_ hk_ => ⟨hk_.1, hk_.2.1⟩)) (wk_refl _ _) h).mono ?_; rintro e w' ⟨rfl, hS⟩
 exact ⟨rfl, wk_Below hB hS (fun k_ hk_ => hk_.2) hB.size, hS.2.1.mono (fun k_ hk_ => hk_.1)⟩
end Go.Proofs.Ytfpkooafbeejmaa.Q
namespace Go.Proofs.Ytfpkooafbeejmaa.Pure2
open Go.RowKit Go.Proofs.Ytfpkooafbeejmaa.Q Go.Proofs.YtfpkooafbeejmaaW.PrintWords Go.Proofs.YtfpkooafbeejmaaW.PrintLast
set_option linter.unusedVariables false
set_option linter.unusedSimpArgs false
/-! selections, definitions, what was done -/
theorem getD_map {α β : Type} (f : α → β) (l : List α) (z : α) (w : β) (j : Nat) (h : j < l.length) : (l.map f).getD j w = f (l.getD j z) := by
  rw [List.getD_eq_getElem?_getD, List.getD_eq_getElem?_getD, List.getElem?_map, List.getElem?_eq_getElem h]; rfl
def cvSel : S194 → S161
  | ⟨a, b, c, d, e, f⟩ => ⟨a, b, c, d.map cvArg, e.map cvDir, f.attach.map fun y => cvSel y.1⟩
termination_by x => SizeOf.sizeOf x
decreasing_by
  have := List.sizeOf_lt_of_mem y.2
  simp_wf
  omega
theorem cvSel_eq (x : S194) : cvSel x = ⟨x.f0, x.f1, x.f2, x.f3.map cvArg, x.f4.map cvDir, x.f5.map cvSel⟩ := by
  cases x
  rw [cvSel]
  simp
def costSel : S194 → Nat
  | ⟨_, _, _, d, e, f⟩ => d.length + e.length + (f.attach.map fun y => 1 + costSel y.1).sum
termination_by x => SizeOf.sizeOf x
decreasing_by
  have := List.sizeOf_lt_of_mem y.2
  simp_wf
  omega
theorem costSel_eq (x : S194) : costSel x = x.f3.length + x.f4.length + (x.f5.map (fun y => 1 + costSel y)).sum := by
  cases x with
  | mk a b c d e f =>
    rw [costSel]
    show _ = d.length + e.length + (f.map (fun y => 1 + costSel y)).sum
    congr 2
    exact List.attach_map_val (l := f) (f := fun y => 1 + costSel y)
theorem etaSel (x : S161) : (⟨x.f0, x.f1, x.f2, x.f3, x.f4, x.f5⟩ : S161) = x := by cases x; rfl
theorem sz_SelS (l : List S194) (IH : ∀ x ∈ l, ∀ s : Int, 0 ≤ s → s ≤ 1048576 → ∃ t : Int, Ev (fun k => laws_szSel.f k x.f0 x.f1 x.f2 x.f3 x.f4 x.f5 s) t ∧ (t < 0 ∨ 0 ≤ t ∧ t + (costSel x : Nat) ≤ s))
    (a : Int) (h0 : 0 ≤ a) (h1 : a ≤ 1048576) (hl : l.length ≤ 9223372036854775807) : ∃ r : Int, Ev (fun k => laws_szSelS.f k l a) r ∧ (r < 0 ∨ 0 ≤ r ∧ r + ((l.map (fun x => 1 + costSel x)).sum : Nat) ≤ a) := by
  have hw := wsub a l.length h0 h1 hl
  exact szs z194 costSel (fun k => laws_szSelS.f k l a) (fun k s i => laws_szSelS.l0 k l s i) l a h0 h1
    (fun h => ev_now ⟨0, fun k _ => by simp only [laws_szSelS.f]; rw [hw, if_pos h]⟩)
    (fun h r he => ev_step ⟨0, fun k _ => by simp only [laws_szSelS.f]; rw [hw, if_neg h]⟩ he)
    (fun k s => by simp only [laws_szSelS.l0]; rw [if_neg qa5])
    (fun j hj hl' s s0 s1 => by
      obtain ⟨t, e, ht⟩ := IH (l.getD j z194) (getD_mem l _ j hj) s s0 s1
      obtain ⟨K, hK⟩ := ev_at e
      refine ⟨t, ht, K, fun k hk => ?_⟩
      simp only [laws_szSelS.l0]
      rw [if_pos qa5, if_pos qa5, show rd_T194 l (j : Int) = l.getD j z194 from rfl, hK k hk]; simp only [Option.bind_some]; rw [wsucc hj qa5])
theorem sz_Sel : ∀ (n : Nat) (x : S194), i194n n x → ∀ s : Int, 0 ≤ s → s ≤ 1048576 → ∃ t : Int, Ev (fun k => laws_szSel.f k x.f0 x.f1 x.f2 x.f3 x.f4 x.f5 s) t ∧ (t < 0 ∨ 0 ≤ t ∧ t + (costSel x : Nat) ≤ s) := by
  intro n
  induction n with
  | zero => intro x h; exact h.elim
  | succ n ih =>
    intro x hi s h0 h1
    obtain ⟨_, i1, i2, ⟨i3, i3'⟩, ⟨i4, i4'⟩, i5, i5'⟩ := hi
    rw [costSel_eq]
    have hw1 := wsub s x.f1.size h0 h1 i1
    by_cases c1 : s - (x.f1.size : Int) < 0
    · exact ⟨-1, ev_now ⟨0, fun k _ => by simp only [laws_szSel.f]; rw [hw1, if_pos c1]⟩, .inl qa5⟩
    have hw2 := wsub (s - (x.f1.size : Int)) x.f2.size qa5 qa5 i2
    by_cases c2 : s - (x.f1.size : Int) - (x.f2.size : Int) < 0
    · exact ⟨-1, ev_now ⟨0, fun k _ => by simp only [laws_szSel.f]; rw [hw1, if_neg c1, hw2, if_pos c2]⟩, .inl qa5⟩
    obtain ⟨t3, e3, h3⟩ := sz_ArgS x.f3 (s - (x.f1.size : Int) - (x.f2.size : Int)) qa5 qa5 i3 i3'
    obtain ⟨K3, hK3⟩ := ev_at e3
    rcases h3 with h3 | ⟨h3, h3'⟩
    · exact ⟨-1, ev_now ⟨K3, fun k hk => by simp only [laws_szSel.f]; rw [hw1, if_neg c1, hw2, if_neg c2, hK3 k hk]; simp only [Option.bind_some]; rw [if_pos h3]⟩, .inl qa5⟩
    obtain ⟨t4, e4, h4⟩ := sz_DirS x.f4 t3 h3 qa5 i4 i4'
    obtain ⟨K4, hK4⟩ := ev_at e4
    rcases h4 with h4 | ⟨h4, h4'⟩
    · exact ⟨-1, ev_now ⟨K3 + K4, fun k hk => by simp only [laws_szSel.f]; rw [hw1, if_neg c1, hw2, if_neg c2, hK3 k qa5]; simp only [Option.bind_some]; rw [if_neg qa5, hK4 k qa5]; simp only [Option.bind_some]; rw [if_pos h4]⟩, .inl qa5⟩
    obtain ⟨t5, e5, h5⟩ := sz_SelS x.f5 (fun y hy => ih y (i5' y hy)) t4 h4 qa5 i5
    obtain ⟨K5, hK5⟩ := ev_at e5
    rcases h5 with h5 | ⟨h5, h5'⟩
    · exact ⟨-1, ev_now ⟨K3 + K4 + K5, fun k hk => by simp only [laws_szSel.f]; rw [hw1, if_neg c1, hw2, if_neg c2, hK3 k qa5]; simp only [Option.bind_some]; rw [if_neg qa5, hK4 k qa5]; simp only [Option.bind_some]; rw [if_neg qa5, hK5 k qa5]; simp only [Option.bind_some]; rw [if_pos h5]⟩, .inl qa5⟩
    · exact ⟨t5, ev_now ⟨K3 + K4 + K5, fun k hk => by simp only [laws_szSel.f]; rw [hw1, if_neg c1, hw2, if_neg c2, hK3 k qa5]; simp only [Option.bind_some]; rw [if_neg qa5, hK4 k qa5]; simp only [Option.bind_some]; rw [if_neg qa5, hK5 k qa5]; simp only [Option.bind_some]; rw [if_neg qa5]⟩, .inr ⟨h5, qa5⟩⟩
theorem len_cost (l : List S194) : l.length ≤ (l.map (fun y => 1 + costSel y)).sum := by rw [sum_one]; omega
theorem to_SelS (l : List S194) (IH : ∀ x ∈ l, Ev (fun k => laws_toSel.f k x.f0 x.f1 x.f2 x.f3 x.f4 x.f5) ((cvSel x).f0, (cvSel x).f1, (cvSel x).f2, (cvSel x).f3, (cvSel x).f4, (cvSel x).f5)) (hl : l.length ≤ 1048576) : Ev (fun k => laws_toSelS.f k l) (l.map cvSel) := by
  have h := fill_loop l z194 cvSel (fun k y i => laws_toSelS.l0 k l y i) (fun y hy => ⟨0, fun k _ => by simp only [laws_toSelS.l0]; rw [if_neg qa5]⟩)
    (fun j y hj hy => by
      obtain ⟨K, hK⟩ := ev_at (IH (l.getD j z194) (getD_mem l _ j hj))
      refine ⟨K, fun k hk => ?_⟩
      simp only [laws_toSelS.l0]; rw [if_pos qa5, if_pos qa5, show rd_T194 l (j : Int) = l.getD j z194 from rfl, hK k hk]; simp only [Option.bind_some]; rw [if_pos qa5, wsucc hj qa5, Int.toNat_natCast, etaSel]) (List.replicate l.length z161) qa12
  refine ev_step ⟨0, fun k _ => ?_⟩ h
  simp only [laws_toSelS.f]
  rw [if_pos qa5, if_pos qa44, Int.toNat_natCast]
theorem to_Sel : ∀ (n : Nat) (x : S194), i194n n x → costSel x ≤ 1048576 → Ev (fun k => laws_toSel.f k x.f0 x.f1 x.f2 x.f3 x.f4 x.f5) ((cvSel x).f0, (cvSel x).f1, (cvSel x).f2, (cvSel x).f3, (cvSel x).f4, (cvSel x).f5) := by
  intro n
  induction n with
  | zero => intro x h; exact h.elim
  | succ n ih =>
    intro x hi hc
    obtain ⟨_, _, _, _, _, _, i5'⟩ := hi
    rw [costSel_eq] at hc
    have hlc := len_cost x.f5
    obtain ⟨K3, hK3⟩ := ev_at (to_ArgS x.f3 qa5)
    obtain ⟨K4, hK4⟩ := ev_at (to_DirS x.f4 qa5)
    obtain ⟨K5, hK5⟩ := ev_at (to_SelS x.f5 (fun y hy => ih y (i5' y hy) (by have : 1 + costSel y ≤ (x.f5.map (fun y => 1 + costSel y)).sum := mem_sum (fun y => 1 + costSel y) x.f5 y hy; omega)) qa5)
    rw [cvSel_eq]
    exact ev_now ⟨K3 + K4 + K5, fun k hk => by simp only [laws_toSel.f]; rw [hK3 k qa5]; simp only [Option.bind_some]; rw [hK4 k qa5]; simp only [Option.bind_some]; rw [hK5 k qa5]; rfl⟩
theorem eq_SelS (l : List S161) (IH : ∀ x ∈ l, Ev (fun k => laws_eqSel.f k x.f0 x.f1 x.f2 x.f3 x.f4 x.f5 x.f0 x.f1 x.f2 x.f3 x.f4 x.f5) true) (hl : l.length ≤ 1048576) : Ev (fun k => laws_eqSelS.f k l l) true := by
  refine ev_step ⟨0, fun k _ => by simp only [laws_eqSelS.f, if_true]⟩ (eq_loop (α := S161) l.length (fun k i => laws_eqSelS.l0 k l l i) (fun k => by simp only [laws_eqSelS.l0]; rw [if_neg qa5])
    (fun j hj => by
      obtain ⟨K, hK⟩ := ev_at (IH (l.getD j z161) (getD_mem l _ j hj))
      exact ⟨K, fun k hk => by
        simp only [laws_eqSelS.l0]; rw [if_pos qa5, if_pos qa5, if_pos qa5, show rd_T161 l (j : Int) = l.getD j z161 from rfl, hK k hk]; simp only [Option.bind_some, if_true]; rw [wsucc hj qa5]⟩))
theorem eq_Sel : ∀ (n : Nat) (x : S194), i194n n x → costSel x ≤ 1048576 → Ev (fun k => laws_eqSel.f k (cvSel x).f0 (cvSel x).f1 (cvSel x).f2 (cvSel x).f3 (cvSel x).f4 (cvSel x).f5 (cvSel x).f0 (cvSel x).f1 (cvSel x).f2 (cvSel x).f3 (cvSel x).f4 (cvSel x).f5) true := by
  intro n
  induction n with
  | zero => intro x h; exact h.elim
  | succ n ih =>
    intro x hi hc
    obtain ⟨_, _, _, _, _, _, i5'⟩ := hi
    rw [costSel_eq] at hc
    have hlc := len_cost x.f5
    rw [cvSel_eq]
    obtain ⟨K3, hK3⟩ := ev_at (eq_ArgS (x.f3.map cvArg) qa25)
    obtain ⟨K4, hK4⟩ := ev_at (eq_DirS (x.f4.map cvDir) qa25)
    obtain ⟨K5, hK5⟩ := ev_at (eq_SelS (x.f5.map cvSel) (fun y hy => by
      obtain ⟨w, hw, rfl⟩ := List.mem_map.1 hy
      exact ih w (i5' w hw) (by have : 1 + costSel w ≤ (x.f5.map (fun y => 1 + costSel y)).sum := mem_sum (fun y => 1 + costSel y) x.f5 w hw; omega)) qa25)
    exact ev_now ⟨K3 + K4 + K5, fun k hk => by simp only [laws_eqSel.f, if_true]; rw [hK3 k qa5]; simp only [Option.bind_some, if_true]; rw [hK4 k qa5]; simp only [Option.bind_some, if_true]; rw [hK5 k qa5]; rfl⟩
def chSel (k : Nat) (x : S161) (m : Int) (cont : Int → Option Int) : Option Int := (laws_markText.f k (wrap64 (m + 1))).bind fun _ => ((laws_markText.f k (wrap64 ((wrap64 (m + 1)) + 1))).bind fun _ => ((laws_markArgS.l0 k x.f3 (wrap64 ((wrap64 ((wrap64 (m + 1)) + 1)) + 1)) 0).bind fun t3_ => ((laws_markDirS.l0 k x.f4 t3_ 0).bind fun t4_ => ((laws_markSelS.l0 k x.f5 t4_ 0).bind cont))))
def MkSel (x : S194) : Prop := ∀ m : Int, 1 ≤ m → m + 6 * (1 + costSel x : Nat) ≤ 1099511627776 → ∃ m' : Int, m ≤ m' ∧ m' ≤ m + 6 * (1 + costSel x : Nat) ∧ ∃ K, ∀ k, K ≤ k → ∀ cont, chSel k (cvSel x) m cont = cont m'
theorem mk_SelS (l : List S194) (IH : ∀ x ∈ l, MkSel x) (m0 : Int) (h1 : 1 ≤ m0) (hB : m0 + 6 * ((l.map (fun x => 1 + costSel x)).sum : Nat) ≤ 1099511627776) : ∃ r : Int, Ev (fun k => laws_markSelS.l0 k (l.map cvSel) m0 0) r ∧ m0 ≤ r ∧ r ≤ m0 + 6 * ((l.map (fun x => 1 + costSel x)).sum : Nat) := by
  have hlc := len_cost l
  exact mks z194 (fun x => 1 + costSel x) (fun k m i => laws_markSelS.l0 k (l.map cvSel) m i) l m0 h1 hB
    (fun k m => by simp only [laws_markSelS.l0]; rw [if_neg qa25])
    (fun j hj m m1 m2 => by
      obtain ⟨m', a1, a2, K, hK⟩ := IH (l.getD j z194) (getD_mem l _ j hj) m m1 m2
      refine ⟨m', a1, a2, K, fun k hk => ?_⟩
      have hd : rd_T161 (l.map cvSel) (j : Int) = cvSel (l.getD j z194) := getD_map cvSel l z194 z161 j hj
      have := hK k hk (fun t => laws_markSelS.l0 k (l.map cvSel) t (wrap64 ((j : Int) + 1)))
      simp only [laws_markSelS.l0]
      rw [if_pos qa25, if_pos qa5, hd]
      rw [wsucc hj qa5] at this ⊢
      exact this)
theorem mk_Sel : ∀ (n : Nat) (x : S194), i194n n x → MkSel x := by
  intro n
  induction n with
  | zero => intro x h; exact h.elim
  | succ n ih =>
    intro x hi m m1 m2
    obtain ⟨_, _, _, _, _, _, i5'⟩ := hi
    rw [costSel_eq] at m2 ⊢
    rw [cvSel_eq]
    have wa := w1 m qa5 qa5
    have wb := w1 (m + 1) qa5 qa5
    have wc := w1 (m + 1 + 1) qa5 qa5
    obtain ⟨u1, e1⟩ := mark_text (m + 1) qa5
    obtain ⟨u2, e2⟩ := mark_text (m + 1 + 1) qa5
    obtain ⟨t3, e3, a3, b3⟩ := mk_ArgS (x.f3.map cvArg) (m + 1 + 1 + 1) qa5 qa25
    rw [List.length_map] at b3
    obtain ⟨t4, e4, a4, b4⟩ := mk_DirS (x.f4.map cvDir) t3 qa5 qa25
    rw [List.length_map] at b4
    obtain ⟨t5, e5, a5, b5⟩ := mk_SelS x.f5 (fun y hy => ih y (i5' y hy)) t4 qa5 qa5
    obtain ⟨K1, k1⟩ := ev_at e1
    obtain ⟨K2, k2⟩ := ev_at e2
    obtain ⟨K3, k3⟩ := ev_at e3
    obtain ⟨K4, k4⟩ := ev_at e4
    obtain ⟨K5, k5⟩ := ev_at e5
    refine ⟨t5, qa5, qa5, K1 + K2 + K3 + K4 + K5, fun k hk cont => ?_⟩
    unfold chSel
    rw [wa, wb, wc, k1 k qa5]; simp only [Option.bind_some]; rw [k2 k qa5]; simp only [Option.bind_some]; rw [k3 k qa5]; simp only [Option.bind_some]; rw [k4 k qa5]; simp only [Option.bind_some]; rw [k5 k qa5]; rfl
end Go.Proofs.Ytfpkooafbeejmaa.Pure2
namespace Go.Proofs.Ytfpkooafbeejmaa.Q
open Go.RowKit Go.Proofs.YtfpkooafbeejmaaW.PrintWords Go.Proofs.YtfpkooafbeejmaaW.PrintLast Go.Proofs.YtfpkooafbeejmaaW.PrintMore
attribute [local go_sem] max2_int min2_int max_two min_two max_three min_three max_four min_four
set_option linter.unusedVariables false
set_option linter.unusedSimpArgs false
set_option maxHeartbeats 8000000
set_option maxRecDepth 100000
def laws_markDefS.l0 : Nat → List (S141) → Int → Int → Option Int
 | 0, _, _, _ => none
 | k + 1, l, m, i => if i < (l.length : Int) then (if 0 ≤ i then ((laws_markText.f k (wrap64 (m + 1))).bind fun t1_ => ((laws_markText.f k (wrap64 ((wrap64 (m + 1)) + 1))).bind fun t2_ => ((laws_markSelS.l0 k (rd_T141 l i).f3 (wrap64 ((wrap64 ((wrap64 (m + 1)) + 1)) + 1)) 0).bind fun t3_ => laws_markDefS.l0 k l t3_ (wrap64 (i + 1))))) else none) else some m
def laws_markDefS.f (k : Nat) (l0 : List (S141)) (a1 : Int) : Option Int := laws_markDefS.l0 k l0 a1 0
theorem laws_markDefS.callsW (k : Nat) : ∀ (ok : Nat → Prop) (base : Nat) (v : Value) (l : List (S141)) (m r : Int) (d w : World) (hR : Kd.R (k141) 141 d base ok v l) (hS : wk_Sk ok d w) (h : laws_markDefS.l0 k l m 0 = some r),
  Calls Try.prog 75 #[v, .int .i64 m] w fun e w' => e = .returned (.int .i64 r) ∧ wk_Sk ok d w' := by
 induction k using Nat.strongRecOn with
 | _ k ih =>
 intro ok base v l m r d w hR hS h; have hu141 := Try.underlying141; obtain ⟨A0, c0, e0⟩ := Kd.R_slice hR; subst e0; have HR := qO hR; have HS0 := qO hS; have H0' := qO h; clear h hR hS
 go_enter Try.func75, Try.ntmps75
 go_wp2
 go_loopg [1, 5] k (fun kq v1 v5 w' => ∃ (m i : Int), v1 = .int .i64 m ∧ v5 = .int .i64 i ∧ Aside0 (laws_markDefS.l0 kq l m i = some r) ∧ Aside0 (kq ≤ k) ∧ Aside0 (wk_Sk ok d w'))
 case atStart => exact ⟨m, 0, rfl, rfl, H0', ⟨Nat.le_refl _⟩, HS0⟩
 case round =>
  clear H0' HS0; obtain ⟨m, i, rfl, rfl, HA, HK1, HSwr⟩ := hrel
  cases gk with
  | zero => exact absurd HA.out (by simp [laws_markDefS.l0])
  | succ k1 =>
   have H := HA.out; clear HA; simp only [laws_markDefS.l0] at H
   by_cases c1 : i < (l.length : Int)
   ·rw [if_pos c1] at H
    by_cases c2 : 0 ≤ i
    ·rw [if_pos c2] at H
     obtain ⟨xe, hxe⟩ : ∃ xe, xe = rd_T141 l i := ⟨_, rfl⟩; (try rw [← hxe] at H); replace H := Option.bind_eq_some_iff.mp H; obtain ⟨t1_, A1_0, H⟩ := H; have A1_ := qO A1_0; clear A1_0; replace H := Option.bind_eq_some_iff.mp H; obtain ⟨t2_, A2_0, H⟩ := H; have A2_ := qO A2_0; clear A2_0; replace H := Option.bind_eq_some_iff.mp H; obtain ⟨t3_, A3_0, H⟩ := H; have A3_ := qO A3_0; clear A3_0; have H' := qO (show laws_markDefS.l0 k1 l t3_ (wrap64 (i + 1)) = some r from H); clear H; have c1b := decide_eq_true c1; have c2b := decide_eq_true c2; obtain ⟨go, co, eo, gb, gl, cl, HG⟩ := Kd.R_form HR.out qa5; (first | cases eo | (injection eo with ea_ en_ ec_; (first | subst ea_ | (injection ea_ with ea_; subst ea_)); subst ec_; clear en_)); have HOK := qO (HR.out.1 go rfl); have HGd := qO HG; obtain ⟨ce, hcl, hM, hcc, hfr⟩ := Kd.R_elem HR.out z141 i c2 c1; rw [show List.getD l i.toNat z141 = xe from hxe.symm] at hM; clear hxe; obtain ⟨v3_, rfl, g3_⟩ := k141_openM hM; have hd0 : d.cell? ⟨go, i.toNat * 4, none⟩ = some (.int .i64 (xe.f0)) := hcc 0 _ rfl; have hd1 : d.cell? ⟨go, i.toNat * 4 + 1, none⟩ = some (.string (xe.f1)) := hcc 1 _ rfl; have hd2 : d.cell? ⟨go, i.toNat * 4 + 2, none⟩ = some (.string (xe.f2)) := hcc 2 _ rfl; have hd3 : d.cell? ⟨go, i.toNat * 4 + 3, none⟩ = some (v3_) := hcc 3 _ rfl; obtain ⟨Av3, cv3, ev3⟩ := Kd.R_slice g3_; subst ev3; have HR3 := qO (Kd.R_mono (ok' := ok) g3_ (fun _ hk => hk.1)); obtain ⟨uwr_0, hxwr_0⟩ := wk_some HSwr.out HGd.out hd0; obtain ⟨uwr_1, hxwr_1⟩ := wk_some HSwr.out HGd.out hd1; obtain ⟨uwr_2, hxwr_2⟩ := wk_some HSwr.out HGd.out hd2; have hxwr_3 := wk_slice HSwr.out HGd.out hd3; have hfwr_0 : wr.frozen? ⟨go, i.toNat * 4, none⟩ = false := wk_froz HSwr.out HGd.out _; have hfwr_1 : wr.frozen? ⟨go, i.toNat * 4 + 1, none⟩ = false := wk_froz HSwr.out HGd.out _; have hfwr_2 : wr.frozen? ⟨go, i.toNat * 4 + 2, none⟩ = false := wk_froz HSwr.out HGd.out _; clear hcc hfr hcl HG gb gl g3_; (try clear hM); replace c1 := eq_true c1; replace c2 := eq_true c2
     go_wp2_with (first | ((with_reducible refine gate_callee (f := 77) rfl ?_); refine goesL_ (some 22) rfl rfl Try.func77 qa8 rfl #[.int .i64 (wrap64 (m + 1))] rfl qa7 ?_; (with_reducible refine (laws_markText.calls k1 (wrap64 (m + 1)) t1_ _ A1_.out).mono ?_); rintro e w1x ⟨rfl, hd_⟩; have HSw1x := qO (wk_below (wk_set HSwr.out HGd.out HOK.out hd0 qa11 _) hd_); clear hd_; refine ⟨_, rfl, ?_⟩; obtain ⟨uw1x_0, hxw1x_0⟩ := wk_some HSw1x.out HGd.out hd0; obtain ⟨uw1x_1, hxw1x_1⟩ := wk_some HSw1x.out HGd.out hd1; obtain ⟨uw1x_2, hxw1x_2⟩ := wk_some HSw1x.out HGd.out hd2; have hxw1x_3 := wk_slice HSw1x.out HGd.out hd3; have hfw1x_0 : w1x.frozen? ⟨go, i.toNat * 4, none⟩ = false := wk_froz HSw1x.out HGd.out _; have hfw1x_1 : w1x.frozen? ⟨go, i.toNat * 4 + 1, none⟩ = false := wk_froz HSw1x.out HGd.out _; have hfw1x_2 : w1x.frozen? ⟨go, i.toNat * 4 + 2, none⟩ = false := wk_froz HSw1x.out HGd.out _) | ((with_reducible refine gate_callee (f := 77) rfl ?_); refine goesL_ (some 30) rfl rfl Try.func77 qa8 rfl #[.int .i64 (wrap64 ((wrap64 (m + 1)) + 1))] rfl qa7 ?_; (with_reducible refine (laws_markText.calls k1 (wrap64 ((wrap64 (m + 1)) + 1)) t2_ _ A2_.out).mono ?_); rintro e w2x ⟨rfl, hd_⟩; have HSw2x := qO (wk_below (wk_set HSw1x.out HGd.out HOK.out hd1 qa11 _) hd_); clear hd_; refine ⟨_, rfl, ?_⟩; obtain ⟨uw2x_0, hxw2x_0⟩ := wk_some HSw2x.out HGd.out hd0; obtain ⟨uw2x_1, hxw2x_1⟩ := wk_some HSw2x.out HGd.out hd1; obtain ⟨uw2x_2, hxw2x_2⟩ := wk_some HSw2x.out HGd.out hd2; have hxw2x_3 := wk_slice HSw2x.out HGd.out hd3; have hfw2x_0 : w2x.frozen? ⟨go, i.toNat * 4, none⟩ = false := wk_froz HSw2x.out HGd.out _; have hfw2x_1 : w2x.frozen? ⟨go, i.toNat * 4 + 1, none⟩ = false := wk_froz HSw2x.out HGd.out _; have hfw2x_2 : w2x.frozen? ⟨go, i.toNat * 4 + 2, none⟩ = false := wk_froz HSw2x.out HGd.out _) | ((with_reducible refine gate_callee (f := 111) rfl ?_); refine goesL_ (some 41) rfl rfl Try.func111 qa8 rfl #[.slice Av3 (xe.f3).length cv3, .int .i64 (wrap64 ((wrap64 ((wrap64 (m + 1)) + 1)) + 1))] rfl qa7 ?_; refine ((laws_markSelS.callsW k1) ok base _ _ (wrap64 ((wrap64 ((wrap64 (m + 1)) + 1)) + 1)) t3_ d _ HR3.out (wk_set HSw2x.out HGd.out HOK.out hd2 qa11 _) A3_.out).mono ?_; rintro e w3x ⟨rfl, hS_⟩; have HSw3x := qO hS_; clear hS_; refine ⟨_, rfl, ?_⟩; obtain ⟨uw3x_0, hxw3x_0⟩ := wk_some HSw3x.out HGd.out hd0; obtain ⟨uw3x_1, hxw3x_1⟩ := wk_some HSw3x.out HGd.out hd1; obtain ⟨uw3x_2, hxw3x_2⟩ := wk_some HSw3x.out HGd.out hd2; have hxw3x_3 := wk_slice HSw3x.out HGd.out hd3; have hfw3x_0 : w3x.frozen? ⟨go, i.toNat * 4, none⟩ = false := wk_froz HSw3x.out HGd.out _; have hfw3x_1 : w3x.frozen? ⟨go, i.toNat * 4 + 1, none⟩ = false := wk_froz HSw3x.out HGd.out _; have hfw3x_2 : w3x.frozen? ⟨go, i.toNat * 4 + 2, none⟩ = false := wk_froz HSw3x.out HGd.out _))
     go_roundg k1
     case measure => have := HK1.out; omega
     case rel => exact ⟨t3_, wrap64 (i + 1), qa4, qa4, H', ⟨qa9⟩, ⟨HSw3x.out⟩⟩
    ·rw [if_neg c2] at H
     exact absurd H qa12
   ·rw [if_neg c1] at H
    have c1b := decide_eq_false c1; clear c1; simp only [Option.some.injEq] at H; subst H; go_wp2
    go_ret
    exact ⟨rfl, HSwr.out⟩
theorem laws_markDefS.calls (k : Nat) (P0_ : Nat → Prop) (u9000_ : Value) (l0 : List (S141)) (a1 : Int) (r1 : Int) (w0 w : World) (hB : Below w0.heap.size w0 w) (ho0 : Kd.R (k141) 141 w w0.heap.size P0_ u9000_ l0) (h : laws_markDefS.f k l0 a1 = some r1) :
  Calls Try.prog 75 #[u9000_, .int .i64 a1] w fun e w' => e = .returned (.int .i64 r1) ∧ Below w0.heap.size w0 w' ∧ Kept w w' (fun k_ => P0_ k_) := by
 refine (laws_markDefS.callsW k (fun k_ => P0_ k_ ∧ w0.heap.size ≤ k_) w0.heap.size u9000_ l0 a1 r1 w w (Kd.R_mono (Kd.R_bound ho0) (fun k_ hk_ => ⟨hk_.1, hk_.2.1⟩)) (wk_refl _ _) h).mono ?_; rintro e w' ⟨rfl, hS⟩
 exact ⟨rfl, wk_Below hB hS (fun k_ hk_ => hk_.2) hB.size, hS.2.1.mono (fun k_ hk_ => hk_.1)⟩
set_option maxHeartbeats 8000000
set_option maxRecDepth 100000
def laws_markDoneS.l0 : Nat → List (S115) → Int → Int → Option Int
 | 0, _, _, _ => none
 | k + 1, l, m, i => if i < (l.length : Int) then (if 0 ≤ i then ((laws_markDefS.l0 k (rd_T115 l i).f5.f0.f0 (wrap64 ((wrap64 ((wrap64 ((wrap64 ((wrap64 (m + 1)) + 1)) + 1)) + 1)) + 1)) 0).bind fun t1_ => ((laws_markBindingS.l0 k (rd_T115 l i).f5.f1 t1_ 0).bind fun t2_ => ((laws_markText.f k t2_).bind fun t3_ => laws_markDoneS.l0 k l (wrap64 (t2_ + 1)) (wrap64 (i + 1))))) else none) else some m
def laws_markDoneS.f (k : Nat) (l0 : List (S115)) (a1 : Int) : Option Int := laws_markDoneS.l0 k l0 a1 0
theorem laws_markDoneS.callsW (k : Nat) : ∀ (ok : Nat → Prop) (base : Nat) (v : Value) (l : List (S115)) (m r : Int) (d w : World) (hR : Kd.R (k115) 115 d base ok v l) (hS : wk_Sk ok d w) (h : laws_markDoneS.l0 k l m 0 = some r),
  Calls Try.prog 34 #[v, .int .i64 m] w fun e w' => e = .returned (.int .i64 r) ∧ wk_Sk ok d w' := by
 induction k using Nat.strongRecOn with
 | _ k ih =>
 intro ok base v l m r d w hR hS h; have hu111 := Try.underlying111; have hu113 := Try.underlying113; have hu115 := Try.underlying115; obtain ⟨A0, c0, e0⟩ := Kd.R_slice hR; subst e0; have HR := qO hR; have HS0 := qO hS; have H0' := qO h; clear h hR hS
 go_enter Try.func34, Try.ntmps34
 go_wp2
 go_loopg [1, 5] k (fun kq v1 v5 w' => ∃ (m i : Int), v1 = .int .i64 m ∧ v5 = .int .i64 i ∧ Aside0 (laws_markDoneS.l0 kq l m i = some r) ∧ Aside0 (kq ≤ k) ∧ Aside0 (wk_Sk ok d w'))
 case atStart => exact ⟨m, 0, rfl, rfl, H0', ⟨Nat.le_refl _⟩, HS0⟩
 case round =>
  clear H0' HS0; obtain ⟨m, i, rfl, rfl, HA, HK1, HSwr⟩ := hrel
  cases gk with
  | zero => exact absurd HA.out (by simp [laws_markDoneS.l0])
  | succ k1 =>
   have H := HA.out; clear HA; simp only [laws_markDoneS.l0] at H
   by_cases c1 : i < (l.length : Int)
   ·rw [if_pos c1] at H
    by_cases c2 : 0 ≤ i
    ·rw [if_pos c2] at H
     obtain ⟨xe, hxe⟩ : ∃ xe, xe = rd_T115 l i := ⟨_, rfl⟩; (try rw [← hxe] at H); replace H := Option.bind_eq_some_iff.mp H; obtain ⟨t1_, A1_0, H⟩ := H; have A1_ := qO A1_0; clear A1_0; replace H := Option.bind_eq_some_iff.mp H; obtain ⟨t2_, A2_0, H⟩ := H; have A2_ := qO A2_0; clear A2_0; replace H := Option.bind_eq_some_iff.mp H; obtain ⟨t3_, A3_0, H⟩ := H; have A3_ := qO A3_0; clear A3_0; have H' := qO (show laws_markDoneS.l0 k1 l (wrap64 (t2_ + 1)) (wrap64 (i + 1)) = some r from H); clear H; have c1b := decide_eq_true c1; have c2b := decide_eq_true c2; obtain ⟨go, co, eo, gb, gl, cl, HG⟩ := Kd.R_form HR.out qa5; (first | cases eo | (injection eo with ea_ en_ ec_; (first | subst ea_ | (injection ea_ with ea_; subst ea_)); subst ec_; clear en_)); have HOK := qO (HR.out.1 go rfl); have HGd := qO HG; obtain ⟨ce, hcl, hM, hcc, hfr⟩ := Kd.R_elem HR.out z115 i c2 c1; rw [show List.getD l i.toNat z115 = xe from hxe.symm] at hM; clear hxe; obtain ⟨v5_, v6_, rfl, g5_, g6_⟩ := k115_openM hM; have hd0 : d.cell? ⟨go, i.toNat * 8, none⟩ = some (.int .i64 (xe.f0)) := hcc 0 _ rfl; have hd1 : d.cell? ⟨go, i.toNat * 8 + 1, none⟩ = some (.int .i64 (xe.f1)) := hcc 1 _ rfl; have hd2 : d.cell? ⟨go, i.toNat * 8 + 2, none⟩ = some (.int .i64 (xe.f2)) := hcc 2 _ rfl; have hd3 : d.cell? ⟨go, i.toNat * 8 + 3, none⟩ = some (.int .i64 (xe.f3)) := hcc 3 _ rfl; have hd4 : d.cell? ⟨go, i.toNat * 8 + 4, none⟩ = some (.bool (xe.f4)) := hcc 4 _ rfl; have hd5 : d.cell? ⟨go, i.toNat * 8 + 5, none⟩ = some (v5_) := hcc 5 _ rfl; have hd6 : d.cell? ⟨go, i.toNat * 8 + 6, none⟩ = some (v6_) := hcc 6 _ rfl; have hd7 : d.cell? ⟨go, i.toNat * 8 + 7, none⟩ = some (.string (xe.f6)) := hcc 7 _ rfl; obtain ⟨Av5, cv5, ev5⟩ := Kd.R_slice g5_; obtain ⟨Av6, cv6, ev6⟩ := Kd.R_slice g6_; subst ev5; subst ev6; have HR5 := qO (Kd.R_mono (ok' := ok) g5_ (fun _ hk => hk.1)); have HR6 := qO (Kd.R_mono (ok' := ok) g6_ (fun _ hk => hk.1)); obtain ⟨uwr_0, hxwr_0⟩ := wk_some HSwr.out HGd.out hd0; obtain ⟨uwr_1, hxwr_1⟩ := wk_some HSwr.out HGd.out hd1; obtain ⟨uwr_2, hxwr_2⟩ := wk_some HSwr.out HGd.out hd2; obtain ⟨uwr_3, hxwr_3⟩ := wk_some HSwr.out HGd.out hd3; obtain ⟨uwr_4, hxwr_4⟩ := wk_some HSwr.out HGd.out hd4; have hxwr_5 := wk_slice HSwr.out HGd.out hd5; have hxwr_6 := wk_slice HSwr.out HGd.out hd6; obtain ⟨uwr_7, hxwr_7⟩ := wk_some HSwr.out HGd.out hd7; have hfwr_0 : wr.frozen? ⟨go, i.toNat * 8, none⟩ = false := wk_froz HSwr.out HGd.out _; have hfwr_1 : wr.frozen? ⟨go, i.toNat * 8 + 1, none⟩ = false := wk_froz HSwr.out HGd.out _; have hfwr_2 : wr.frozen? ⟨go, i.toNat * 8 + 2, none⟩ = false := wk_froz HSwr.out HGd.out _; have hfwr_3 : wr.frozen? ⟨go, i.toNat * 8 + 3, none⟩ = false := wk_froz HSwr.out HGd.out _; have hfwr_4 : wr.frozen? ⟨go, i.toNat * 8 + 4, none⟩ = false := wk_froz HSwr.out HGd.out _; have hfwr_7 : wr.frozen? ⟨go, i.toNat * 8 + 7, none⟩ = false := wk_froz HSwr.out HGd.out _; clear hcc hfr hcl HG gb gl g5_ g6_; (try clear hM); replace c1 := eq_true c1; replace c2 := eq_true c2
     go_wp2_with (first | ((with_reducible refine gate_callee (f := 75) rfl ?_); refine goesL_ (some 57) rfl rfl Try.func75 qa8 rfl #[.slice Av5 (xe.f5.f0.f0).length cv5, .int .i64 (wrap64 ((wrap64 ((wrap64 ((wrap64 ((wrap64 (m + 1)) + 1)) + 1)) + 1)) + 1))] rfl qa7 ?_; refine ((laws_markDefS.callsW k1) ok base _ _ (wrap64 ((wrap64 ((wrap64 ((wrap64 ((wrap64 (m + 1)) + 1)) + 1)) + 1)) + 1)) t1_ d _ HR5.out (wk_set (wk_set (wk_set (wk_set (wk_set HSwr.out HGd.out HOK.out hd0 qa11 _) HGd.out HOK.out hd1 qa11 _) HGd.out HOK.out hd2 qa11 _) HGd.out HOK.out hd3 qa11 _) HGd.out HOK.out hd4 qa11 _) A1_.out).mono ?_; rintro e w1x ⟨rfl, hS_⟩; have HSw1x := qO hS_; clear hS_; refine ⟨_, rfl, ?_⟩; obtain ⟨uw1x_0, hxw1x_0⟩ := wk_some HSw1x.out HGd.out hd0; obtain ⟨uw1x_1, hxw1x_1⟩ := wk_some HSw1x.out HGd.out hd1; obtain ⟨uw1x_2, hxw1x_2⟩ := wk_some HSw1x.out HGd.out hd2; obtain ⟨uw1x_3, hxw1x_3⟩ := wk_some HSw1x.out HGd.out hd3; obtain ⟨uw1x_4, hxw1x_4⟩ := wk_some HSw1x.out HGd.out hd4; have hxw1x_5 := wk_slice HSw1x.out HGd.out hd5; have hxw1x_6 := wk_slice HSw1x.out HGd.out hd6; obtain ⟨uw1x_7, hxw1x_7⟩ := wk_some HSw1x.out HGd.out hd7; have hfw1x_0 : w1x.frozen? ⟨go, i.toNat * 8, none⟩ = false := wk_froz HSw1x.out HGd.out _; have hfw1x_1 : w1x.frozen? ⟨go, i.toNat * 8 + 1, none⟩ = false := wk_froz HSw1x.out HGd.out _; have hfw1x_2 : w1x.frozen? ⟨go, i.toNat * 8 + 2, none⟩ = false := wk_froz HSw1x.out HGd.out _; have hfw1x_3 : w1x.frozen? ⟨go, i.toNat * 8 + 3, none⟩ = false := wk_froz HSw1x.out HGd.out _; have hfw1x_4 : w1x.frozen? ⟨go, i.toNat * 8 + 4, none⟩ = false := wk_froz HSw1x.out HGd.out _; have hfw1x_7 : w1x.frozen? ⟨go, i.toNat * 8 + 7, none⟩ = false := wk_froz HSw1x.out HGd.out _) | ((with_reducible refine gate_callee (f := 76) rfl ?_); refine goesL_ (some 65) rfl rfl Try.func76 qa8 rfl #[.slice Av6 (xe.f5.f1).length cv6, .int .i64 t1_] rfl qa7 ?_; refine ((laws_markBindingS.callsW k1) ok base _ _ t1_ t2_ d _ HR6.out HSw1x.out A2_.out).mono ?_; rintro e w2x ⟨rfl, hS_⟩; have HSw2x := qO hS_; clear hS_; refine ⟨_, rfl, ?_⟩; obtain ⟨uw2x_0, hxw2x_0⟩ := wk_some HSw2x.out HGd.out hd0; obtain ⟨uw2x_1, hxw2x_1⟩ := wk_some HSw2x.out HGd.out hd1; obtain ⟨uw2x_2, hxw2x_2⟩ := wk_some HSw2x.out HGd.out hd2; obtain ⟨uw2x_3, hxw2x_3⟩ := wk_some HSw2x.out HGd.out hd3; obtain ⟨uw2x_4, hxw2x_4⟩ := wk_some HSw2x.out HGd.out hd4; have hxw2x_5 := wk_slice HSw2x.out HGd.out hd5; have hxw2x_6 := wk_slice HSw2x.out HGd.out hd6; obtain ⟨uw2x_7, hxw2x_7⟩ := wk_some HSw2x.out HGd.out hd7; have hfw2x_0 : w2x.frozen? ⟨go, i.toNat * 8, none⟩ = false := wk_froz HSw2x.out HGd.out _; have hfw2x_1 : w2x.frozen? ⟨go, i.toNat * 8 + 1, none⟩ = false := wk_froz HSw2x.out HGd.out _; have hfw2x_2 : w2x.frozen? ⟨go, i.toNat * 8 + 2, none⟩ = false := wk_froz HSw2x.out HGd.out _; have hfw2x_3 : w2x.frozen? ⟨go, i.toNat * 8 + 3, none⟩ = false := wk_froz HSw2x.out HGd.out _; have hfw2x_4 : w2x.frozen? ⟨go, i.toNat * 8 + 4, none⟩ = false := wk_froz HSw2x.out HGd.out _; have hfw2x_7 : w2x.frozen? ⟨go, i.toNat * 8 + 7, none⟩ = false := wk_froz HSw2x.out HGd.out _) | ((with_reducible refine gate_callee (f := 77) rfl ?_); refine goesL_ (some 69) rfl rfl Try.func77 qa8 rfl #[.int .i64 t2_] rfl qa7 ?_; (with_reducible refine (laws_markText.calls k1 t2_ t3_ _ A3_.out).mono ?_); rintro e w3x ⟨rfl, hd_⟩; have HSw3x := qO (wk_below HSw2x.out hd_); clear hd_; refine ⟨_, rfl, ?_⟩; obtain ⟨uw3x_0, hxw3x_0⟩ := wk_some HSw3x.out HGd.out hd0; obtain ⟨uw3x_1, hxw3x_1⟩ := wk_some HSw3x.out HGd.out hd1; obtain ⟨uw3x_2, hxw3x_2⟩ := wk_some HSw3x.out HGd.out hd2; obtain ⟨uw3x_3, hxw3x_3⟩ := wk_some HSw3x.out HGd.out hd3; obtain ⟨uw3x_4, hxw3x_4⟩ := wk_some HSw3x.out HGd.out hd4; have hxw3x_5 := wk_slice HSw3x.out HGd.out hd5; have hxw3x_6 := wk_slice HSw3x.out HGd.out hd6; obtain ⟨uw3x_7, hxw3x_7⟩ := wk_some HSw3x.out HGd.out hd7; have hfw3x_0 : w3x.frozen? ⟨go, i.toNat * 8, none⟩ = false := wk_froz HSw3x.out HGd.out _; have hfw3x_1 : w3x.frozen? ⟨go, i.toNat * 8 + 1, none⟩ = false := wk_froz HSw3x.out HGd.out _; have hfw3x_2 : w3x.frozen? ⟨go, i.toNat * 8 + 2, none⟩ = false := wk_froz HSw3x.out HGd.out _; have hfw3x_3 : w3x.frozen? ⟨go, i.toNat * 8 + 3, none⟩ = false := wk_froz HSw3x.out HGd.out _; have hfw3x_4 : w3x.frozen? ⟨go, i.toNat * 8 + 4, none⟩ = false := wk_froz HSw3x.out HGd.out _; have hfw3x_7 : w3x.frozen? ⟨go, i.toNat * 8 + 7, none⟩ = false := wk_froz HSw3x.out HGd.out _))
     go_roundg k1
     case measure => have := HK1.out; omega
     case rel => exact ⟨(wrap64 (t2_ + 1)), wrap64 (i + 1), qa4, qa4, H', ⟨qa9⟩, ⟨(wk_set HSw3x.out HGd.out HOK.out hd7 qa11 _)⟩⟩
    ·rw [if_neg c2] at H
     exact absurd H qa12
   ·rw [if_neg c1] at H
    have c1b := decide_eq_false c1; clear c1; simp only [Option.some.injEq] at H; subst H; go_wp2
    go_ret
    exact ⟨rfl, HSwr.out⟩
theorem laws_markDoneS.calls (k : Nat) (P0_ : Nat → Prop) (u9000_ : Value) (l0 : List (S115)) (a1 : Int) (r1 : Int) (w0 w : World) (hB : Below w0.heap.size w0 w) (ho0 : Kd.R (k115) 115 w w0.heap.size P0_ u9000_ l0) (h : laws_markDoneS.f k l0 a1 = some r1) :
  Calls Try.prog 34 #[u9000_, .int .i64 a1] w fun e w' => e = .returned (.int .i64 r1) ∧ Below w0.heap.size w0 w' ∧ Kept w w' (fun k_ => P0_ k_) := by
 refine (laws_markDoneS.callsW k (fun k_ => P0_ k_ ∧ w0.heap.size ≤ k_) w0.heap.size u9000_ l0 a1 r1 w w (Kd.R_mono (Kd.R_bound ho0) (fun k_ hk_ => ⟨hk_.1, hk_.2.1⟩)) (wk_refl _ _) h).mono ?_; rintro e w' ⟨rfl, hS⟩
 exact ⟨rfl, wk_Below hB hS (fun k_ hk_ => hk_.2) hB.size, hS.2.1.mono (fun k_ hk_ => hk_.1)⟩
end Go.Proofs.Ytfpkooafbeejmaa.Q
namespace Go.Proofs.Ytfpkooafbeejmaa.Pure2
open Go.RowKit Go.Proofs.Ytfpkooafbeejmaa.Q Go.Proofs.YtfpkooafbeejmaaW.PrintWords Go.Proofs.YtfpkooafbeejmaaW.PrintLast
set_option linter.unusedVariables false
set_option linter.unusedSimpArgs false
/-! definitions; what was done -/
def cvDef (x : S183) : S141 := ⟨x.f0, x.f1, x.f2, x.f3.map cvSel⟩
def costDef (x : S183) : Nat := (x.f3.map (fun y => 1 + costSel y)).sum
theorem sz_Def (x : S183) (hi : i183 x) (s : Int) (h0 : 0 ≤ s) (h1 : s ≤ 1048576) : ∃ t : Int, Ev (fun k => laws_szDef.f k x.f0 x.f1 x.f2 x.f3 s) t ∧ (t < 0 ∨ 0 ≤ t ∧ t + (costDef x : Nat) ≤ s) := by
  obtain ⟨_, i1, i2, i3, i3'⟩ := hi
  have hw1 := wsub s x.f1.size h0 h1 i1
  by_cases c1 : s - (x.f1.size : Int) < 0
  · exact ⟨-1, ev_mk 0 fun k _ => by unfold laws_szDef.f; rw [hw1, if_pos c1], .inl qa5⟩
  have hw2 := wsub (s - (x.f1.size : Int)) x.f2.size qa5 qa5 i2
  by_cases c2 : s - (x.f1.size : Int) - (x.f2.size : Int) < 0
  · exact ⟨-1, ev_mk 0 fun k _ => by unfold laws_szDef.f; rw [hw1, if_neg c1, hw2, if_pos c2], .inl qa5⟩
  obtain ⟨t3, e3, h3⟩ := sz_SelS x.f3 (fun y hy => by obtain ⟨n, hn⟩ := i3' y hy; exact sz_Sel n y hn) (s - (x.f1.size : Int) - (x.f2.size : Int)) qa5 qa5 i3
  obtain ⟨K3, hK3⟩ := ev_at e3
  rcases h3 with h3 | ⟨h3, h3'⟩
  · exact ⟨-1, ev_mk K3 fun k hk => by unfold laws_szDef.f; rw [hw1, if_neg c1, hw2, if_neg c2, hK3 k hk]; simp only [Option.bind_some]; rw [if_pos h3], .inl qa5⟩
  · exact ⟨t3, ev_mk K3 fun k hk => by unfold laws_szDef.f; rw [hw1, if_neg c1, hw2, if_neg c2, hK3 k hk]; simp only [Option.bind_some]; rw [if_neg qa5], .inr ⟨h3, by unfold costDef; omega⟩⟩
theorem sz_DefS (l : List S183) (a : Int) (h0 : 0 ≤ a) (h1 : a ≤ 1048576) (hl : l.length ≤ 9223372036854775807) (hx : ∀ x ∈ l, i183 x) : ∃ r : Int, Ev (fun k => laws_szDefS.f k l a) r ∧ (r < 0 ∨ 0 ≤ r ∧ r + ((l.map (fun x => 1 + costDef x)).sum : Nat) ≤ a) := by
  have hw := wsub a l.length h0 h1 hl
  exact szs z183 costDef (fun k => laws_szDefS.f k l a) (fun k s i => laws_szDefS.l0 k l s i) l a h0 h1
    (fun h => ev_mk 0 fun k _ => by unfold laws_szDefS.f; rw [hw, if_pos h])
    (fun h r he => ev_same ⟨0, fun k _ => by unfold laws_szDefS.f; rw [hw, if_neg h]⟩ he)
    (fun k s => by simp only [laws_szDefS.l0]; rw [if_neg qa5])
    (fun j hj hl' s s0 s1 => by
      obtain ⟨t, e, ht⟩ := sz_Def (l.getD j z183) (hx _ (getD_mem l _ j hj)) s s0 s1
      obtain ⟨K, hK⟩ := ev_at e
      refine ⟨t, ht, K, fun k hk => ?_⟩
      simp only [laws_szDefS.l0]
      rw [if_pos qa5, if_pos qa5, show rd_T183 l (j : Int) = l.getD j z183 from rfl, hK k hk]; simp only [Option.bind_some]; rw [wsucc hj qa5])
theorem in_cost {α : Type} (c : α → Nat) (l : List α) (x : α) (h : x ∈ l) : 1 + c x ≤ (l.map (fun y => 1 + c y)).sum := mem_sum (fun y => 1 + c y) l x h
theorem len_sum {α : Type} (c : α → Nat) (l : List α) : l.length ≤ (l.map (fun y => 1 + c y)).sum := by rw [sum_one]; omega
theorem to_Def (x : S183) (hi : i183 x) (hc : costDef x ≤ 1048576) : Ev (fun k => laws_toDef.f k x.f0 x.f1 x.f2 x.f3) ((cvDef x).f0, (cvDef x).f1, (cvDef x).f2, (cvDef x).f3) := by
  unfold costDef at hc
  have hlc := len_cost x.f3
  obtain ⟨K, hK⟩ := ev_at (to_SelS x.f3 (fun y hy => by obtain ⟨n, hn⟩ := hi.2.2.2.2 y hy; exact to_Sel n y hn (by have := in_cost costSel x.f3 y hy; omega)) qa5)
  exact ev_mk K fun k hk => by unfold laws_toDef.f; rw [hK k hk]; rfl
theorem to_DefS (l : List S183) (hx : ∀ x ∈ l, i183 x) (hc : (l.map (fun x => 1 + costDef x)).sum ≤ 1048576) : Ev (fun k => laws_toDefS.f k l) (l.map cvDef) := by
  have hlc := len_sum costDef l
  have h := fill_loop l z183 cvDef (fun k y i => laws_toDefS.l0 k l y i) (fun y hy => ⟨0, fun k _ => by simp only [laws_toDefS.l0]; rw [if_neg qa5]⟩)
    (fun j y hj hy => by
      have hm := getD_mem l z183 j hj
      obtain ⟨K, hK⟩ := ev_at (to_Def (l.getD j z183) (hx _ hm) (by have := in_cost costDef l _ hm; omega))
      refine ⟨K, fun k hk => ?_⟩
      simp only [laws_toDefS.l0]; rw [if_pos qa5, if_pos qa5, show rd_T183 l (j : Int) = l.getD j z183 from rfl, hK k hk]; simp only [Option.bind_some]; rw [if_pos qa5, wsucc hj qa5, Int.toNat_natCast]) (List.replicate l.length z141) qa12
  refine ev_same ⟨0, fun k _ => ?_⟩ h
  unfold laws_toDefS.f
  rw [if_pos qa5, if_pos qa44, Int.toNat_natCast]
theorem eq_Def (x : S183) (hi : i183 x) (hc : costDef x ≤ 1048576) : Ev (fun k => laws_eqDef.f k (cvDef x).f0 (cvDef x).f1 (cvDef x).f2 (cvDef x).f3 (cvDef x).f0 (cvDef x).f1 (cvDef x).f2 (cvDef x).f3) true := by
  unfold costDef at hc
  have hlc := len_cost x.f3
  obtain ⟨K, hK⟩ := ev_at (eq_SelS (x.f3.map cvSel) (fun y hy => by
    obtain ⟨w, hw, rfl⟩ := List.mem_map.1 hy
    obtain ⟨n, hn⟩ := hi.2.2.2.2 w hw
    exact eq_Sel n w hn (by have := in_cost costSel x.f3 w hw; omega)) qa25)
  exact ev_mk K fun k hk => by unfold laws_eqDef.f; simp only [if_true]; rw [show (cvDef x).f3 = x.f3.map cvSel from rfl, hK k hk]; rfl
theorem eq_DefS (l : List S183) (hx : ∀ x ∈ l, i183 x) (hc : (l.map (fun x => 1 + costDef x)).sum ≤ 1048576) : Ev (fun k => laws_eqDefS.f k (l.map cvDef) (l.map cvDef)) true := by
  have hlc := len_sum costDef l
  have hlm : (l.map cvDef).length = l.length := List.length_map ..
  refine ev_same ⟨0, fun k _ => by unfold laws_eqDefS.f; rw [if_pos rfl]⟩ (eq_loop (α := S141) (l.map cvDef).length (fun k i => laws_eqDefS.l0 k (l.map cvDef) (l.map cvDef) i) (fun k => by simp only [laws_eqDefS.l0]; rw [if_neg qa5])
    (fun j hj => by
      have hm := getD_mem l z183 j qa5
      obtain ⟨K, hK⟩ := ev_at (eq_Def (l.getD j z183) (hx _ hm) (by have := in_cost costDef l _ hm; omega))
      have hd : rd_T141 (l.map cvDef) (j : Int) = cvDef (l.getD j z183) := getD_map cvDef l z183 z141 j qa5
      exact ⟨K, fun k hk => by
        simp only [laws_eqDefS.l0]; rw [if_pos qa5, if_pos qa5, if_pos qa5, hd, hK k hk]; simp only [Option.bind_some, if_true]; rw [wsucc hj qa5]⟩))
theorem mk_DefS (l : List S183) (hx : ∀ x ∈ l, i183 x) (m0 : Int) (h1 : 1 ≤ m0) (hB : m0 + 6 * ((l.map (fun x => 1 + costDef x)).sum : Nat) ≤ 1099511627776) : ∃ r : Int, Ev (fun k => laws_markDefS.l0 k (l.map cvDef) m0 0) r ∧ m0 ≤ r ∧ r ≤ m0 + 6 * ((l.map (fun x => 1 + costDef x)).sum : Nat) := by
  have hlc := len_sum costDef l
  have hlm : (l.map cvDef).length = l.length := List.length_map ..
  exact mks z183 (fun x => 1 + costDef x) (fun k m i => laws_markDefS.l0 k (l.map cvDef) m i) l m0 h1 hB
    (fun k m => by simp only [laws_markDefS.l0]; rw [if_neg qa5])
    (fun j hj m m1 m2 => by
      have hm := getD_mem l z183 j hj
      have hd : rd_T141 (l.map cvDef) (j : Int) = cvDef (l.getD j z183) := getD_map cvDef l z183 z141 j hj
      have hcd : costDef (l.getD j z183) = ((l.getD j z183).f3.map (fun y => 1 + costSel y)).sum := rfl
      have wa := w1 m qa5 qa5
      have wb := w1 (m + 1) qa5 qa5
      have wc := w1 (m + 1 + 1) qa5 qa5
      obtain ⟨u1, e1⟩ := mark_text (m + 1) qa5
      obtain ⟨u2, e2⟩ := mark_text (m + 1 + 1) qa5
      obtain ⟨t3, e3, a3, b3⟩ := mk_SelS (l.getD j z183).f3 (fun y hy => by obtain ⟨n, hn⟩ := (hx _ hm).2.2.2.2 y hy; exact mk_Sel n y hn) (m + 1 + 1 + 1) qa5 qa5
      obtain ⟨K1, k1⟩ := ev_at e1
      obtain ⟨K2, k2⟩ := ev_at e2
      obtain ⟨K3, k3⟩ := ev_at e3
      refine ⟨t3, qa5, qa5, K1 + K2 + K3, fun k hk => ?_⟩
      simp only [laws_markDefS.l0]
      rw [if_pos qa5, if_pos qa5, hd, wa, wb, wc, k1 k qa5]; simp only [Option.bind_some]; rw [k2 k qa5]; simp only [Option.bind_some]
      rw [show (cvDef (l.getD j z183)).f3 = (l.getD j z183).f3.map cvSel from rfl, k3 k qa5]; simp only [Option.bind_some]; rw [wsucc hj qa5])
def cvDone (x : S106) : S115 := ⟨x.f0, x.f1, x.f2, x.f3, x.f4, ⟨⟨x.f5.f0.f0.map cvDef⟩, x.f5.f1.map cvBinding⟩, x.f6⟩
def costDone (x : S106) : Nat := (x.f5.f0.f0.map (fun y => 1 + costDef y)).sum + x.f5.f1.length
theorem sz_Done (x : S106) (hi : i106 x) (s : Int) (h0 : 0 ≤ s) (h1 : s ≤ 1048576) : ∃ t : Int, Ev (fun k => laws_szDone.f k x.f0 x.f1 x.f2 x.f3 x.f4 x.f5.f0.f0 x.f5.f1 x.f6 s) t ∧ (t < 0 ∨ 0 ≤ t ∧ t + (costDone x : Nat) ≤ s) := by
  obtain ⟨_, _, _, _, _, ⟨⟨i0, i0'⟩, i1, i1'⟩, i6⟩ := hi
  obtain ⟨t2, e2, h2⟩ := sz_DefS x.f5.f0.f0 s h0 h1 i0 i0'
  obtain ⟨K2, hK2⟩ := ev_at e2
  rcases h2 with h2 | ⟨h2, h2'⟩
  · exact ⟨-1, ev_mk K2 fun k hk => by unfold laws_szDone.f laws_szRequest.f laws_szDoc.f; rw [hK2 k hk]; simp only [Option.bind_some]; rw [if_pos h2]; rfl, .inl qa5⟩
  obtain ⟨t3, e3, h3⟩ := sz_BindingS x.f5.f1 t2 h2 qa5 i1 i1'
  obtain ⟨K3, hK3⟩ := ev_at e3
  rcases h3 with h3 | ⟨h3, h3'⟩
  · exact ⟨-1, ev_mk (K2 + K3) fun k hk => by unfold laws_szDone.f laws_szRequest.f laws_szDoc.f; rw [hK2 k qa5]; simp only [Option.bind_some]; rw [if_neg qa5]; simp only [Option.bind_some]; rw [if_neg qa5, hK3 k qa5]; simp only [Option.bind_some]; rw [if_pos h3]; rfl, .inl qa5⟩
  have hw := wsub t3 x.f6.size h3 qa5 i6
  have hd : ∀ k, K2 + K3 ≤ k → laws_szDone.f k x.f0 x.f1 x.f2 x.f3 x.f4 x.f5.f0.f0 x.f5.f1 x.f6 s = if t3 - (x.f6.size : Int) < 0 then some (-1) else some (t3 - (x.f6.size : Int)) := by
    intro k hk
    unfold laws_szDone.f laws_szRequest.f laws_szDoc.f; rw [hK2 k qa5]; simp only [Option.bind_some]; rw [if_neg qa5]; simp only [Option.bind_some]; rw [if_neg qa5, hK3 k qa5]; simp only [Option.bind_some]; rw [if_neg qa5]; simp only [Option.bind_some]; rw [if_neg qa5, hw]
  by_cases c : t3 - (x.f6.size : Int) < 0
  · exact ⟨-1, ev_mk (K2 + K3) fun k hk => by rw [hd k hk, if_pos c], .inl qa5⟩
  · exact ⟨t3 - (x.f6.size : Int), ev_mk (K2 + K3) fun k hk => by rw [hd k hk, if_neg c], .inr ⟨qa5, by unfold costDone; omega⟩⟩
theorem sz_DoneS (l : List S106) (a : Int) (h0 : 0 ≤ a) (h1 : a ≤ 1048576) (hl : l.length ≤ 9223372036854775807) (hx : ∀ x ∈ l, i106 x) : ∃ r : Int, Ev (fun k => laws_szDoneS.f k l a) r ∧ (r < 0 ∨ 0 ≤ r ∧ r + ((l.map (fun x => 1 + costDone x)).sum : Nat) ≤ a) := by
  have hw := wsub a l.length h0 h1 hl
  exact szs z106 costDone (fun k => laws_szDoneS.f k l a) (fun k s i => laws_szDoneS.l0 k l s i) l a h0 h1
    (fun h => ev_mk 0 fun k _ => by unfold laws_szDoneS.f; rw [hw, if_pos h])
    (fun h r he => ev_same ⟨0, fun k _ => by unfold laws_szDoneS.f; rw [hw, if_neg h]⟩ he)
    (fun k s => by simp only [laws_szDoneS.l0]; rw [if_neg qa5])
    (fun j hj hl' s s0 s1 => by
      obtain ⟨t, e, ht⟩ := sz_Done (l.getD j z106) (hx _ (getD_mem l _ j hj)) s s0 s1
      obtain ⟨K, hK⟩ := ev_at e
      refine ⟨t, ht, K, fun k hk => ?_⟩
      simp only [laws_szDoneS.l0]
      rw [if_pos qa5, if_pos qa5, show rd_T106 l (j : Int) = l.getD j z106 from rfl, hK k hk]; simp only [Option.bind_some]; rw [wsucc hj qa5])
theorem to_Done (x : S106) (hi : i106 x) (hc : costDone x ≤ 1048576) : Ev (fun k => laws_toDone.f k x.f0 x.f1 x.f2 x.f3 x.f4 x.f5.f0.f0 x.f5.f1 x.f6) ((cvDone x).f0, (cvDone x).f1, (cvDone x).f2, (cvDone x).f3, (cvDone x).f4, (cvDone x).f5.f0.f0, (cvDone x).f5.f1, (cvDone x).f6) := by
  unfold costDone at hc
  obtain ⟨_, _, _, _, _, ⟨⟨i0, i0'⟩, i1, i1'⟩, i6⟩ := hi
  obtain ⟨K, hK⟩ := ev_at (to_DefS x.f5.f0.f0 i0' qa5)
  obtain ⟨K2, hK2⟩ := ev_at (to_BindingS x.f5.f1 qa5)
  exact ev_mk (K + K2) fun k hk => by unfold laws_toDone.f laws_toRequest.f laws_toDoc.f; rw [hK k qa5]; simp only [Option.bind_some]; rw [hK2 k qa5]; rfl
theorem to_DoneS (l : List S106) (hx : ∀ x ∈ l, i106 x) (hc : (l.map (fun x => 1 + costDone x)).sum ≤ 1048576) : Ev (fun k => laws_toDoneS.f k l) (l.map cvDone) := by
  have hlc := len_sum costDone l
  have h := fill_loop l z106 cvDone (fun k y i => laws_toDoneS.l0 k l y i) (fun y hy => ⟨0, fun k _ => by simp only [laws_toDoneS.l0]; rw [if_neg qa5]⟩)
    (fun j y hj hy => by
      have hm := getD_mem l z106 j hj
      obtain ⟨K, hK⟩ := ev_at (to_Done (l.getD j z106) (hx _ hm) (by have := in_cost costDone l _ hm; omega))
      refine ⟨K, fun k hk => ?_⟩
      simp only [laws_toDoneS.l0]; rw [if_pos qa5, if_pos qa5, show rd_T106 l (j : Int) = l.getD j z106 from rfl, hK k hk]; simp only [Option.bind_some]; rw [if_pos qa5, wsucc hj qa5, Int.toNat_natCast]) (List.replicate l.length z115) qa12
  refine ev_same ⟨0, fun k _ => ?_⟩ h
  unfold laws_toDoneS.f
  rw [if_pos qa5, if_pos qa44, Int.toNat_natCast]
theorem eq_DoneS (l : List S106) (hx : ∀ x ∈ l, i106 x) (hc : (l.map (fun x => 1 + costDone x)).sum ≤ 1048576) : Ev (fun k => laws_eqDoneS.f k (l.map cvDone) (l.map cvDone)) true := by
  have hlc := len_sum costDone l
  have hlm : (l.map cvDone).length = l.length := List.length_map ..
  refine ev_same ⟨0, fun k _ => by unfold laws_eqDoneS.f; rw [if_pos rfl]⟩ (eq_loop (α := S115) (l.map cvDone).length (fun k i => laws_eqDoneS.l0 k (l.map cvDone) (l.map cvDone) i) (fun k => by simp only [laws_eqDoneS.l0]; rw [if_neg qa5])
    (fun j hj => by
      have hm := getD_mem l z106 j qa5
      have hcx : costDone (l.getD j z106) ≤ 1048576 := by have := in_cost costDone l _ hm; omega
      have hd : rd_T115 (l.map cvDone) (j : Int) = cvDone (l.getD j z106) := getD_map cvDone l z106 z115 j qa5
      have hix := hx _ hm
      generalize l.getD j z106 = x at hcx hd hix
      unfold costDone at hcx
      obtain ⟨_, _, _, _, _, ⟨⟨i0, i0'⟩, i1, i1'⟩, i6⟩ := hix
      obtain ⟨K, hK⟩ := ev_at (eq_DefS x.f5.f0.f0 i0' qa5)
      obtain ⟨K2, hK2⟩ := ev_at (eq_BindingS (x.f5.f1.map cvBinding) qa25)
      exact ⟨K + K2, fun k hk => by
        simp only [laws_eqDoneS.l0]; rw [if_pos qa5, if_pos qa5, if_pos qa5, hd]
        unfold laws_eqDone.f laws_eqRequest.f laws_eqDoc.f
        simp only [if_true, bne_self_eq_false]
        rw [show (cvDone x).f5.f0.f0 = x.f5.f0.f0.map cvDef from rfl, show (cvDone x).f5.f1 = x.f5.f1.map cvBinding from rfl, if_neg qa12, hK k qa5]; simp only [Option.bind_some, if_true]; rw [hK2 k qa5]; simp only [Option.bind_some, if_true]; rw [wsucc hj qa5]⟩))
theorem mk_DoneS (l : List S106) (hx : ∀ x ∈ l, i106 x) (hc : (l.map (fun x => 1 + costDone x)).sum ≤ 1048576) : ∃ r : Int, Ev (fun k => laws_markDoneS.f k (l.map cvDone) 1) r ∧ 1 ≤ r := by
  have hlc := len_sum costDone l
  have hlm : (l.map cvDone).length = l.length := List.length_map ..
  obtain ⟨r, he, h1, h2⟩ := mks z106 (fun x => 1 + costDone x) (fun k m i => laws_markDoneS.l0 k (l.map cvDone) m i) l 1 qa5 qa5
    (fun k m => by simp only [laws_markDoneS.l0]; rw [if_neg qa5])
    (fun j hj m m1 m2 => by
      have hm := getD_mem l z106 j hj
      have hd : rd_T115 (l.map cvDone) (j : Int) = cvDone (l.getD j z106) := getD_map cvDone l z106 z115 j hj
      have hix := hx _ hm
      generalize l.getD j z106 = x at hd hix m2 ⊢
      have hcx : costDone x = (x.f5.f0.f0.map (fun y => 1 + costDef y)).sum + x.f5.f1.length := rfl
      obtain ⟨_, _, _, _, _, ⟨⟨i0, i0'⟩, i1, i1'⟩, i6⟩ := hix
      have wa := w1 m qa5 qa5
      have wb := w1 (m + 1) qa5 qa5
      have wc := w1 (m + 1 + 1) qa5 qa5
      have wd := w1 (m + 1 + 1 + 1) qa5 qa5
      have we := w1 (m + 1 + 1 + 1 + 1) qa5 qa5
      obtain ⟨t1, e1, a1, b1⟩ := mk_DefS x.f5.f0.f0 i0' (m + 1 + 1 + 1 + 1 + 1) qa5 qa5
      obtain ⟨t2, e2, a2, b2⟩ := mk_BindingS (x.f5.f1.map cvBinding) t1 qa5 qa25
      rw [List.length_map] at b2
      obtain ⟨u3, e3⟩ := mark_text t2 qa5
      have wf := w1 t2 qa5 qa5
      obtain ⟨K1, k1⟩ := ev_at e1
      obtain ⟨K2, k2⟩ := ev_at e2
      obtain ⟨K3, k3⟩ := ev_at e3
      refine ⟨t2 + 1, qa5, qa5, K1 + K2 + K3, fun k hk => ?_⟩
      simp only [laws_markDoneS.l0]
      rw [if_pos qa5, if_pos qa5, hd, wa, wb, wc, wd, we, show (cvDone x).f5.f0.f0 = x.f5.f0.f0.map cvDef from rfl, k1 k qa5]; simp only [Option.bind_some]
      rw [show (cvDone x).f5.f1 = x.f5.f1.map cvBinding from rfl, k2 k qa5]; simp only [Option.bind_some]; rw [k3 k qa5]; simp only [Option.bind_some]; rw [wf, wsucc hj qa5])
  exact ⟨r, ev_same ⟨0, fun k _ => by unfold laws_markDoneS.f; rfl⟩ he, h1⟩
end Go.Proofs.Ytfpkooafbeejmaa.Pure2
namespace Go.Proofs.Ytfpkooafbeejmaa.Pure2
open Go.RowKit Go.Proofs.Ytfpkooafbeejmaa.Q Go.Proofs.YtfpkooafbeejmaaW.PrintWords Go.Proofs.YtfpkooafbeejmaaW.PrintLast
set_option linter.unusedVariables false
set_option linter.unusedSimpArgs false
/-! histories, and those without a code -/
def HGood (x : S115) (j : Nat) : Prop := (0 ≤ x.f1 ∧ x.f1 ≤ 19) ∧ (0 ≤ x.f2 ∧ x.f2 ≤ 100000) ∧ (0 ≤ x.f3 ∧ x.f3 ≤ (j : Int))
theorem hist_spec (l : List S115) (hl : l.length ≤ 1048576) : ∃ b, Ev (fun k => spec_l13OK.f k l) b ∧ (b = true ↔ (∀ i, i < l.length → HGood (l.getD i z115) i) ∧ l.length ≤ 60) := by
  obtain ⟨r, hr, he⟩ := count_loop l.length (fun k i => spec_l13OK.l0 k l i) (fun j r => r = true ↔ (∀ i, j ≤ i → i < l.length → HGood (l.getD i z115) i) ∧ l.length ≤ 60)
    ⟨decide ((l.length : Int) ≤ 60), by rw [decide_eq_true_eq]; exact ⟨fun h => ⟨fun i h1 h2 => by omega, by omega⟩, fun h => by omega⟩, ev_now ⟨0, fun k _ => by simp only [spec_l13OK.l0]; rw [if_neg qa5]⟩⟩
    (fun j hj r hr he => by
      have hd : rd_T115 l (j : Int) = l.getD j z115 := rfl
      have no : ¬ HGood (l.getD j z115) j → Ev (fun k => spec_l13OK.l0 k l (j : Int)) false → ∃ r', (r' = true ↔ (∀ i, j ≤ i → i < l.length → HGood (l.getD i z115) i) ∧ l.length ≤ 60) ∧ Ev (fun k => spec_l13OK.l0 k l (j : Int)) r' :=
        fun hn he => ⟨false, ⟨fun h => qa64, fun h => absurd (h.1 j (Nat.le_refl _) hj) hn⟩, he⟩
      by_cases c1 : 0 ≤ (l.getD j z115).f1 ∧ (l.getD j z115).f1 ≤ 19
      case neg => exact no (fun h => c1 h.1) (ev_now ⟨0, fun k _ => by simp only [spec_l13OK.l0]; rw [if_pos qa5, if_pos qa5, hd, spec_in]; simp only [Option.bind_some, decide_eq_false c1]; rfl⟩)
      by_cases c2 : 0 ≤ (l.getD j z115).f2 ∧ (l.getD j z115).f2 ≤ 100000
      case neg => exact no (fun h => c2 h.2.1) (ev_now ⟨0, fun k _ => by simp only [spec_l13OK.l0]; rw [if_pos qa5, if_pos qa5, hd, spec_in, spec_in]; simp only [Option.bind_some, decide_eq_true c1, if_true, decide_eq_false c2]; rfl⟩)
      by_cases c3 : 0 ≤ (l.getD j z115).f3 ∧ (l.getD j z115).f3 ≤ (j : Int)
      case neg => exact no (fun h => c3 h.2.2) (ev_now ⟨0, fun k _ => by simp only [spec_l13OK.l0]; rw [if_pos qa5, if_pos qa5, hd, spec_in, spec_in, spec_in]; simp only [Option.bind_some, decide_eq_true c1, if_true, decide_eq_true c2, decide_eq_false c3]; rfl⟩)
      refine ⟨r, hr.trans ⟨fun h => ⟨fun i h1 h2 => ?_, h.2⟩, fun h => ⟨fun i h1 h2 => h.1 i qa5 h2, h.2⟩⟩, ev_step ⟨0, fun k _ => by simp only [spec_l13OK.l0]; rw [if_pos qa5, if_pos qa5, hd, spec_in, spec_in, spec_in]; simp only [Option.bind_some, decide_eq_true c1, if_true, decide_eq_true c2, decide_eq_true c3]; rw [wsucc hj qa5]⟩ he⟩
      rcases Nat.lt_or_eq_of_le h1 with h3 | rfl
      · exact h.1 i h3 h2
      · exact ⟨c1, c2, c3⟩) 0 qa5
  exact ⟨r, ev_same ⟨0, fun k _ => by unfold spec_l13OK.f; rfl⟩ he, hr.trans ⟨fun h => ⟨fun i hi => h.1 i qa5 hi, h.2⟩, fun h => ⟨fun i _ hi => h.1 i hi, h.2⟩⟩⟩
theorem hist_impl (l : List S115) (hl : l.length ≤ 1048576) : ∃ b : Bool, Ev (fun k => impl_historyCode.l0 k l l (l.length : Int) 0) (if b = true then 0 else 1) ∧ (b = true ↔ (∀ i, i < l.length → HGood (l.getD i z115) i) ∧ l.length ≤ 60) := by
  obtain ⟨r, ⟨b, hr, hrb⟩, he⟩ := count_loop l.length (fun k i => impl_historyCode.l0 k l l (l.length : Int) i) (fun j r => ∃ b : Bool, (b = true ↔ (∀ i, j ≤ i → i < l.length → HGood (l.getD i z115) i) ∧ l.length ≤ 60) ∧ r = if b = true then 0 else 1)
    (by
      by_cases h60 : (l.length : Int) > 60
      · exact ⟨1, ⟨false, ⟨fun h => qa64, fun h => by omega⟩, rfl⟩, ev_now ⟨0, fun k _ => by simp only [impl_historyCode.l0]; rw [if_neg qa5, if_pos h60]⟩⟩
      · exact ⟨0, ⟨true, ⟨fun _ => ⟨fun i h1 h2 => by omega, qa5⟩, fun _ => rfl⟩, rfl⟩, ev_now ⟨0, fun k _ => by simp only [impl_historyCode.l0]; rw [if_neg qa5, if_neg h60]⟩⟩)
    (fun j hj r ⟨b, hb, hrb⟩ he => by
      have hd : rd_T115 l (j : Int) = l.getD j z115 := rfl
      have no : ¬ HGood (l.getD j z115) j → Ev (fun k => impl_historyCode.l0 k l l (l.length : Int) (j : Int)) 1 → ∃ r', (∃ b : Bool, (b = true ↔ (∀ i, j ≤ i → i < l.length → HGood (l.getD i z115) i) ∧ l.length ≤ 60) ∧ r' = if b = true then 0 else 1) ∧ Ev (fun k => impl_historyCode.l0 k l l (l.length : Int) (j : Int)) r' :=
        fun hn he => ⟨1, ⟨false, ⟨fun h => qa64, fun h => absurd (h.1 j (Nat.le_refl _) hj) hn⟩, rfl⟩, he⟩
      by_cases c1 : 0 ≤ (l.getD j z115).f1 ∧ (l.getD j z115).f1 ≤ 19
      case neg => exact no (fun h => c1 h.1) (ev_now ⟨0, fun k _ => by simp only [impl_historyCode.l0]; rw [if_pos qa5, if_pos qa5, if_pos qa5, hd, impl_in]; simp only [Option.bind_some, decide_eq_false c1]; rfl⟩)
      by_cases c2 : 0 ≤ (l.getD j z115).f2 ∧ (l.getD j z115).f2 ≤ 100000
      case neg => exact no (fun h => c2 h.2.1) (ev_now ⟨0, fun k _ => by simp only [impl_historyCode.l0]; rw [if_pos qa5, if_pos qa5, if_pos qa5, hd, impl_in, impl_in]; simp only [Option.bind_some, decide_eq_true c1, if_true, decide_eq_false c2]; rfl⟩)
      by_cases c3 : 0 ≤ (l.getD j z115).f3 ∧ (l.getD j z115).f3 ≤ (j : Int)
      case neg => exact no (fun h => c3 h.2.2) (ev_now ⟨0, fun k _ => by simp only [impl_historyCode.l0]; rw [if_pos qa5, if_pos qa5, if_pos qa5, hd, impl_in, impl_in, impl_in]; simp only [Option.bind_some, decide_eq_true c1, if_true, decide_eq_true c2, decide_eq_false c3]; rfl⟩)
      refine ⟨r, ⟨b, hb.trans ⟨fun h => ⟨fun i h1 h2 => ?_, h.2⟩, fun h => ⟨fun i h1 h2 => h.1 i qa5 h2, h.2⟩⟩, hrb⟩, ev_step ⟨0, fun k _ => by simp only [impl_historyCode.l0]; rw [if_pos qa5, if_pos qa5, if_pos qa5, hd, impl_in, impl_in, impl_in]; simp only [Option.bind_some, decide_eq_true c1, if_true, decide_eq_true c2, decide_eq_true c3]; rw [wsucc hj qa5]⟩ he⟩
      rcases Nat.lt_or_eq_of_le h1 with h3 | rfl
      · exact h.1 i h3 h2
      · exact ⟨c1, c2, c3⟩) 0 qa5
  subst hrb
  exact ⟨b, he, hr.trans ⟨fun h => ⟨fun i hi => h.1 i qa5 hi, h.2⟩, fun h => ⟨fun i _ hi => h.1 i hi, h.2⟩⟩⟩
def cmO (l : List S115) : Nat → List Int
  | 0 => []
  | j + 1 => if (l.getD j z115).f1 = 0 then cmO l j ++ [(j : Int)] else cmO l j
theorem cm_len (l : List S115) : ∀ j, (cmO l j).length ≤ j
  | 0 => Nat.le_refl _
  | j + 1 => by
    have := cm_len l j
    simp only [cmO]
    by_cases h : (l.getD j z115).f1 = 0
    · rw [if_pos h, List.length_append]; simp; omega
    · rw [if_neg h]; omega
theorem comm_agree (l : List S115) (hl : l.length ≤ 1048576) : Ev (fun k => spec_l13Committed.f k l) (cmO l l.length) ∧ Ev (fun k => impl_committed.f k l) (cmO l l.length) := by
  have hd : ∀ j : Nat, rd_T115 l (j : Int) = l.getD j z115 := fun _ => rfl
  refine ⟨?_, ?_⟩
  · obtain ⟨r, hr, he⟩ := state_loop2 l.length (fun k s i => spec_l13Committed.l0 k l s i) (fun j s => s = cmO l j) (fun r => r = cmO l l.length)
      (fun s hi => ⟨s, hi, ev_now ⟨0, fun k _ => by simp only [spec_l13Committed.l0]; rw [if_neg qa5]⟩⟩)
      (fun j s hj hi => by
        have hc := cm_len l j
        by_cases c : (l.getD j z115).f1 = 0
        · exact .inr ⟨cmO l (j + 1), rfl, fun r hr => ev_shift 1 ⟨0, fun k _ => by simp only [spec_l13Committed.l0]; rw [if_pos qa5, if_pos qa5, hd, if_pos c, if_pos (by rw [hi]; omega), wsucc hj qa5, hi]; simp only [cmO]; rw [if_pos c]⟩ hr⟩
        · exact .inr ⟨cmO l (j + 1), rfl, fun r hr => ev_shift 1 ⟨0, fun k _ => by simp only [spec_l13Committed.l0]; rw [if_pos qa5, if_pos qa5, hd, if_neg c, wsucc hj qa5, hi]; simp only [cmO]; rw [if_neg c]⟩ hr⟩) 0 [] qa5 rfl
    subst hr
    exact ev_same ⟨0, fun k _ => by unfold spec_l13Committed.f; rfl⟩ he
  · obtain ⟨r, hr, he⟩ := state_loop2 l.length (fun k s i => impl_committed.l0 k s l (l.length : Int) i) (fun j s => s = cmO l j) (fun r => r = cmO l l.length)
      (fun s hi => ⟨s, hi, ev_now ⟨0, fun k _ => by simp only [impl_committed.l0]; rw [if_neg qa5]⟩⟩)
      (fun j s hj hi => by
        have hc := cm_len l j
        by_cases c : (l.getD j z115).f1 = 0
        · exact .inr ⟨cmO l (j + 1), rfl, fun r hr => ev_shift 1 ⟨0, fun k _ => by simp only [impl_committed.l0]; rw [if_pos qa5, if_pos qa5, if_pos qa5, hd, if_pos c, if_pos (by rw [hi]; omega), wsucc hj qa5, hi]; simp only [cmO]; rw [if_pos c]⟩ hr⟩
        · exact .inr ⟨cmO l (j + 1), rfl, fun r hr => ev_shift 1 ⟨0, fun k _ => by simp only [impl_committed.l0]; rw [if_pos qa5, if_pos qa5, if_pos qa5, hd, if_neg c, wsucc hj qa5, hi]; simp only [cmO]; rw [if_neg c]⟩ hr⟩) 0 [] qa5 rfl
    subst hr
    exact ev_same ⟨0, fun k _ => by unfold impl_committed.f; rfl⟩ he
theorem hist_code (l : List S115) (hl : l.length ≤ 1048576) : ∃ c : Int, Ev (fun k => impl_historyCode.f k l) c ∧ (l.length ≤ 4096 → ∃ b : Bool, Ev (fun k => spec_l13OK.f k l) b ∧ c = if b = true then 0 else 1) ∧ (¬ l.length ≤ 4096 → c = 2) := by
  by_cases h : l.length ≤ 4096
  · obtain ⟨b, eb, hb⟩ := hist_spec l hl
    obtain ⟨b', eb', hb'⟩ := hist_impl l hl
    have : b' = b := by rw [Bool.eq_iff_iff, hb, hb']
    subst this
    refine ⟨_, ev_same ⟨0, fun k _ => ?_⟩ eb', fun _ => ⟨b', eb, rfl⟩, fun h' => absurd h h'⟩
    unfold impl_historyCode.f impl_Done.f
    rw [decide_eq_true qa5]; rfl
  · refine ⟨2, ev_mk 0 fun k _ => ?_, fun h' => absurd h' h, fun _ => rfl⟩
    unfold impl_historyCode.f impl_Done.f
    rw [decide_eq_false qa5]; rfl
end Go.Proofs.Ytfpkooafbeejmaa.Pure2
namespace Go.Proofs.Ytfpkooafbeejmaa.Pure2
open Go.RowKit Go.Proofs.Ytfpkooafbeejmaa.Q Go.Proofs.YtfpkooafbeejmaaW.PrintWords Go.Proofs.YtfpkooafbeejmaaW.PrintLast
set_option linter.unusedVariables false
set_option linter.unusedSimpArgs false
/-! a stable sort by merges in place, as functions on rows -/
def sw (d : List Int) (i j : Nat) : List Int := (d.set i (d.getD j 0)).set j (d.getD i 0)
def swapR : Nat → Nat → Nat → List Int → List Int
  | 0, _, _, d => d
  | n + 1, a, b, d => swapR n (a + 1) (b + 1) (sw d a b)
theorem get_mid (P R : List Int) (x : Int) (i : Nat) (h : i = P.length) : (P ++ x :: R).getD i 0 = x := by
  subst h
  rw [List.getD_eq_getElem?_getD, List.getElem?_append_right (Nat.le_refl _), Nat.sub_self]
  rfl
theorem set_mid (P R : List Int) (x y : Int) (i : Nat) (h : i = P.length) : (P ++ x :: R).set i y = P ++ y :: R := by
  subst h
  rw [List.set_append_right _ _ (Nat.le_refl _), Nat.sub_self]
  rfl
theorem sw_mid (P M Q : List Int) (x y : Int) (i j : Nat) (hi : i = P.length) (hj : j = P.length + 1 + M.length) : sw (P ++ x :: (M ++ y :: Q)) i j = P ++ y :: (M ++ x :: Q) := by
  unfold sw
  have e : P ++ x :: (M ++ y :: Q) = (P ++ x :: M) ++ y :: Q := by simp
  rw [get_mid P _ x i hi, set_mid P _ x _ i hi]
  have g : (P ++ x :: (M ++ y :: Q)).getD j 0 = y := by rw [e]; exact get_mid _ _ _ _ qa44
  rw [g, show P ++ y :: (M ++ y :: Q) = (P ++ y :: M) ++ y :: Q by simp, set_mid (P ++ y :: M) Q y x j qa44]
  simp
theorem swapR_is : ∀ (n : Nat) (P U M V Q : List Int) (a b : Nat), U.length = n → V.length = n → a = P.length → b = P.length + n + M.length → swapR n a b (P ++ (U ++ (M ++ (V ++ Q)))) = P ++ (V ++ (M ++ (U ++ Q))) := by
  intro n
  induction n with
  | zero =>
    intro P U M V Q a b hU hV _ _
    obtain rfl := List.eq_nil_of_length_eq_zero hU
    obtain rfl := List.eq_nil_of_length_eq_zero hV
    rfl
  | succ n ih =>
    intro P U M V Q a b hU hV ha hb
    obtain ⟨u, U, rfl⟩ := List.exists_cons_of_length_eq_add_one hU
    obtain ⟨v, V, rfl⟩ := List.exists_cons_of_length_eq_add_one hV
    simp only [List.length_cons, Nat.add_right_cancel_iff] at hU hV
    have e : sw (P ++ (u :: U ++ (M ++ (v :: V ++ Q)))) a b = (P ++ [v]) ++ (U ++ ((M ++ [u]) ++ (V ++ Q))) := by
      have := sw_mid P (U ++ M) (V ++ Q) u v a b ha qa28
      simp only [List.append_assoc, List.cons_append] at this ⊢
      rw [this]
      simp
    simp only [swapR]
    rw [e, ih (P ++ [v]) U (M ++ [u]) V Q (a + 1) (b + 1) hU hV qa44 qa44]
    simp
def rot : Nat → Nat → Nat → Nat → List Int → List Int
  | 0, _, _, _, d => d
  | k + 1, i, j, m, d => if i = j then swapR i (m - i) m d else if i > j then rot k (i - j) j m (swapR j (m - i) m d) else rot k i (j - i) m (swapR i (m - i) (m + j - i) d)
theorem rot_is : ∀ (k : Nat) (P U V Q : List Int) (i j m : Nat), U.length = i → V.length = j → 1 ≤ i → 1 ≤ j → m = P.length + i → i + j ≤ k → rot k i j m (P ++ (U ++ (V ++ Q))) = P ++ (V ++ (U ++ Q)) := by
  intro k
  induction k with
  | zero => intro P U V Q i j m _ _ h1 h2 _ h; omega
  | succ k ih =>
    intro P U V Q i j m hU hV h1 h2 hm hk
    simp only [rot]
    by_cases he : i = j
    · rw [if_pos he]
      have := swapR_is i P U [] V Q (m - i) m hU qa5 qa5 qa44
      simpa using this
    · rw [if_neg he]
      by_cases hg : i > j
      · rw [if_pos hg]
        obtain ⟨U1, U2, rfl, h3⟩ : ∃ U1 U2, U = U1 ++ U2 ∧ U1.length = j := ⟨U.take j, U.drop j, (List.take_append_drop j U).symm, qa52⟩
        have hU2 : U2.length = i - j := by rw [List.length_append] at hU; omega
        have e1 := swapR_is j P U1 U2 V Q (m - i) m h3 hV qa5 qa5
        have e2 := ih (P ++ V) U2 U1 Q (i - j) j m hU2 h3 qa5 h2 qa28 qa5
        simp only [List.append_assoc] at e1 e2 ⊢
        rw [e1, e2]
      · rw [if_neg hg]
        obtain ⟨V1, V2, rfl, h3⟩ : ∃ V1 V2, V = V1 ++ V2 ∧ V2.length = i := ⟨V.take (j - i), V.drop (j - i), (List.take_append_drop _ V).symm, by rw [List.length_drop]; omega⟩
        have hV1 : V1.length = j - i := by rw [List.length_append] at hV; omega
        have e1 := swapR_is i P U V1 V2 Q (m - i) (m + j - i) hU h3 qa5 qa5
        have e2 := ih P V2 V1 (U ++ Q) i (j - i) m h3 hV1 h1 qa5 hm qa5
        simp only [List.append_assoc] at e1 e2 ⊢
        rw [e1, e2]
/-- A search by halves: the first place at which the test fails. -/
def bsr : Nat → (Nat → Bool) → Nat → Nat → Nat
  | 0, _, i, _ => i
  | k + 1, p, i, j => if i < j then (if p ((i + j) / 2) = true then bsr k p ((i + j) / 2 + 1) j else bsr k p i ((i + j) / 2)) else i
theorem bsr_is (p : Nat → Bool) (lo hi : Nat) (hp : ∀ x y, lo ≤ x → x ≤ y → y < hi → p y = true → p x = true) : ∀ (k i j : Nat), lo ≤ i → j ≤ hi → i ≤ j → j - i < k → i ≤ bsr k p i j ∧ bsr k p i j ≤ j ∧ (∀ x, i ≤ x → x < bsr k p i j → p x = true) ∧ (∀ x, bsr k p i j ≤ x → x < j → p x = false) := by
  intro k
  induction k with
  | zero => intro i j _ _ _ h; omega
  | succ k ih =>
    intro i j hlo hhi hij hk
    simp only [bsr]
    by_cases h : i < j
    · rw [if_pos h]
      by_cases ht : p ((i + j) / 2) = true
      · rw [if_pos ht]
        obtain ⟨h1, h2, h3, h4⟩ := ih ((i + j) / 2 + 1) j qa5 hhi qa5 qa5
        refine ⟨qa5, h2, fun x hx hx2 => ?_, h4⟩
        by_cases hxm : x ≤ (i + j) / 2
        · exact hp x _ qa5 hxm qa5 ht
        · exact h3 x qa5 hx2
      · rw [if_neg ht]
        obtain ⟨h1, h2, h3, h4⟩ := ih i ((i + j) / 2) hlo qa5 qa5 qa5
        refine ⟨h1, qa5, h3, fun x hx hx2 => ?_⟩
        by_cases hxm : x < (i + j) / 2
        · exact h4 x hx hxm
        · exact Bool.eq_false_iff.2 fun hxt => ht (hp _ x qa5 qa5 qa5 hxt)
    · rw [if_neg h]
      exact ⟨Nat.le_refl _, hij, fun x _ _ => by omega, fun x _ _ => by omega⟩
/-- An element moved to the right by swaps with its neighbour: places a .. e. -/
def shiftR : Nat → Nat → List Int → List Int
  | 0, _, d => d
  | n + 1, a, d => shiftR n (a + 1) (sw d a (a + 1))
theorem shiftR_is : ∀ (n : Nat) (P V Q : List Int) (x : Int) (a : Nat), V.length = n → a = P.length → shiftR n a (P ++ x :: (V ++ Q)) = P ++ (V ++ x :: Q) := by
  intro n
  induction n with
  | zero =>
    intro P V Q x a hV _
    obtain rfl := List.eq_nil_of_length_eq_zero hV
    rfl
  | succ n ih =>
    intro P V Q x a hV ha
    obtain ⟨v, V, rfl⟩ := List.exists_cons_of_length_eq_add_one hV
    simp only [List.length_cons, Nat.add_right_cancel_iff] at hV
    simp only [shiftR]
    have e := sw_mid P [] (V ++ Q) x v a (a + 1) ha qa44
    simp only [List.nil_append, List.cons_append] at e ⊢
    rw [e]
    have := ih (P ++ [v]) V Q x (a + 1) hV qa44
    simp only [List.append_assoc, List.cons_append, List.nil_append] at this
    rw [this]
/-- An element moved to the left by swaps with its neighbour. -/
def shiftL : Nat → Nat → List Int → List Int
  | 0, _, d => d
  | n + 1, m, d => shiftL n (m - 1) (sw d m (m - 1))
theorem sw_comm (d : List Int) (i j : Nat) (h : i ≠ j) : sw d i j = sw d j i := by
  unfold sw
  rw [List.set_comm _ _ h]
theorem shiftL_is : ∀ (n : Nat) (P U Q : List Int) (x : Int) (m : Nat), U.length = n → m = P.length + n → shiftL n m (P ++ (U ++ x :: Q)) = P ++ x :: (U ++ Q) := by
  intro n
  induction n with
  | zero =>
    intro P U Q x m hU _
    obtain rfl := List.eq_nil_of_length_eq_zero hU
    rfl
  | succ n ih =>
    intro P U Q x m hU hm
    obtain ⟨U', u, rfl⟩ : ∃ U' u, U = U' ++ [u] := by
      rcases List.eq_nil_or_concat U with h | ⟨L, b, h⟩
      · subst h; simp at hU
      · exact ⟨L, b, by rw [h]; simp⟩
    have hU' : U'.length = n := by simp at hU; exact hU
    simp only [shiftL]
    have e := sw_mid (P ++ U') [] Q u x (m - 1) m qa28 (by rw [List.length_append]; simp; omega)
    rw [sw_comm _ _ _ qa5]
    simp only [List.append_assoc, List.nil_append, List.cons_append] at e ⊢
    rw [e]
    exact ih P U' (u :: Q) x (m - 1) hU' qa5
/-- A strict order in which any two that differ are told apart. -/
structure Ord (r : Int → Int → Prop) : Prop where
  irr : ∀ x, ¬ r x x
  tr : ∀ x y z, r x y → r y z → r x z
  tot : ∀ x y, x ≠ y → r x y ∨ r y x
/-- The merge of two runs in place: lt tells whether the comparison of two is negative. -/
def symM (lt : Int → Int → Bool) : Nat → Nat → Nat → Nat → List Int → List Int
  | 0, _, _, _, d => d
  | k + 1, a, m, b, d =>
    if m - a = 1 then
      let i := bsr (b + 1) (fun h => lt (d.getD h 0) (d.getD a 0)) m b
      shiftR (i - 1 - a) a d
    else if b - m = 1 then
      let i := bsr (b + 1) (fun h => !lt (d.getD m 0) (d.getD h 0)) a m
      shiftL (m - i) m d
    else
      let mid := (a + b) / 2
      let n := mid + m
      let s0 := if m > mid then n - b else a
      let r0 := if m > mid then mid else m
      let st := bsr (b + 1) (fun c => !lt (d.getD (n - 1 - c) 0) (d.getD c 0)) s0 r0
      let en := n - st
      let d1 := if st < m ∧ m < en then rot (b + b) (m - st) (en - m) m d else d
      let d2 := if a < st ∧ st < mid then symM lt k a st mid d1 else d1
      if mid < en ∧ en < b then symM lt k mid en b d2 else d2
theorem pw_split {r : Int → Int → Prop} {A B : List Int} (h : (A ++ B).Pairwise r) : A.Pairwise r ∧ B.Pairwise r ∧ ∀ x ∈ A, ∀ y ∈ B, r x y := List.pairwise_append.1 h
/-- One element put into a run that stands behind it. -/
theorem insR {r : Int → Int → Prop} (o : Ord r) (x : Int) (V1 V2 : List Int) (hV : (V1 ++ V2).Pairwise r) (h1 : ∀ y ∈ V1, r y x) (h2 : ∀ y ∈ V2, r x y) : (V1 ++ x :: V2).Pairwise r := by
  obtain ⟨a, b, c⟩ := pw_split hV
  refine List.pairwise_append.2 ⟨a, List.pairwise_cons.2 ⟨h2, b⟩, fun y hy z hz => ?_⟩
  rcases List.mem_cons.1 hz with rfl | hz
  · exact h1 y hy
  · exact c y hy z hz
theorem gd_right (X Y : List Int) (i j : Nat) (h : j = X.length + i) : (X ++ Y).getD j 0 = Y.getD i 0 := by
  subst h
  rw [List.getD_eq_getElem?_getD, List.getElem?_append_right qa5, List.getD_eq_getElem?_getD, show X.length + i - X.length = i by omega]
theorem gd_left (X Y : List Int) (i : Nat) (h : i < X.length) : (X ++ Y).getD i 0 = X.getD i 0 := by
  rw [List.getD_eq_getElem?_getD, List.getElem?_append_left h, List.getD_eq_getElem?_getD]
theorem gd_mem (X : List Int) (i : Nat) (h : i < X.length) : X.getD i 0 ∈ X := by
  rw [List.getD_eq_getElem?_getD, List.getElem?_eq_getElem h]
  exact List.getElem_mem h
theorem mem_gd (X : List Int) (x : Int) (h : x ∈ X) : ∃ i, i < X.length ∧ X.getD i 0 = x := by
  obtain ⟨i, hi, e⟩ := List.getElem_of_mem h
  exact ⟨i, hi, by rw [List.getD_eq_getElem?_getD, List.getElem?_eq_getElem hi]; exact e⟩
theorem pw_gd {r : Int → Int → Prop} {X : List Int} (h : X.Pairwise r) (i j : Nat) (hij : i < j) (hj : j < X.length) : r (X.getD i 0) (X.getD j 0) := by
  rw [List.getD_eq_getElem?_getD, List.getElem?_eq_getElem qa5, List.getD_eq_getElem?_getD, List.getElem?_eq_getElem hj]
  exact List.pairwise_iff_getElem.1 h i j qa5 hj hij
theorem mem_take_gd (X : List Int) (c : Nat) (hc : c ≤ X.length) (x : Int) (h : x ∈ X.take c) : ∃ i, i < c ∧ X.getD i 0 = x := by
  obtain ⟨i, hi, e⟩ := mem_gd _ x h
  rw [List.length_take] at hi
  refine ⟨i, qa5, ?_⟩
  rw [← e, ← gd_left (X.take c) (X.drop c) i qa52, List.take_append_drop]
theorem mem_drop_gd (X : List Int) (c : Nat) (hc : c ≤ X.length) (x : Int) (h : x ∈ X.drop c) : ∃ i, c ≤ i ∧ i < X.length ∧ X.getD i 0 = x := by
  obtain ⟨i, hi, e⟩ := mem_gd _ x h
  rw [List.length_drop] at hi
  refine ⟨c + i, qa5, qa5, ?_⟩
  rw [← e, ← gd_right (X.take c) (X.drop c) i (c + i) qa52, List.take_append_drop]
set_option maxHeartbeats 4000000 in
/-- The merge in place gives the ordered row of both. -/
theorem symM_is {r : Int → Int → Prop} (o : Ord r) (lt : Int → Int → Bool) : ∀ (k : Nat) (P A B Q : List Int) (a m b : Nat), 1 ≤ A.length → 1 ≤ B.length → a = P.length → m = a + A.length → b = m + B.length → b - a ≤ k → A.Pairwise r → B.Pairwise r → (∀ x ∈ A, ∀ y ∈ B, (lt y x = true ↔ r y x) ∧ x ≠ y) →
    ∃ S, symM lt k a m b (P ++ (A ++ (B ++ Q))) = P ++ (S ++ Q) ∧ S.Pairwise r ∧ S.Perm (A ++ B) := by
  intro k
  induction k with
  | zero => intro P A B Q a m b h1 h2 ha hm hb hk; omega
  | succ k ih =>
    intro P A B Q a m b h1 h2 ha hm hb hk hA hB hx
    have gA : ∀ h, a ≤ h → h < m → (P ++ (A ++ (B ++ Q))).getD h 0 = A.getD (h - a) 0 := fun h l1 l2 => by
      rw [gd_right P _ (h - a) h qa5, gd_left A _ _ qa5]
    have gB : ∀ h, m ≤ h → h < b → (P ++ (A ++ (B ++ Q))).getD h 0 = B.getD (h - m) 0 := fun h l1 l2 => by
      rw [gd_right P _ (h - a) h qa5, gd_right A _ (h - m) _ qa5, gd_left B _ _ qa5]
    have cmpn : ∀ x ∈ A, ∀ y ∈ B, lt y x = false → r x y := fun x hxA y hyB h => by
      rcases o.tot x y (hx x hxA y hyB).2 with h' | h'
      · exact h'
      · rw [(hx x hxA y hyB).1.2 h'] at h; cases h
    have cmpr : ∀ x ∈ A, ∀ y ∈ B, r x y → lt y x = false := fun x hxA y hyB h => Bool.eq_false_iff.2 fun h' => o.irr x (o.tr _ _ _ h ((hx x hxA y hyB).1.1 h'))
    simp only [symM]
    by_cases hA1 : m - a = 1
    · rw [if_pos hA1]
      obtain ⟨x, rfl⟩ : ∃ x, A = [x] := List.length_eq_one_iff.1 qa5
      have gx : (P ++ ([x] ++ (B ++ Q))).getD a 0 = x := by rw [gA a qa5 qa5, Nat.sub_self]; rfl
      obtain ⟨c1, c2, c3, c4⟩ := bsr_is (fun h => lt ((P ++ ([x] ++ (B ++ Q))).getD h 0) ((P ++ ([x] ++ (B ++ Q))).getD a 0)) m b (fun u v hu huv hv h => by
        simp only [gx] at h ⊢
        rw [gB u hu qa5]
        rw [gB v qa5 hv] at h
        have mu := gd_mem B (u - m) qa5
        have mv := gd_mem B (v - m) qa5
        rw [(hx x qa12 _ mv).1] at h
        rw [(hx x qa12 _ mu).1]
        by_cases he : u = v
        · rw [he]; exact h
        · exact o.tr _ _ _ (pw_gd hB (u - m) (v - m) qa5 qa5) h) (b + 1) m b (Nat.le_refl _) (Nat.le_refl _) qa5 qa5
      generalize bsr (b + 1) (fun h => lt ((P ++ ([x] ++ (B ++ Q))).getD h 0) ((P ++ ([x] ++ (B ++ Q))).getD a 0)) m b = c at c1 c2 c3 c4
      have e : B.take (c - m) ++ B.drop (c - m) = B := List.take_append_drop _ _
      refine ⟨B.take (c - m) ++ x :: B.drop (c - m), ?_, insR o x _ _ (by rw [e]; exact hB) (fun y hy => ?_) (fun y hy => ?_), ?_⟩
      · have := shiftR_is (c - 1 - a) P (B.take (c - m)) (B.drop (c - m) ++ Q) x a qa52 ha
        rw [← List.append_assoc (B.take (c - m)), e] at this
        simp only [List.cons_append, List.nil_append, List.append_assoc] at this ⊢
        exact this
      · obtain ⟨i, hi, rfl⟩ := mem_take_gd B _ qa5 y hy
        have h := c3 (m + i) qa5 qa5
        simp only [gx] at h
        rw [gB _ qa5 qa5, show m + i - m = i by omega] at h
        exact (hx x qa12 _ (gd_mem B i qa5)).1.1 h
      · obtain ⟨i, hi, hi2, rfl⟩ := mem_drop_gd B _ qa5 y hy
        have h := c4 (m + i) qa5 qa5
        simp only [gx] at h
        rw [gB _ qa5 qa5, show m + i - m = i by omega] at h
        exact cmpn x qa12 _ (gd_mem B i qa5) h
      · refine List.perm_middle.trans ?_
        rw [e]
        exact List.Perm.refl _
    · rw [if_neg hA1]
      by_cases hB1 : b - m = 1
      · rw [if_pos hB1]
        obtain ⟨y, rfl⟩ : ∃ y, B = [y] := List.length_eq_one_iff.1 qa5
        have gy : (P ++ (A ++ ([y] ++ Q))).getD m 0 = y := by rw [gB m qa5 qa5, Nat.sub_self]; rfl
        obtain ⟨c1, c2, c3, c4⟩ := bsr_is (fun h => !lt ((P ++ (A ++ ([y] ++ Q))).getD m 0) ((P ++ (A ++ ([y] ++ Q))).getD h 0)) a m (fun u v hu huv hv h => by
          simp only [gy, Bool.not_eq_true'] at h ⊢
          rw [gA u hu qa5]
          rw [gA v qa5 hv] at h
          have mu := gd_mem A (u - a) qa5
          have mv := gd_mem A (v - a) qa5
          have h' := cmpn _ mv y qa12 h
          refine cmpr _ mu y qa12 ?_
          by_cases he : u = v
          · rw [he]; exact h'
          · exact o.tr _ _ _ (pw_gd hA (u - a) (v - a) qa5 qa5) h') (b + 1) a m (Nat.le_refl _) (Nat.le_refl _) qa5 qa5
        generalize bsr (b + 1) (fun h => !lt ((P ++ (A ++ ([y] ++ Q))).getD m 0) ((P ++ (A ++ ([y] ++ Q))).getD h 0)) a m = c at c1 c2 c3 c4
        have e : A.take (c - a) ++ A.drop (c - a) = A := List.take_append_drop _ _
        refine ⟨A.take (c - a) ++ y :: A.drop (c - a), ?_, insR o y _ _ (by rw [e]; exact hA) (fun x hxA => ?_) (fun x hxA => ?_), ?_⟩
        · have := shiftL_is (m - c) (P ++ A.take (c - a)) (A.drop (c - a)) Q y m (by rw [List.length_drop]; omega) (by rw [List.length_append, List.length_take]; omega)
          have e' : P ++ (A ++ ([y] ++ Q)) = P ++ A.take (c - a) ++ (A.drop (c - a) ++ y :: Q) := by
            rw [List.append_assoc, ← List.append_assoc (A.take (c - a)), e]
            rfl
          rw [e', this]
          simp
        · obtain ⟨i, hi, rfl⟩ := mem_take_gd A _ qa5 x hxA
          have h := c3 (a + i) qa5 qa5
          simp only [gy, Bool.not_eq_true'] at h
          rw [gA _ qa5 qa5, show a + i - a = i by omega] at h
          exact cmpn _ (gd_mem A i qa5) y qa12 h
        · obtain ⟨i, hi, hi2, rfl⟩ := mem_drop_gd A _ qa5 x hxA
          have h := c4 (a + i) qa5 qa5
          simp only [gy, Bool.not_eq_false'] at h
          rw [gA _ qa5 qa5, show a + i - a = i by omega] at h
          exact (hx _ (gd_mem A i qa5) y qa12).1.1 h
        · refine List.perm_middle.trans ?_
          rw [e]
          exact (List.perm_append_singleton y A).symm
      · rw [if_neg hB1]
        have hmid1 : a < (a + b) / 2 := by omega
        have hmid2 : (a + b) / 2 < b := by omega
        have hmid3 : 2 * ((a + b) / 2) ≤ a + b := by omega
        have hmid4 : a + b ≤ 2 * ((a + b) / 2) + 1 := by omega
        generalize (a + b) / 2 = mid at hmid1 hmid2 hmid3 hmid4
        obtain ⟨s0, hs0⟩ : ∃ s0, s0 = if m > mid then mid + m - b else a := ⟨_, rfl⟩
        obtain ⟨r0, hr0⟩ : ∃ r0, r0 = if m > mid then mid else m := ⟨_, rfl⟩
        rw [← hs0, ← hr0]
        have hcase : (m > mid ∧ s0 = mid + m - b ∧ r0 = mid) ∨ (m ≤ mid ∧ s0 = a ∧ r0 = m) := by
          by_cases h : m > mid
          · rw [if_pos h] at hs0 hr0; exact .inl ⟨h, hs0, hr0⟩
          · rw [if_neg h] at hs0 hr0; exact .inr ⟨qa5, hs0, hr0⟩
        clear hs0 hr0
        have hrange : ∀ c, s0 ≤ c → c < r0 → a ≤ c ∧ c < m ∧ m ≤ mid + m - 1 - c ∧ mid + m - 1 - c < b := fun c l1 l2 => by
          rcases hcase with ⟨h, h3, h4⟩ | ⟨h, h3, h4⟩ <;> omega
        have hp : ∀ c, s0 ≤ c → c < r0 → ((!lt ((P ++ (A ++ (B ++ Q))).getD (mid + m - 1 - c) 0) ((P ++ (A ++ (B ++ Q))).getD c 0)) = true ↔ r (A.getD (c - a) 0) (B.getD (mid + m - 1 - c - m) 0)) := fun c l1 l2 => by
          obtain ⟨q1, q2, q3, q4⟩ := hrange c l1 l2
          rw [gA c q1 q2, gB _ q3 q4, Bool.not_eq_true']
          exact ⟨cmpn _ (gd_mem A _ qa5) _ (gd_mem B _ qa5), cmpr _ (gd_mem A _ qa5) _ (gd_mem B _ qa5)⟩
        obtain ⟨c1, c2, c3, c4⟩ := bsr_is (fun c => !lt ((P ++ (A ++ (B ++ Q))).getD (mid + m - 1 - c) 0) ((P ++ (A ++ (B ++ Q))).getD c 0)) s0 r0 (fun u v hu huv hv h => by
          have h' := (hp v qa5 hv).1 h
          refine (hp u hu qa5).2 ?_
          obtain ⟨q1, q2, q3, q4⟩ := hrange u hu qa5
          obtain ⟨q5, q6, q7, q8⟩ := hrange v qa5 hv
          by_cases he : u = v
          · rw [he]; exact h'
          · exact o.tr _ _ _ (pw_gd hA (u - a) (v - a) qa5 qa5) (o.tr _ _ _ h' (pw_gd hB (mid + m - 1 - v - m) (mid + m - 1 - u - m) qa5 qa5))) (b + 1) s0 r0 (Nat.le_refl _) (Nat.le_refl _) (by rcases hcase with ⟨h, h3, h4⟩ | ⟨h, h3, h4⟩ <;> omega) (by rcases hcase with ⟨h, h3, h4⟩ | ⟨h, h3, h4⟩ <;> omega)
        generalize bsr (b + 1) (fun c => !lt ((P ++ (A ++ (B ++ Q))).getD (mid + m - 1 - c) 0) ((P ++ (A ++ (B ++ Q))).getD c 0)) s0 r0 = st at c1 c2 c3 c4
        have hst : a ≤ st ∧ st ≤ m ∧ m ≤ mid + m - st ∧ mid + m - st ≤ b ∧ st ≤ mid := by
          rcases hcase with ⟨h, h3, h4⟩ | ⟨h, h3, h4⟩ <;> omega
        obtain ⟨en, hen⟩ : ∃ en, en = mid + m - st := ⟨_, rfl⟩
        rw [← hen] at hst ⊢
        obtain ⟨t1, t2, t3, t4, t5⟩ := hst
        obtain ⟨A1, hA1e⟩ : ∃ A1, A1 = A.take (st - a) := ⟨_, rfl⟩
        obtain ⟨A2, hA2e⟩ : ∃ A2, A2 = A.drop (st - a) := ⟨_, rfl⟩
        obtain ⟨B1, hB1e⟩ : ∃ B1, B1 = B.take (en - m) := ⟨_, rfl⟩
        obtain ⟨B2, hB2e⟩ : ∃ B2, B2 = B.drop (en - m) := ⟨_, rfl⟩
        have eA : A = A1 ++ A2 := by rw [hA1e, hA2e, List.take_append_drop]
        have eB : B = B1 ++ B2 := by rw [hB1e, hB2e, List.take_append_drop]
        have lA1 : A1.length = st - a := by rw [hA1e, List.length_take]; omega
        have lA2 : A2.length = m - st := by rw [hA2e, List.length_drop]; omega
        have lB1 : B1.length = en - m := by rw [hB1e, List.length_take]; omega
        have lB2 : B2.length = b - en := by rw [hB2e, List.length_drop]; omega
        -- what the search tells
        have x12 : ∀ x ∈ A1, ∀ y ∈ B2, r x y := fun x hxA y hyB => by
          rw [hA1e] at hxA
          rw [hB2e] at hyB
          obtain ⟨i, hi, rfl⟩ := mem_take_gd A _ qa5 x hxA
          obtain ⟨j, hj, hj2, rfl⟩ := mem_drop_gd B _ qa5 y hyB
          have hst1 : s0 ≤ st - 1 ∧ st - 1 < st ∧ st - 1 < r0 := by rcases hcase with ⟨h, h3, h4⟩ | ⟨h, h3, h4⟩ <;> omega
          have h := (hp (st - 1) hst1.1 hst1.2.2).1 (c3 (st - 1) hst1.1 hst1.2.1)
          have e1 : r (A.getD i 0) (B.getD (mid + m - 1 - (st - 1) - m) 0) := by
            by_cases he : i = st - 1 - a
            · rw [he]; exact h
            · exact o.tr _ _ _ (pw_gd hA i (st - 1 - a) qa5 qa5) h
          by_cases he : j = mid + m - 1 - (st - 1) - m
          · rw [he]; exact e1
          · exact o.tr _ _ _ e1 (pw_gd hB (mid + m - 1 - (st - 1) - m) j qa5 qa5)
        have x21 : ∀ y ∈ B1, ∀ x ∈ A2, r y x := fun y hyB x hxA => by
          rw [hA2e] at hxA
          rw [hB1e] at hyB
          obtain ⟨j, hj, rfl⟩ := mem_take_gd B _ qa5 y hyB
          obtain ⟨i, hi, hi2, rfl⟩ := mem_drop_gd A _ qa5 x hxA
          have hst1 : s0 ≤ st ∧ st < r0 := by rcases hcase with ⟨h, h3, h4⟩ | ⟨h, h3, h4⟩ <;> omega
          have h := c4 st (Nat.le_refl _) hst1.2
          obtain ⟨q1, q2, q3, q4⟩ := hrange st hst1.1 hst1.2
          simp only [Bool.not_eq_false'] at h
          rw [gA st q1 q2, gB _ q3 q4] at h
          have h' := (hx _ (gd_mem A (st - a) qa5) _ (gd_mem B (mid + m - 1 - st - m) qa5)).1.1 h
          have e1 : r (B.getD j 0) (A.getD (st - a) 0) := by
            by_cases he : j = mid + m - 1 - st - m
            · rw [he]; exact h'
            · exact o.tr _ _ _ (pw_gd hB j (mid + m - 1 - st - m) qa5 qa5) h'
          by_cases he : i = st - a
          · rw [he]; exact e1
          · exact o.tr _ _ _ e1 (pw_gd hA (st - a) i qa5 qa5)
        clear c3 c4 hp hrange gA gB hA1e hA2e hB1e hB2e
        subst eA
        subst eB
        obtain ⟨pA1, pA2, pA⟩ := pw_split hA
        obtain ⟨pB1, pB2, pB⟩ := pw_split hB
        have d1 : (if st < m ∧ m < en then rot (b + b) (m - st) (en - m) m (P ++ (A1 ++ A2 ++ (B1 ++ B2 ++ Q))) else P ++ (A1 ++ A2 ++ (B1 ++ B2 ++ Q))) = P ++ (A1 ++ (B1 ++ (A2 ++ (B2 ++ Q)))) := by
          by_cases h : st < m ∧ m < en
          · rw [if_pos h]
            have := rot_is (b + b) (P ++ A1) A2 B1 (B2 ++ Q) (m - st) (en - m) m lA2 lB1 qa5 qa5 qa28 qa5
            simp only [List.append_assoc] at this ⊢
            exact this
          · rw [if_neg h]
            rcases (qa5 : A2.length = 0 ∨ B1.length = 0) with h' | h'
            · rw [List.eq_nil_of_length_eq_zero h']; simp
            · rw [List.eq_nil_of_length_eq_zero h']; simp
        rw [d1]
        obtain ⟨S1, e1, s1, p1⟩ : ∃ S1, (if a < st ∧ st < mid then symM lt k a st mid (P ++ (A1 ++ (B1 ++ (A2 ++ (B2 ++ Q))))) else P ++ (A1 ++ (B1 ++ (A2 ++ (B2 ++ Q))))) = P ++ (S1 ++ (A2 ++ (B2 ++ Q))) ∧ S1.Pairwise r ∧ S1.Perm (A1 ++ B1) := by
          by_cases h : a < st ∧ st < mid
          · rw [if_pos h]
            exact ih P A1 B1 (A2 ++ (B2 ++ Q)) a st mid qa5 qa5 ha qa5 qa5 qa5 pA1 pB1 (fun x hxA y hyB => hx x (List.mem_append_left _ hxA) y (List.mem_append_left _ hyB))
          · rw [if_neg h]
            refine ⟨A1 ++ B1, qa12, ?_, List.Perm.refl _⟩
            rcases (qa5 : A1.length = 0 ∨ B1.length = 0) with h' | h'
            · rw [List.eq_nil_of_length_eq_zero h']; exact pB1
            · rw [List.eq_nil_of_length_eq_zero h', List.append_nil]; exact pA1
        rw [e1]
        have lS1 : S1.length = mid - a := by rw [p1.length_eq, List.length_append]; omega
        obtain ⟨S2, e2, s2, p2⟩ : ∃ S2, (if mid < en ∧ en < b then symM lt k mid en b (P ++ (S1 ++ (A2 ++ (B2 ++ Q)))) else P ++ (S1 ++ (A2 ++ (B2 ++ Q)))) = P ++ (S1 ++ (S2 ++ Q)) ∧ S2.Pairwise r ∧ S2.Perm (A2 ++ B2) := by
          by_cases h : mid < en ∧ en < b
          · rw [if_pos h]
            obtain ⟨S2, e, s, p⟩ := ih (P ++ S1) A2 B2 Q mid en b qa5 qa5 qa28 qa5 qa5 qa5 pA2 pB2 (fun x hxA y hyB => hx x (List.mem_append_right _ hxA) y (List.mem_append_right _ hyB))
            simp only [List.append_assoc] at e
            exact ⟨S2, e, s, p⟩
          · rw [if_neg h]
            refine ⟨A2 ++ B2, qa12, ?_, List.Perm.refl _⟩
            rcases (qa5 : A2.length = 0 ∨ B2.length = 0) with h' | h'
            · rw [List.eq_nil_of_length_eq_zero h']; exact pB2
            · rw [List.eq_nil_of_length_eq_zero h', List.append_nil]; exact pA2
        rw [e2]
        refine ⟨S1 ++ S2, qa12, List.pairwise_append.2 ⟨s1, s2, fun x hx1 y hy2 => ?_⟩, ?_⟩
        · rcases List.mem_append.1 (p1.mem_iff.1 hx1) with h | h <;> rcases List.mem_append.1 (p2.mem_iff.1 hy2) with h' | h'
          · exact pA x h y h'
          · exact x12 x h y h'
          · exact x21 x h y h'
          · exact pB x h y h'
        · refine (p1.append p2).trans ?_
          simp only [List.append_assoc]
          refine List.Perm.append_left A1 ?_
          rw [← List.append_assoc, ← List.append_assoc]
          exact List.Perm.append_right B2 List.perm_append_comm
end Go.Proofs.Ytfpkooafbeejmaa.Pure2
namespace Go.Proofs.Ytfpkooafbeejmaa.Pure2
open Go.RowKit Go.Proofs.Ytfpkooafbeejmaa.Q Go.Proofs.YtfpkooafbeejmaaW.PrintWords Go.Proofs.YtfpkooafbeejmaaW.PrintLast
set_option linter.unusedVariables false
set_option linter.unusedSimpArgs false
/-- What a comparison may be asked: of two, the one that stood behind first. -/
def Fair (r : Int → Int → Prop) (lt : Int → Int → Bool) (L : List Int) : Prop := L.Pairwise (fun x y => (lt y x = true ↔ r y x) ∧ x ≠ y)
/-- One element of a row let down to its place. -/
def ins1 (lt : Int → Int → Bool) (a : Nat) : Nat → List Int → List Int
  | 0, d => d
  | j + 1, d => if j + 1 > a ∧ lt (d.getD (j + 1) 0) (d.getD j 0) = true then ins1 lt a j (sw d (j + 1) j) else d
theorem ins1_is {r : Int → Int → Prop} (o : Ord r) (lt : Int → Int → Bool) (y : Int) : ∀ (n : Nat) (P A B Q : List Int) (a j : Nat), A.length = n → a = P.length → j = a + n → (A ++ B).Pairwise r → (∀ x ∈ A, (lt y x = true ↔ r y x) ∧ x ≠ y) → (∀ z ∈ B, r y z) →
    ∃ S, ins1 lt a j (P ++ (A ++ y :: (B ++ Q))) = P ++ (S ++ Q) ∧ S.Pairwise r ∧ S.Perm (A ++ y :: B) := by
  intro n
  induction n with
  | zero =>
    intro P A B Q a j hA ha hj hs hx hB
    obtain rfl := List.eq_nil_of_length_eq_zero hA
    refine ⟨y :: B, ?_, List.pairwise_cons.2 ⟨hB, hs⟩, List.Perm.refl _⟩
    cases j with
    | zero => simp [ins1]
    | succ j =>
      simp only [ins1]
      rw [if_neg qa5]
      simp
  | succ n ih =>
    intro P A B Q a j hA ha hj hs hx hB
    obtain ⟨A', x, rfl⟩ : ∃ A' x, A = A' ++ [x] := by
      rcases List.eq_nil_or_concat A with h | ⟨L, b, h⟩
      · subst h; simp at hA
      · exact ⟨L, b, by rw [h]; simp⟩
    have hA' : A'.length = n := by simp at hA; exact hA
    obtain ⟨j, rfl⟩ : ∃ i, j = i + 1 := ⟨j - 1, qa5⟩
    have e : P ++ (A' ++ [x] ++ y :: (B ++ Q)) = (P ++ A') ++ x :: ([] ++ y :: (B ++ Q)) := by simp
    have g1 : (P ++ (A' ++ [x] ++ y :: (B ++ Q))).getD j 0 = x := by rw [e]; exact get_mid _ _ _ _ qa28
    have g2 : (P ++ (A' ++ [x] ++ y :: (B ++ Q))).getD (j + 1) 0 = y := by
      rw [show P ++ (A' ++ [x] ++ y :: (B ++ Q)) = (P ++ (A' ++ [x])) ++ y :: (B ++ Q) by simp]
      exact get_mid _ _ _ _ qa44
    simp only [ins1]
    rw [g1, g2]
    have hxy := hx x qa12
    by_cases hl : lt y x = true
    · rw [if_pos ⟨qa5, hl⟩, e, sw_comm _ _ _ qa5, sw_mid (P ++ A') [] (B ++ Q) x y j (j + 1) qa28 (by rw [List.length_append]; simp; omega)]
      have hyx := hxy.1.1 hl
      obtain ⟨S, e1, s1, p1⟩ := ih P A' (x :: B) Q a j hA' ha qa5 (by simpa using hs) (fun z hz => hx z (by simp [hz])) (fun z hz => by
        rcases List.mem_cons.1 hz with rfl | hz
        · exact hyx
        · exact hB z hz)
      refine ⟨S, ?_, s1, p1.trans ?_⟩
      · rw [← e1]; simp
      · rw [List.append_assoc]
        exact List.Perm.append_left A' (List.Perm.swap x y B)
    · rw [if_neg (fun h => hl h.2)]
      have hrxy : r x y := by
        rcases o.tot x y hxy.2 with h | h
        · exact h
        · exact absurd (hxy.1.2 h) hl
      refine ⟨A' ++ [x] ++ y :: B, qa12, ?_, List.Perm.refl _⟩
      refine insR o y _ _ hs (fun z hz => ?_) hB
      rcases List.mem_append.1 hz with h | h
      · obtain ⟨h1, _, _⟩ := pw_split hs
        obtain ⟨_, _, h3⟩ := pw_split h1
        exact o.tr _ _ _ (h3 z h x qa12) hrxy
      · rw [List.mem_singleton.1 h]; exact hrxy
/-- A block put in order by insertion: 'c' more elements, from i on. -/
def insS (lt : Int → Int → Bool) (a : Nat) : Nat → Nat → List Int → List Int
  | 0, _, d => d
  | c + 1, i, d => insS lt a c (i + 1) (ins1 lt a i d)
theorem insS_is {r : Int → Int → Prop} (o : Ord r) (lt : Int → Int → Bool) : ∀ (L2 : List Int) (L1 P A Q : List Int) (a i : Nat), a = P.length → i = a + A.length → Fair r lt (L1 ++ L2) → A.Perm L1 → A.Pairwise r → ∃ S, insS lt a L2.length i (P ++ (A ++ (L2 ++ Q))) = P ++ (S ++ Q) ∧ S.Pairwise r ∧ S.Perm (L1 ++ L2) := by
  intro L2
  induction L2 with
  | nil =>
    intro L1 P A Q a i ha hi hf hp hs
    exact ⟨A, by simp [insS], hs, by simpa using hp⟩
  | cons y L2 ih =>
    intro L1 P A Q a i ha hi hf hp hs
    have hy : ∀ x ∈ A, (lt y x = true ↔ r y x) ∧ x ≠ y := fun x hx => (List.pairwise_append.1 hf).2.2 x (hp.mem_iff.1 hx) y qa12
    obtain ⟨S, e, s, p⟩ := ins1_is o lt y A.length P A [] (L2 ++ Q) a i rfl ha hi (by simpa using hs) hy (fun z hz => by simp at hz)
    simp only [List.length_cons, insS]
    have e0 : P ++ (A ++ (y :: L2 ++ Q)) = P ++ (A ++ y :: ([] ++ (L2 ++ Q))) := by simp
    rw [e0, e]
    have hpS : S.Perm (L1 ++ [y]) := p.trans (List.Perm.append_right [y] hp)
    obtain ⟨S', e', s', p'⟩ := ih (L1 ++ [y]) P S Q a (i + 1) ha (by rw [hpS.length_eq, hi, hp.length_eq]; simp; omega) (by simpa using hf) hpS s
    exact ⟨S', e', s', by simpa using p'⟩
/-- A row in ordered runs of one length; the last may be shorter. -/
inductive Runs (r : Int → Int → Prop) (bs : Nat) : List Int → List Int → Prop
  | last (L d : List Int) : d.length ≤ bs → d.Pairwise r → d.Perm L → Runs r bs L d
  | more (X X' L d : List Int) : X'.length = bs → X'.Pairwise r → X'.Perm X → Runs r bs L d → Runs r bs (X ++ L) (X' ++ d)
theorem Runs.perm {r : Int → Int → Prop} {bs : Nat} {L d : List Int} (h : Runs r bs L d) : d.Perm L := by
  induction h with
  | last L d _ _ p => exact p
  | more X X' L d _ _ p _ ih => exact p.append ih
/-- The blocks of a sort: each put in order by insertion. -/
def blocks (lt : Int → Int → Bool) (bs n : Nat) : Nat → Nat → List Int → List Int
  | 0, _, d => d
  | k + 1, a, d => if a + bs ≤ n then blocks lt bs n k (a + bs) (insS lt a (bs - 1) (a + 1) d) else insS lt a (n - a - 1) (a + 1) d
theorem block_is {r : Int → Int → Prop} (o : Ord r) (lt : Int → Int → Bool) (L P Q : List Int) (a : Nat) (ha : a = P.length) (hf : Fair r lt L) : ∃ S, insS lt a (L.length - 1) (a + 1) (P ++ (L ++ Q)) = P ++ (S ++ Q) ∧ S.Pairwise r ∧ S.Perm L := by
  cases L with
  | nil => exact ⟨[], by simp [insS], List.Pairwise.nil, List.Perm.refl _⟩
  | cons x L =>
    obtain ⟨S, e, s, p⟩ := insS_is o lt L [x] P [x] Q a (a + 1) ha qa12 (by simpa using hf) (List.Perm.refl _) (List.pairwise_singleton r x)
    refine ⟨S, ?_, s, by simpa using p⟩
    simpa using e
theorem blocks_is {r : Int → Int → Prop} (o : Ord r) (lt : Int → Int → Bool) (bs : Nat) (hbs : 1 ≤ bs) : ∀ (k : Nat) (L P : List Int) (a n : Nat), a = P.length → n = a + L.length → L.length < k → Fair r lt L → ∃ d, blocks lt bs n k a (P ++ L) = P ++ d ∧ Runs r bs L d := by
  intro k
  induction k with
  | zero => intro L P a n _ _ h; omega
  | succ k ih =>
    intro L P a n ha hn hk hf
    simp only [blocks]
    by_cases h : a + bs ≤ n
    · rw [if_pos h]
      obtain ⟨X, L', rfl, hX⟩ : ∃ X L', L = X ++ L' ∧ X.length = bs := ⟨L.take bs, L.drop bs, (List.take_append_drop bs L).symm, qa52⟩
      have hf2 := List.pairwise_append.1 hf
      obtain ⟨S, e, s, p⟩ := block_is o lt X P L' a ha hf2.1
      rw [hX] at e
      rw [e]
      have hl := p.length_eq
      rw [List.length_append] at hn hk
      obtain ⟨d, e2, h2⟩ := ih L' (P ++ S) (a + bs) n qa28 qa5 qa5 hf2.2.1
      rw [List.append_assoc] at e2
      exact ⟨S ++ d, by rw [e2]; simp, .more X S L' d qa5 s p h2⟩
    · rw [if_neg h]
      obtain ⟨S, e, s, p⟩ := block_is o lt L P [] a ha hf
      rw [show n - a - 1 = L.length - 1 by omega]
      simp only [List.append_nil] at e
      exact ⟨S, e, .last L S (by rw [p.length_eq]; omega) s p⟩
/-- One pass of merges. -/
def pass (lt : Int → Int → Bool) (bs n : Nat) : Nat → Nat → List Int → List Int
  | 0, _, d => d
  | k + 1, a, d => if a + 2 * bs ≤ n then pass lt bs n k (a + 2 * bs) (symM lt (n + 1) a (a + bs) (a + 2 * bs) d) else if a + bs < n then symM lt (n + 1) a (a + bs) n d else d
theorem pass_is {r : Int → Int → Prop} (o : Ord r) (lt : Int → Int → Bool) (bs : Nat) (hbs : 1 ≤ bs) : ∀ (k : Nat) (L D P : List Int) (a n : Nat), a = P.length → n = a + D.length → D.length < k → Runs r bs L D → Fair r lt L → ∃ d, pass lt bs n k a (P ++ D) = P ++ d ∧ Runs r (2 * bs) L d := by
  intro k
  induction k with
  | zero => intro L D P a n _ _ h; omega
  | succ k ih =>
    intro L D P a n ha hn hk hR hf
    simp only [pass]
    cases hR with
    | last _ _ h1 h2 h3 =>
      rw [if_neg qa5, if_neg qa5]
      exact ⟨D, rfl, .last L D qa5 h2 h3⟩
    | more X X' L1 D1 h1 h2 h3 hR1 =>
      rw [List.length_append] at hn hk
      have hf2 := List.pairwise_append.1 hf
      have cross : ∀ (Y : List Int) (E : List Int), E.Perm Y → (∀ y ∈ Y, y ∈ L1) → ∀ x ∈ X', ∀ y ∈ E, (lt y x = true ↔ r y x) ∧ x ≠ y := fun Y E hE hY x hx y hy => hf2.2.2 x (h3.mem_iff.1 hx) y (hY y (hE.mem_iff.1 hy))
      cases hR1 with
      | last _ _ g1 g2 g3 =>
        by_cases hz : D1.length = 0
        · obtain rfl := List.eq_nil_of_length_eq_zero hz
          rw [List.length_nil] at hn
          rw [if_neg qa5, if_neg qa5]
          exact ⟨X' ++ [], rfl, .last _ _ (by rw [List.append_nil]; omega) (by rw [List.append_nil]; exact h2) (h3.append g3)⟩
        · obtain ⟨S, e, s, p⟩ := symM_is o lt (n + 1) P X' D1 [] a (a + bs) n qa5 qa5 ha qa5 qa5 qa5 h2 g2 (cross L1 D1 g3 (fun y h => h))
          simp only [List.append_nil] at e
          have fin : Runs r (2 * bs) (X ++ L1) S := .last _ _ (by rw [p.length_eq, List.length_append]; omega) s (p.trans (h3.append g3))
          by_cases hb : a + 2 * bs ≤ n
          · have hn2 : n = a + 2 * bs := by omega
            rw [if_pos hb, ← hn2, e]
            refine ⟨S, ?_, fin⟩
            cases k with
            | zero => rfl
            | succ k => simp only [pass]; rw [if_neg qa5, if_neg qa5]
          · rw [if_neg hb, if_pos qa5, e]
            exact ⟨S, rfl, fin⟩
      | more Y Y' L2 D2 g1 g2 g3 hR2 =>
        rw [List.length_append] at hn hk
        obtain ⟨S, e, s, p⟩ := symM_is o lt (n + 1) P X' Y' D2 a (a + bs) (a + 2 * bs) qa5 qa5 ha qa5 qa5 qa5 h2 g2 (cross Y Y' g3 (fun y h => List.mem_append_left _ h))
        rw [if_pos qa5, e]
        have hl : S.length = 2 * bs := by rw [p.length_eq, List.length_append]; omega
        obtain ⟨d, e2, h2'⟩ := ih L2 D2 (P ++ S) (a + 2 * bs) n qa28 qa5 qa5 hR2 (List.pairwise_append.1 hf2.2.1).2.1
        rw [List.append_assoc] at e2
        refine ⟨S ++ d, by rw [e2]; simp, ?_⟩
        rw [← List.append_assoc X Y L2]
        exact .more (X ++ Y) S L2 d hl s (p.trans (h3.append g3)) h2'
/-- All passes. -/
def passes (lt : Int → Int → Bool) (n : Nat) : Nat → Nat → List Int → List Int
  | 0, _, d => d
  | k + 1, bs, d => if bs < n then passes lt n k (bs * 2) (pass lt bs n (n + 1) 0 d) else d
theorem passes_is {r : Int → Int → Prop} (o : Ord r) (lt : Int → Int → Bool) (L : List Int) (hf : Fair r lt L) : ∀ (k bs : Nat) (D : List Int), 1 ≤ bs → L.length < bs + k → Runs r bs L D → (passes lt L.length k bs D).Pairwise r ∧ (passes lt L.length k bs D).Perm L := by
  intro k
  have done : ∀ (bs : Nat) (D : List Int), L.length ≤ bs → 1 ≤ bs → Runs r bs L D → D.Pairwise r ∧ D.Perm L := fun bs D hl hb hR => by
    refine ⟨?_, hR.perm⟩
    cases hR with
    | last _ _ _ h _ => exact h
    | more X X' L1 D1 h1 h2 h3 hR1 =>
      have h4 := h3.length_eq
      have h5 := hR1.perm.length_eq
      rw [List.length_append] at hl
      rw [List.eq_nil_of_length_eq_zero (show D1.length = 0 by omega), List.append_nil]
      exact h2
  induction k with
  | zero =>
    intro bs D hb hl hR
    exact done bs D qa5 hb hR
  | succ k ih =>
    intro bs D hb hl hR
    simp only [passes]
    by_cases h : bs < L.length
    · rw [if_pos h]
      obtain ⟨d, e, hd⟩ := pass_is o lt bs hb (L.length + 1) L D [] 0 L.length rfl (by rw [hR.perm.length_eq]; omega) (by rw [hR.perm.length_eq]; omega) hR hf
      simp only [List.nil_append] at e
      rw [e]
      exact ih (bs * 2) d qa5 qa5 (by rw [Nat.mul_comm]; exact hd)
    · rw [if_neg h]
      exact done bs D qa5 hb hR
/-- The stable sort as the library does it. -/
def stab (lt : Int → Int → Bool) (L : List Int) : List Int := passes lt L.length (L.length + 1) 20 (blocks lt 20 L.length (L.length + 1) 0 L)
theorem stab_is {r : Int → Int → Prop} (o : Ord r) (lt : Int → Int → Bool) (L : List Int) (hf : Fair r lt L) : (stab lt L).Pairwise r ∧ (stab lt L).Perm L := by
  obtain ⟨d, e, hd⟩ := blocks_is o lt 20 qa20 (L.length + 1) L [] 0 L.length rfl qa5 qa5 hf
  simp only [List.nil_append] at e
  unfold stab
  rw [e]
  exact passes_is o lt L hf (L.length + 1) 20 d qa20 qa5 hd
/-- Two ordered rows of the same elements are one. -/
theorem ord_one {r : Int → Int → Prop} (o : Ord r) : ∀ (A B : List Int), A.Pairwise r → B.Pairwise r → A.Perm B → A = B := by
  intro A
  induction A with
  | nil => intro B _ _ p; exact (List.nil_perm.1 p).symm
  | cons x A ih =>
    intro B hA hB p
    cases B with
    | nil => exact absurd p.length_eq qa12
    | cons y B =>
      rw [List.pairwise_cons] at hA hB
      have e : x = y := by
        refine Classical.byContradiction fun hne => ?_
        have h1 : x ∈ B := by
          rcases List.mem_cons.1 (p.mem_iff.1 (show x ∈ x :: A by simp)) with h | h
          · exact absurd h hne
          · exact h
        have h2 : y ∈ A := by
          rcases List.mem_cons.1 (p.mem_iff.2 (show y ∈ y :: B by simp)) with h | h
          · exact absurd h.symm hne
          · exact h
        exact o.irr x (o.tr _ _ _ (hA.1 y h2) (hB.1 x h1))
      subst e
      rw [ih B hA.2 hB.2 ((List.perm_cons x).1 p)]
/-- The witness's order: by the hour, who wrote first, then by place. -/
def wr (T : Int → Int) (W : Int → Bool) (a b : Int) : Prop := T a < T b ∨ T a = T b ∧ (W a = true ∧ W b = false ∨ W a = W b ∧ a < b)
theorem wr_ord (T : Int → Int) (W : Int → Bool) : Ord (wr T W) where
  irr x h := by
    rcases h with h | ⟨_, h | h⟩
    · omega
    · rw [h.1] at h; exact absurd h.2 qa20
    · omega
  tr x y z h h' := by
    rcases h with h | ⟨h1, h2⟩
    · rcases h' with h' | ⟨h1', _⟩
      · exact .inl qa5
      · exact .inl qa5
    · rcases h' with h' | ⟨h1', h2'⟩
      · exact .inl qa5
      · refine .inr ⟨qa5, ?_⟩
        rcases h2 with ⟨a, b⟩ | ⟨a, b⟩
        · rcases h2' with ⟨c, _⟩ | ⟨c, _⟩
          · rw [b] at c; cases c
          · exact .inl ⟨a, by rw [← c, b]⟩
        · rcases h2' with ⟨c, d⟩ | ⟨c, d⟩
          · exact .inl ⟨by rw [a, c], d⟩
          · exact .inr ⟨by rw [a, c], qa5⟩
  tot x y hne := by
    by_cases h : T x < T y
    · exact .inl (.inl h)
    by_cases h' : T y < T x
    · exact .inr (.inl h')
    have e : T x = T y := by omega
    cases hx : W x <;> cases hy : W y
    · rcases (qa5 : x < y ∨ y < x) with h1 | h1
      · exact .inl (.inr ⟨e, .inr ⟨by rw [hx, hy], h1⟩⟩)
      · exact .inr (.inr ⟨e.symm, .inr ⟨by rw [hx, hy], h1⟩⟩)
    · exact .inr (.inr ⟨e.symm, .inl ⟨hy, hx⟩⟩)
    · exact .inl (.inr ⟨e, .inl ⟨hx, hy⟩⟩)
    · rcases (qa5 : x < y ∨ y < x) with h1 | h1
      · exact .inl (.inr ⟨e, .inr ⟨by rw [hx, hy], h1⟩⟩)
      · exact .inr (.inr ⟨e.symm, .inr ⟨by rw [hx, hy], h1⟩⟩)
/-- Whether the program's comparison is negative. -/
def wlt (T : Int → Int) (W : Int → Bool) (a b : Int) : Bool := if T a ≠ T b then decide (T a < T b) else if W a = W b then false else W a
theorem wfair (T : Int → Int) (W : Int → Bool) (L : List Int) (h : L.Pairwise (· < ·)) : Fair (wr T W) (wlt T W) L := by
  unfold Fair
  refine h.imp fun {x y} hxy => ⟨?_, qa5⟩
  unfold wlt wr
  by_cases h1 : T y = T x
  · rw [if_neg (by simp [h1])]
    by_cases h2 : W y = W x
    · rw [if_pos h2]
      refine ⟨fun h => qa64, fun h => ?_⟩
      rcases h with h | ⟨_, ⟨a, b⟩ | ⟨_, b⟩⟩
      · omega
      · rw [a, b] at h2; cases h2
      · omega
    · rw [if_neg h2]
      refine ⟨fun h => .inr ⟨h1, .inl ⟨h, ?_⟩⟩, fun h => ?_⟩
      · cases hx : W x
        · rfl
        · rw [h, hx] at h2; exact absurd rfl h2
      · rcases h with h | ⟨_, ⟨a, _⟩ | ⟨a, _⟩⟩
        · omega
        · exact a
        · exact absurd a h2
  · rw [if_pos h1, decide_eq_true_eq]
    exact ⟨fun h => .inl h, fun h => by
      rcases h with h | ⟨h, _⟩
      · exact h
      · exact absurd h h1⟩
/-- From the end back, as long as the test holds. -/
def back (p : Nat → Bool) : Nat → Nat
  | 0 => 0
  | k + 1 => if p k = true then back p k else k + 1
theorem back_is (p : Nat → Bool) : ∀ n, back p n ≤ n ∧ (∀ i, back p n ≤ i → i < n → p i = true) ∧ (1 ≤ back p n → p (back p n - 1) = false)
  | 0 => ⟨Nat.le_refl _, fun i _ h => by omega, fun h => absurd h (by simp [back])⟩
  | n + 1 => by
    obtain ⟨h1, h2, h3⟩ := back_is p n
    simp only [back]
    by_cases h : p n = true
    · rw [if_pos h]
      refine ⟨qa5, fun i hi hi2 => ?_, h3⟩
      by_cases he : i = n
      · rw [he]; exact h
      · exact h2 i hi qa5
    · rw [if_neg h]
      exact ⟨Nat.le_refl _, fun i _ _ => by omega, fun _ => by rw [show n + 1 - 1 = n by omega]; simpa using h⟩
/-- The reference's insertion of one place. -/
theorem back_ins {r : Int → Int → Prop} (o : Ord r) (p : Nat → Bool) (x : Int) (out : List Int) (hp : ∀ i, i < out.length → (p i = true ↔ r x (out.getD i 0))) (hs : out.Pairwise r) (hne : ∀ y ∈ out, x ≠ y) :
    (out.take (back p out.length) ++ x :: out.drop (back p out.length)).Pairwise r ∧ (out.take (back p out.length) ++ x :: out.drop (back p out.length)).Perm (out ++ [x]) := by
  obtain ⟨h1, h2, h3⟩ := back_is p out.length
  generalize back p out.length = c at h1 h2 h3
  have e : out.take c ++ out.drop c = out := List.take_append_drop _ _
  refine ⟨insR o x _ _ (by rw [e]; exact hs) (fun y hy => ?_) (fun y hy => ?_), ?_⟩
  · obtain ⟨i, hi, rfl⟩ := mem_take_gd out c h1 y hy
    have hl : r (out.getD (c - 1) 0) x := by
      have hf := h3 qa5
      rcases o.tot x (out.getD (c - 1) 0) (hne _ (gd_mem out _ qa5)) with h | h
      · rw [(hp (c - 1) qa5).2 h] at hf; cases hf
      · exact h
    by_cases he : i = c - 1
    · rw [he]; exact hl
    · exact o.tr _ _ _ (pw_gd hs i (c - 1) qa5 qa5) hl
  · obtain ⟨i, hi, hi2, rfl⟩ := mem_drop_gd out c h1 y hy
    exact (hp i hi2).1 (h2 i hi hi2)
  · refine List.perm_middle.trans ?_
    rw [e]
    exact (List.perm_append_singleton x out).symm
end Go.Proofs.Ytfpkooafbeejmaa.Pure2
namespace Go.Proofs.Ytfpkooafbeejmaa.Pure2
open Go.RowKit Go.Proofs.Ytfpkooafbeejmaa.Q Go.Proofs.YtfpkooafbeejmaaW.PrintWords Go.Proofs.YtfpkooafbeejmaaW.PrintLast
set_option linter.unusedVariables false
set_option linter.unusedSimpArgs false
/-! the sort on arrays, as the walk tells it, is the sort on rows -/
theorem gd_arr (d : Array Int) (i : Nat) : d[i]! = d.toList.getD i 0 := by
  rw [List.getD_eq_getElem?_getD, Array.getElem?_toList]
  by_cases h : i < d.size
  · rw [getElem!_pos d i h, Array.getElem?_eq_getElem h]; rfl
  · rw [getElem!_neg d i h, Array.getElem?_eq_none qa5]; rfl
theorem swp_list (d : Array Int) (i j : Nat) : (Go.Sort.swp d i j).toList = sw d.toList i j := by
  unfold Go.Sort.swp sw
  rw [Array.toList_setIfInBounds, Array.toList_setIfInBounds, gd_arr, gd_arr]
theorem swapRF_list : ∀ (n a b : Nat) (d : Array Int), (swapRF n a b d).toList = swapR n a b d.toList
  | 0, _, _, _ => rfl
  | n + 1, a, b, d => by rw [swapRF, swapRF_list n, swp_list]; rfl
theorem rotF_list : ∀ (k i j m : Nat) (d : Array Int), (rotF k i j m d).toList = rot k i j m d.toList
  | 0, _, _, _, _ => rfl
  | k + 1, i, j, m, d => by
    rw [rotF, rot]
    by_cases he : i = j
    · rw [if_pos he, if_pos he, swapRF_list]
    · rw [if_neg he, if_neg he]
      by_cases hg : i > j
      · rw [if_pos hg, if_pos hg, rotF_list k, swapRF_list]
      · rw [if_neg hg, if_neg hg, rotF_list k, swapRF_list]
theorem bsr_one : ∀ (k : Nat) (p : Nat → Bool) (i j : Nat), Q.bsr k p i j = bsr k p i j
  | 0, _, _, _ => rfl
  | k + 1, p, i, j => by rw [Q.bsr, bsr, bsr_one k, bsr_one k]
theorem shiftRF_list : ∀ (n a : Nat) (d : Array Int), (shiftRF n a d).toList = shiftR n a d.toList
  | 0, _, _ => rfl
  | n + 1, a, d => by rw [shiftRF, shiftRF_list n, swp_list]; rfl
theorem shiftLF_list : ∀ (n a : Nat) (d : Array Int), (shiftLF n a d).toList = shiftL n a d.toList
  | 0, _, _ => rfl
  | n + 1, a, d => by rw [shiftLF, shiftLF_list n, swp_list]; rfl
theorem symMF_list (lt : Int → Int → Bool) : ∀ (k a m b : Nat) (d : Array Int), (symMF lt k a m b d).toList = symM lt k a m b d.toList := by
  intro k
  induction k with
  | zero => intro a m b d; rfl
  | succ k ih =>
    intro a m b d
    rw [symMF, symM]
    by_cases h1 : m - a = 1
    · rw [if_pos h1, if_pos h1]
      dsimp only
      simp only [gd_arr, bsr_one, shiftRF_list]
    · rw [if_neg h1, if_neg h1]
      by_cases h2 : b - m = 1
      · rw [if_pos h2, if_pos h2]
        dsimp only
        simp only [gd_arr, bsr_one, shiftLF_list]
      · rw [if_neg h2, if_neg h2]
        dsimp only
        simp only [gd_arr, bsr_one]
        generalize bsr (b + 1) (fun c => !lt (d.toList.getD ((a + b) / 2 + m - 1 - c) 0) (d.toList.getD c 0)) (if m > (a + b) / 2 then (a + b) / 2 + m - b else a) (if m > (a + b) / 2 then (a + b) / 2 else m) = st
        have e1 : (if st < m ∧ m < (a + b) / 2 + m - st then rotF (b + b) (m - st) ((a + b) / 2 + m - st - m) m d else d).toList = (if st < m ∧ m < (a + b) / 2 + m - st then rot (b + b) (m - st) ((a + b) / 2 + m - st - m) m d.toList else d.toList) := by
          by_cases h : st < m ∧ m < (a + b) / 2 + m - st
          · rw [if_pos h, if_pos h, rotF_list]
          · rw [if_neg h, if_neg h]
        rw [← e1]
        generalize (if st < m ∧ m < (a + b) / 2 + m - st then rotF (b + b) (m - st) ((a + b) / 2 + m - st - m) m d else d) = d1
        have e2 : (if a < st ∧ st < (a + b) / 2 then symMF lt k a st ((a + b) / 2) d1 else d1).toList = (if a < st ∧ st < (a + b) / 2 then symM lt k a st ((a + b) / 2) d1.toList else d1.toList) := by
          by_cases h : a < st ∧ st < (a + b) / 2
          · rw [if_pos h, if_pos h, ih]
          · rw [if_neg h, if_neg h]
        rw [← e2]
        generalize (if a < st ∧ st < (a + b) / 2 then symMF lt k a st ((a + b) / 2) d1 else d1) = d2
        by_cases h : (a + b) / 2 < (a + b) / 2 + m - st ∧ (a + b) / 2 + m - st < b
        · rw [if_pos h, if_pos h, ih]
        · rw [if_neg h, if_neg h]
theorem inner_list (lt : Int → Int → Bool) (a : Nat) : ∀ (j : Nat) (d : Array Int), (Go.Sort.insInner lt a j d).toList = ins1 lt a j d.toList
  | 0, d => by rw [Go.Sort.insInner]; rfl
  | j + 1, d => by
    rw [Go.Sort.insInner, ins1]
    by_cases h : j + 1 > a ∧ lt (d.toList.getD (j + 1) 0) (d.toList.getD j 0) = true
    · rw [if_pos h, if_pos (by rw [gd_arr, gd_arr]; simpa using h), inner_list lt a j, swp_list]
    · rw [if_neg h, if_neg (by rw [gd_arr, gd_arr]; simpa using h)]
theorem outer_list (lt : Int → Int → Bool) (a b : Nat) : ∀ (c i : Nat) (d : Array Int), i + c = b ∨ (c = 0 ∧ b ≤ i) → (Go.Sort.insOuter lt a b i d).toList = insS lt a c i d.toList
  | 0, i, d, h => by
    rw [Go.Sort.insOuter, if_neg qa5]
    rfl
  | c + 1, i, d, h => by
    rw [Go.Sort.insOuter, if_pos qa5, outer_list lt a b c (i + 1) _ qa5, inner_list]
    rfl
theorem insert_list (lt : Int → Int → Bool) (a b : Nat) (d : Array Int) : (Go.Sort.insertionSort lt d a b).toList = insS lt a (b - a - 1) (a + 1) d.toList := by
  unfold Go.Sort.insertionSort
  exact outer_list lt a b (b - a - 1) (a + 1) d qa5
theorem blocksA_list (lt : Int → Int → Bool) (bs n : Nat) : ∀ (k a : Nat) (d : Array Int), (blocksA lt bs n k a d).toList = blocks lt bs n k a d.toList
  | 0, _, _ => rfl
  | k + 1, a, d => by
    rw [blocksA, blocks]
    by_cases h : a + bs ≤ n
    · rw [if_pos h, if_pos h, blocksA_list lt bs n k, insert_list, show a + bs - a - 1 = bs - 1 by omega]
    · rw [if_neg h, if_neg h, insert_list]
theorem passA_list (lt : Int → Int → Bool) (bs n : Nat) : ∀ (k a : Nat) (d : Array Int), (passA lt bs n k a d).toList = pass lt bs n k a d.toList
  | 0, _, _ => rfl
  | k + 1, a, d => by
    rw [passA, pass]
    by_cases h : a + 2 * bs ≤ n
    · rw [if_pos h, if_pos h, passA_list lt bs n k, symMF_list]
    · rw [if_neg h, if_neg h]
      by_cases h2 : a + bs < n
      · rw [if_pos h2, if_pos h2, symMF_list]
      · rw [if_neg h2, if_neg h2]
theorem passesA_list (lt : Int → Int → Bool) (n : Nat) : ∀ (k bs : Nat) (d : Array Int), (passesA lt n k bs d).toList = passes lt n k bs d.toList
  | 0, _, _ => rfl
  | k + 1, bs, d => by
    rw [passesA, passes]
    by_cases h : bs < n
    · rw [if_pos h, if_pos h, passesA_list lt n k, passA_list]
    · rw [if_neg h, if_neg h]
theorem stabA_list (lt : Int → Int → Bool) (L : List Int) : (stabA lt L.length L.toArray).toList = stab lt L := by
  rw [stabA, stab, passesA_list, blocksA_list]
end Go.Proofs.Ytfpkooafbeejmaa.Pure2
namespace Go.Proofs.Ytfpkooafbeejmaa.Pure2
open Go.RowKit Go.Proofs.Ytfpkooafbeejmaa.Q Go.Proofs.YtfpkooafbeejmaaW.PrintWords Go.Proofs.YtfpkooafbeejmaaW.PrintLast
set_option linter.unusedVariables false
set_option linter.unusedSimpArgs false
/-! the witness: an order of the committed ones -/
def tsO (l : List S115) (x : Int) : Int := (rd_T115 l x).f2
def wroteO (l : List S115) (x : Int) : Bool := (rd_T115 l x).f4
theorem lt_one (l : List S115) : Go.Proofs.ltOf (cfW l) = wlt (tsO l) (wroteO l) := by
  funext x y
  unfold Go.Proofs.ltOf cfW cfV wlt
  by_cases h1 : tsO l x = tsO l y
  · rw [if_neg (show ¬ ((rd_T115 l x).f2 ≠ (rd_T115 l y).f2) from fun h => h h1), if_neg (show ¬ (tsO l x ≠ tsO l y) from fun h => h h1)]
    by_cases h2 : wroteO l x = wroteO l y
    · rw [if_pos (show (rd_T115 l x).f4 = (rd_T115 l y).f4 from h2), if_pos h2]; rfl
    · rw [if_neg (show ¬ (rd_T115 l x).f4 = (rd_T115 l y).f4 from h2), if_neg h2]
      cases h3 : wroteO l x
      · rw [if_neg (by rw [show (rd_T115 l x).f4 = false from h3]; decide)]; rfl
      · rw [if_pos (show (rd_T115 l x).f4 = true from h3)]; rfl
  · rw [if_pos (show (rd_T115 l x).f2 ≠ (rd_T115 l y).f2 from h1), if_pos h1]
    show decide ((if tsO l x < tsO l y then -1 else if tsO l x > tsO l y then 1 else 0 : Int) < 0) = decide (tsO l x < tsO l y)
    by_cases h2 : tsO l x < tsO l y
    · rw [if_pos h2, decide_eq_true h2]; rfl
    · rw [if_neg h2, if_pos qa5, decide_eq_false h2]; rfl
theorem cm_in (l : List S115) : ∀ j, ∀ x ∈ cmO l j, 0 ≤ x ∧ x < (j : Int)
  | 0, x, h => by simp [cmO] at h
  | j + 1, x, h => by
    simp only [cmO] at h
    by_cases c : (l.getD j z115).f1 = 0
    · rw [if_pos c] at h
      rcases List.mem_append.1 h with h | h
      · have := cm_in l j x h; omega
      · rw [List.mem_singleton.1 h]; omega
    · rw [if_neg c] at h
      have := cm_in l j x h
      omega
theorem cm_inc (l : List S115) : ∀ j, (cmO l j).Pairwise (· < ·)
  | 0 => List.Pairwise.nil
  | j + 1 => by
    simp only [cmO]
    by_cases c : (l.getD j z115).f1 = 0
    · rw [if_pos c]
      refine List.pairwise_append.2 ⟨cm_inc l j, List.pairwise_singleton _ _, fun x hx y hy => ?_⟩; rw [List.mem_singleton.1 hy]
      exact (cm_in l j x hx).2
    · rw [if_neg c]; exact cm_inc l j
def wOrd (l : List S115) : Int → Int → Prop := wr (tsO l) (wroteO l)
theorem sortW_is (l : List S115) (C : List Int) (h : C.Pairwise (· < ·)) : (sortW l C).Pairwise (wOrd l) ∧ (sortW l C).Perm C := by
  have e : sortW l C = stab (wlt (tsO l) (wroteO l)) C := by rw [sortW, lt_one, stabA_list]
  rw [e]
  exact stab_is (wr_ord _ _) _ C (wfair _ _ C h)
def lessO (l : List S115) (a b : Int) : Bool := if tsO l a = tsO l b then (if (wroteO l a != wroteO l b) = true then wroteO l a else decide (a < b)) else decide (tsO l a < tsO l b)
theorem less_spec (l : List S115) (a b : Int) (ha : 0 ≤ a ∧ a < (l.length : Int)) (hb : 0 ≤ b ∧ b < (l.length : Int)) : spec_l13Less.f l a b = some (lessO l a b) := by
  unfold spec_l13Less.f lessO
  rw [if_pos ha.1, if_pos ha.2, if_pos hb.1, if_pos hb.2]
  by_cases h1 : tsO l a = tsO l b
  · rw [if_pos h1, if_pos (show (rd_T115 l a).f2 = (rd_T115 l b).f2 from h1)]
    by_cases h2 : (wroteO l a != wroteO l b) = true
    · rw [if_pos h2, if_pos (show ((rd_T115 l a).f4 != (rd_T115 l b).f4) = true from h2)]; rfl
    · rw [if_neg h2, if_neg (show ¬ ((rd_T115 l a).f4 != (rd_T115 l b).f4) = true from h2)]
  · rw [if_neg h1, if_neg (show ¬ (rd_T115 l a).f2 = (rd_T115 l b).f2 from h1)]; rfl
theorem less_is (l : List S115) (a b : Int) : lessO l a b = true ↔ wOrd l a b := by
  unfold lessO wOrd wr
  by_cases h1 : tsO l a = tsO l b
  · rw [if_pos h1]
    by_cases h2 : wroteO l a = wroteO l b
    · rw [if_neg (by rw [h2]; simp), decide_eq_true_eq]
      exact ⟨fun h => .inr ⟨h1, .inr ⟨h2, h⟩⟩, fun h => by
        rcases h with h | ⟨_, ⟨p, q⟩ | ⟨_, q⟩⟩
        · omega
        · rw [h2, q] at p; cases p
        · exact q⟩
    · rw [if_pos (by simpa using h2)]
      exact ⟨fun h => .inr ⟨h1, .inl ⟨h, by cases hb : wroteO l b with
        | false => rfl
        | true => rw [h, hb] at h2; exact absurd rfl h2⟩⟩, fun h => by
        rcases h with h | ⟨_, ⟨p, _⟩ | ⟨p, _⟩⟩
        · omega
        · exact p
        · exact absurd p h2⟩
  · rw [if_neg h1, decide_eq_true_eq]
    exact ⟨fun h => .inl h, fun h => by
      rcases h with h | ⟨h, _⟩
      · exact h
      · exact absurd h h1⟩
/-- The reference's loops: the places put in one by one. -/
theorem wit_inner (l : List S115) (C out : List Int) (i : Nat) (hi : i < C.length) (hC : ∀ x ∈ C, 0 ≤ x ∧ x < (l.length : Int)) (ho : ∀ x ∈ out, 0 ≤ x ∧ x < (l.length : Int)) (hn : out.length < 1000000) (hn2 : C.length < 1000000) (r : List Int)
    (hr : Ev (fun k => spec_l13Witness.l0 k l C (out.take (back (fun k => lessO l (C.getD i 0) (out.getD k 0)) out.length) ++ [C.getD i 0] ++ out.drop (back (fun k => lessO l (C.getD i 0) (out.getD k 0)) out.length)) ((i : Int) + 1)) r) :
    ∀ c, c ≤ out.length → back (fun k => lessO l (C.getD i 0) (out.getD k 0)) c = back (fun k => lessO l (C.getD i 0) (out.getD k 0)) out.length → Ev (fun k => spec_l13Witness.l1 k l C out (i : Int) (c : Int)) r := by
  have hCi : rd C (i : Int) = C.getD i 0 := rfl; have hin := hC _ (gd_mem C i hi)
  have fin : ∀ c, c ≤ out.length → c = back (fun k => lessO l (C.getD i 0) (out.getD k 0)) out.length → ∀ k, ((spec_l13ins.f k C out (i : Int) (c : Int)).bind fun t => spec_l13Witness.l0 k l C t (wrap64 ((i : Int) + 1))) = spec_l13Witness.l0 k l C (out.take (back (fun k => lessO l (C.getD i 0) (out.getD k 0)) out.length) ++ [C.getD i 0] ++ out.drop (back (fun k => lessO l (C.getD i 0) (out.getD k 0)) out.length)) ((i : Int) + 1) := fun c hc e k => by
    unfold spec_l13ins.f
    rw [if_pos ⟨⟨qa5, qa5⟩, ⟨qa5, qa5⟩, qa5⟩, Option.bind_some, hCi, ← e, show wrap64 ((i : Int) + 1) = (i : Int) + 1 by unfold wrap64; omega]
    rfl
  intro c
  induction c with
  | zero =>
    intro hc hb
    exact ev_shift 1 ⟨0, fun k _ => by simp only [spec_l13Witness.l1]; rw [if_neg qa5]; exact fin 0 hc hb k⟩ hr
  | succ c ih =>
    intro hc hb; have hw : wrap64 (((c + 1 : Nat) : Int) - 1) = (c : Int) := by unfold wrap64; omega
    have hoc : rd out (c : Int) = out.getD c 0 := rfl; have hls := less_spec l (C.getD i 0) (out.getD c 0) hin (ho _ (gd_mem out c qa5)); simp only [back] at hb
    by_cases hl : lessO l (C.getD i 0) (out.getD c 0) = true
    · rw [if_pos hl] at hb
      exact ev_shift 1 ⟨0, fun k _ => by
        simp only [spec_l13Witness.l1]; rw [if_pos qa5, if_pos qa5, if_pos qa5, hw, if_pos qa5, if_pos qa5, hCi, hoc, hls]; simp only [Option.bind_some, if_pos hl]⟩ (ih qa5 hb)
    · rw [if_neg hl] at hb
      exact ev_shift 1 ⟨0, fun k _ => by
        simp only [spec_l13Witness.l1]; rw [if_pos qa5, if_pos qa5, if_pos qa5, hw, if_pos qa5, if_pos qa5, hCi, hoc, hls]; simp only [Option.bind_some, if_neg hl]
        exact fin (c + 1) hc hb k⟩ hr
theorem wit_outer (l : List S115) (C : List Int) (hC : ∀ x ∈ C, 0 ≤ x ∧ x < (l.length : Int)) (hinc : C.Pairwise (· < ·)) (hn2 : C.length < 1000000) : ∀ (m i : Nat) (out : List Int), i + m = C.length → out.Pairwise (wOrd l) → out.Perm (C.take i) → ∃ r, Ev (fun k => spec_l13Witness.l0 k l C out (i : Int)) r ∧ r.Pairwise (wOrd l) ∧ r.Perm C := by
  intro m
  induction m with
  | zero =>
    intro i out hi hs hp; refine ⟨out, ev_now ⟨0, fun k _ => by simp only [spec_l13Witness.l0]; rw [if_neg qa5]⟩, hs, ?_⟩
    rwa [List.take_of_length_le qa5] at hp
  | succ m ih =>
    intro i out hi hs hp; have hlen : out.length = i := by rw [hp.length_eq, List.length_take]; omega
    have hsub : ∀ x ∈ out, x ∈ C.take i := fun x hx => hp.mem_iff.1 hx
    have ho : ∀ x ∈ out, 0 ≤ x ∧ x < (l.length : Int) := fun x hx => hC x (List.mem_of_mem_take (hsub x hx))
    have hne : ∀ y ∈ out, C.getD i 0 ≠ y := fun y hy => by
      obtain ⟨j, hj, e⟩ := mem_take_gd C i qa5 y (hsub y hy); have := pw_gd hinc j i hj qa5
      omega
    obtain ⟨b1, b2⟩ := back_ins (wr_ord (tsO l) (wroteO l)) (fun k => lessO l (C.getD i 0) (out.getD k 0)) (C.getD i 0) out (fun k _ => less_is l _ _) hs hne
    have hgi : C.take (i + 1) = C.take i ++ [C.getD i 0] := by
      rw [List.take_add_one, List.getD_eq_getElem?_getD, List.getElem?_eq_getElem qa5]; rfl
    obtain ⟨r, er, h1, h2⟩ := ih (i + 1) _ qa5 b1 (b2.trans (by rw [hgi]; exact List.Perm.append_right _ hp)); refine ⟨r, ?_, h1, h2⟩
    have := wit_inner l C out i qa5 hC ho qa5 hn2 r (by
      rw [List.append_assoc]
      exact er) out.length (Nat.le_refl _) rfl
    exact ev_step ⟨0, fun k _ => by simp only [spec_l13Witness.l0]; rw [if_pos qa5]⟩ this
theorem wit_agree (l : List S115) (hl : l.length ≤ 60) : ∃ r : List Int, Ev (fun k => spec_l13Witness.f k l) r ∧ Ev (fun k => impl_witness.f k l) r ∧ r.length ≤ 60 ∧ (∀ x ∈ r, 0 ≤ x ∧ x < (l.length : Int)) := by
  obtain ⟨e3, e4⟩ := comm_agree l qa5; have hlen := cm_len l l.length; have hC := cm_in l l.length; have hinc := cm_inc l l.length; obtain ⟨r, er, h1, h2⟩ := wit_outer l (cmO l l.length) hC hinc qa5 (cmO l l.length).length 0 [] qa5 List.Pairwise.nil (by rw [List.take_zero]); obtain ⟨s1, s2⟩ := sortW_is l (cmO l l.length) hinc; have e : sortW l (cmO l l.length) = r := ord_one (wr_ord _ _) _ _ s1 h1 (s2.trans h2.symm); obtain ⟨K1, k1⟩ := ev_at e3; obtain ⟨K2, k2⟩ := ev_at er; obtain ⟨K3, k3⟩ := ev_at e4; refine ⟨r, ev_mk (K1 + K2) fun k hk => ?_, ev_mk K3 fun k hk => ?_, by rw [h2.length_eq]; omega, fun x hx => hC x (h2.mem_iff.1 hx)⟩
  · unfold spec_l13Witness.f
    rw [k1 k qa5]; simp only [Option.bind_some]
    exact k2 k qa5
  · unfold impl_witness.f
    rw [k3 k qa5]; simp only [Option.bind_some]
    have hin : inW l (cmO l l.length) = true := by
      unfold inW
      rw [List.all_eq_true]; intro x hx; have := hC x hx; rw [decide_eq_true this.1, decide_eq_true this.2]; rfl
    rw [if_pos qa5, if_pos hin, e]
end Go.Proofs.Ytfpkooafbeejmaa.Pure2
namespace Go.Proofs.Ytfpkooafbeejmaa.Pure2
open Go.RowKit Go.Proofs.Ytfpkooafbeejmaa.Q Go.Proofs.YtfpkooafbeejmaaW.PrintWords Go.Proofs.YtfpkooafbeejmaaW.PrintLast
set_option linter.unusedVariables false
set_option linter.unusedSimpArgs false
/-! real time: nobody ahead of one that was done when it came -/
def sinceO (l : List S115) (x : Int) : Int := (rd_T115 l x).f3
def rtO (l : List S115) : List Int → Bool
  | [] => true
  | x :: t => if (t.any fun y => decide (y < sinceO l x)) = true then false else rtO l t
theorem drop_gd (w : List Int) (i : Nat) (h : i < w.length) : w.drop i = w.getD i 0 :: w.drop (i + 1) := by
  rw [List.drop_eq_getElem_cons h, List.getD_eq_getElem?_getD, List.getElem?_eq_getElem h]; rfl
theorem wr64 (i : Nat) (h : i < 1000000) : wrap64 ((i : Int) + 1) = ((i + 1 : Nat) : Int) := by unfold wrap64; omega
theorem real_inner (l : List S115) (w : List Int) (i : Nat) (hi : i < w.length) (hw : ∀ x ∈ w, 0 ≤ x ∧ x < (l.length : Int)) (hn : w.length < 1000000) (R : Bool) (hR : Ev (fun k => spec_l13Real.l0 k l w ((i + 1 : Nat) : Int)) R) :
    ∀ m j, j + m = w.length → Ev (fun k => spec_l13Real.l1 k l w (i : Int) (j : Int)) (if ((w.drop j).any fun y => decide (y < sinceO l (w.getD i 0))) = true then false else R) := by
  have hwi : rd w (i : Int) = w.getD i 0 := rfl; have hin := hw _ (gd_mem w i hi); intro m
  induction m with
  | zero =>
    intro j hj; rw [List.drop_of_length_le qa5, List.any_nil, if_neg qa20]
    exact ev_shift 1 ⟨0, fun k _ => by simp only [spec_l13Real.l1]; rw [if_neg qa5, wr64 i qa5]⟩ hR
  | succ m ih =>
    intro j hj; have hwj : rd w (j : Int) = w.getD j 0 := rfl; rw [drop_gd w j qa5, List.any_cons]
    by_cases c : w.getD j 0 < sinceO l (w.getD i 0)
    · rw [decide_eq_true c, Bool.true_or, if_pos rfl]
      exact ev_now ⟨0, fun k _ => by
        simp only [spec_l13Real.l1]; rw [if_pos qa5, if_pos qa5, if_pos qa5, if_pos qa5, hwi, hwj, if_pos hin.1, if_pos hin.2, if_pos (show w.getD j 0 < (rd_T115 l (w.getD i 0)).f3 from c)]⟩
    · rw [decide_eq_false c, Bool.false_or]
      exact ev_shift 1 ⟨0, fun k _ => by
        simp only [spec_l13Real.l1]; rw [if_pos qa5, if_pos qa5, if_pos qa5, if_pos qa5, hwi, hwj, if_pos hin.1, if_pos hin.2, if_neg (show ¬ w.getD j 0 < (rd_T115 l (w.getD i 0)).f3 from c), wr64 j qa5]⟩ (ih (j + 1) qa5)
theorem real_spec (l : List S115) (w : List Int) (hw : ∀ x ∈ w, 0 ≤ x ∧ x < (l.length : Int)) (hn : w.length < 1000000) : ∀ m i, i + m = w.length → Ev (fun k => spec_l13Real.l0 k l w (i : Int)) (rtO l (w.drop i)) := by
  intro m
  induction m with
  | zero =>
    intro i hi; rw [List.drop_of_length_le qa5]
    exact ev_now ⟨0, fun k _ => by simp only [spec_l13Real.l0]; rw [if_neg qa5]; rfl⟩
  | succ m ih =>
    intro i hi; rw [drop_gd w i qa5, rtO]
    exact ev_step ⟨0, fun k _ => by simp only [spec_l13Real.l0]; rw [if_pos qa5, wr64 i qa5]⟩ (real_inner l w i qa5 hw hn _ (ih (i + 1) qa5) m (i + 1) qa5)
theorem real_impl (l : List S115) (w : List Int) (hw : ∀ x ∈ w, 0 ≤ x ∧ x < (l.length : Int)) (hn : w.length < 1000000) : ∀ m i, i + m = w.length → Ev (fun k => impl_RealTime.l0 k l w w (w.length : Int) (i : Int)) (rtO l (w.drop i), 0) := by
  intro m
  induction m with
  | zero =>
    intro i hi; rw [List.drop_of_length_le qa5]
    exact ev_now ⟨0, fun k _ => by simp only [impl_RealTime.l0]; rw [if_neg qa5]; rfl⟩
  | succ m ih =>
    intro i hi; have hin := hw _ (gd_mem w i qa5); have hwi : rd w (i : Int) = w.getD i 0 := rfl; rw [drop_gd w i qa5, rtO]
    by_cases c : ((w.drop (i + 1)).any fun y => decide (y < sinceO l (w.getD i 0))) = true
    · rw [if_pos c]
      exact ev_now ⟨0, fun k _ => by
        simp only [impl_RealTime.l0]; rw [if_pos qa5, if_pos qa5, if_pos qa5, hwi, if_pos hin.1, if_pos hin.2, wr64 i qa5, if_pos qa5, if_pos qa5]
        show (clo89_90.f (w.drop (i + 1)) _).bind _ = _
        unfold clo89_90.f
        rw [Option.bind_some, if_pos (show ((w.drop (i + 1)).any fun y => decide (y < (rd_T115 l (w.getD i 0)).f3)) = true from c)]⟩
    · rw [if_neg c]
      exact ev_shift 1 ⟨0, fun k _ => by
        simp only [impl_RealTime.l0]; rw [if_pos qa5, if_pos qa5, if_pos qa5, hwi, if_pos hin.1, if_pos hin.2, wr64 i qa5, if_pos qa5, if_pos qa5]
        show (clo89_90.f (w.drop (i + 1)) _).bind _ = _
        unfold clo89_90.f
        rw [Option.bind_some, if_neg (show ¬ ((w.drop (i + 1)).any fun y => decide (y < (rd_T115 l (w.getD i 0)).f3)) = true from c)]⟩ (ih (i + 1) qa5)
theorem rt_both (l : List S115) (hl : l.length ≤ 1048576) : ∃ r : Bool × Int, Ev (fun k => spec_RealTime.f k l) r ∧ Ev (fun k => impl_RealTime.f k l) r := by
  obtain ⟨c, ec, h1, h2⟩ := hist_code l hl; obtain ⟨K1, k1⟩ := ev_at ec
  by_cases h : l.length ≤ 4096
  · obtain ⟨b, eb, hc⟩ := h1 h
    obtain ⟨K2, k2⟩ := ev_at eb
    cases b with
    | false =>
      subst hc; refine ⟨(false, 1), ev_mk K2 fun k hk => ?_, ev_mk K1 fun k hk => ?_⟩
      · unfold spec_RealTime.f; rw [if_neg qa5, k2 k hk]; rfl
      · unfold impl_RealTime.f; rw [k1 k hk]; rfl
    | true =>
      subst hc
      have h60 : l.length ≤ 60 := by
        obtain ⟨b, eb', hb⟩ := hist_spec l hl
        have : b = true := by
          obtain ⟨K, kk⟩ := ev_two eb eb'; have := kk K (Nat.le_refl _); have h3 := this.1.symm.trans this.2; injection h3 with h3
          exact h3.symm
        exact (hb.1 this).2
      obtain ⟨w, e3, e4, hw, hin⟩ := wit_agree l h60; obtain ⟨K3, k3⟩ := ev_at e3; obtain ⟨K4, k4⟩ := ev_at e4; obtain ⟨K5, k5⟩ := ev_at (real_spec l w hin qa5 w.length 0 qa5); obtain ⟨K6, k6⟩ := ev_at (real_impl l w hin qa5 w.length 0 qa5); refine ⟨(rtO l (w.drop 0), 0), ev_mk (K2 + K3 + K5) fun k hk => ?_, ev_mk (K1 + K4 + K6) fun k hk => ?_⟩
      · unfold spec_RealTime.f; rw [if_neg qa5, k2 k qa5]; simp only [Option.bind_some, if_true]
        unfold spec_l13Real.f
        rw [k3 k qa5]; simp only [Option.bind_some]; rw [show spec_l13Real.l0 k l w 0 = spec_l13Real.l0 k l w ((0 : Nat) : Int) from rfl, k5 k qa5]; rfl
      · unfold impl_RealTime.f; rw [k1 k qa5]; simp only [Option.bind_some, if_true]; rw [k4 k qa5]; simp only [Option.bind_some]
        rw [show impl_RealTime.l0 k l w w (w.length : Int) 0 = impl_RealTime.l0 k l w w (w.length : Int) ((0 : Nat) : Int) from rfl, k6 k qa5]
  · have := h2 h
    subst this; refine ⟨(false, 2), ev_mk 0 fun k _ => ?_, ev_mk K1 fun k hk => ?_⟩
    · unfold spec_RealTime.f; rw [if_pos qa5]
    · unfold impl_RealTime.f; rw [k1 k hk]; rfl
end Go.Proofs.Ytfpkooafbeejmaa.Pure2
namespace Go.Proofs.Ytfpkooafbeejmaa.Pure2
open Go.RowKit Go.Proofs.Ytfpkooafbeejmaa.Q Go.Proofs.YtfpkooafbeejmaaW.PrintWords Go.Proofs.YtfpkooafbeejmaaW.PrintLast
set_option linter.unusedVariables false
set_option linter.unusedSimpArgs false
theorem FnExactRealTime : laws_FnExactRealTime.Pure2 := by
  intro y hy
  obtain ⟨r, he, hr⟩ := sz_DoneS y 1048576 qa5 qa5 hy.1 hy.2
  refine Ev.rounds (r := true) ?_
  obtain ⟨K1, h1⟩ := ev_at he
  rcases hr with hr | ⟨r0, r1⟩
  · exact ev_mk K1 fun k hk => by unfold laws_FnExactRealTime.f; rw [h1 k hk]; simp only [Option.bind_some]; rw [if_pos hr]
  have hc : (y.map (fun x => 1 + costDone x)).sum ≤ 1048576 := by omega
  have hlen := len_sum costDone y
  obtain ⟨K2, h2⟩ := ev_at (to_DoneS y hy.2 hc)
  obtain ⟨⟨g, cd⟩, e1, e2⟩ := rt_both (y.map cvDone) qa25
  obtain ⟨K3, h3⟩ := ev_at e1
  obtain ⟨K4, h4⟩ := ev_at e2
  obtain ⟨K5, h5⟩ := ev_at (eq_DoneS y hy.2 hc)
  obtain ⟨K6, h6⟩ : ∃ K, ∀ k, K ≤ k → laws_FnExactRealTime.j0 k y (y.map cvDone) false = some true := ⟨K2 + K5 + 1, fun k hk => by
    obtain ⟨k', rfl⟩ : ∃ q, k = q + 1 := ⟨k - 1, qa5⟩
    simp only [laws_FnExactRealTime.j0]
    rw [if_neg qa20, h2 k' qa5]
    simp only [Option.bind_some]
    rw [h5 k' qa5]
    simp only [Option.bind_some, if_true]⟩
  refine ev_mk (K1 + K2 + K3 + K4 + K6) fun k hk => ?_
  unfold laws_FnExactRealTime.f
  rw [h1 _ qa5]; simp only [Option.bind_some]; rw [if_neg qa5, h2 _ qa5]; simp only [Option.bind_some]
  rw [h3 _ qa5]; simp only [Option.bind_some]; rw [h4 _ qa5]; simp only [Option.bind_some]
  have hg : (g != g) = false := by simp
  have hcd : (cd != cd) = false := by simp
  rw [hg, hcd, if_neg qa20]
  exact h6 k qa5
end Go.Proofs.Ytfpkooafbeejmaa.Pure2
