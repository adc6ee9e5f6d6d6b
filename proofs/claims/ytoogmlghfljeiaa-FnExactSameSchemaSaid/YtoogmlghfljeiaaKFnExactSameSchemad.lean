/- Texts of the claim on FnExactSameSchema, gathered by a program of this session: what the program's functions compute (proved by walks), and the plain part. -/
import Derived.Test.YtoogmlghfljeiaaKFnExactSameSchemac
import Derived.Test.YtoogmlghfljeiaaKFnExactSameSchemaOpens
import Derived.KernelRfl
namespace Go.Proofs.Ytoogmlghfljeiaa.Q
open Go.RowKit Go.Proofs.YtoogmlghfljeiaaW.PrintWords Go.Proofs.YtoogmlghfljeiaaW.PrintLast Go.Proofs.YtoogmlghfljeiaaW.PrintMore
attribute [local go_sem] max2_int min2_int max_two min_two max_three min_three max_four min_four
set_option linter.unusedVariables false
set_option linter.unusedSimpArgs false

/-- Two lists held against each other, place by place. -/
def impl_FieldDef_48.all (q : (S38) → (S38) → Option Bool) : List (S38) → List (S38) → Option Bool
 | x :: xs, y :: ys => (q x y).bind fun b => if b = true then impl_FieldDef_48.all q xs ys else some false
 | _, _ => some true
def impl_FieldDef_48.fq (q : (S38) → (S38) → Option Bool) (l0 l1 : List (S38)) : Option Bool := if l0.length = l1.length then impl_FieldDef_48.all q l0 l1 else some false
theorem impl_FieldDef_48.all_le (q q' : (S38) → (S38) → Option Bool) (hq : ∀ x y, LeO (q x y) (q' x y)) : ∀ l0 l1, LeO (impl_FieldDef_48.all q l0 l1) (impl_FieldDef_48.all q' l0 l1)
 | [], _ => fun r h => by simpa [impl_FieldDef_48.all] using h
 | _ :: _, [] => fun r h => by simpa [impl_FieldDef_48.all] using h
 | x :: xs, y :: ys => fun r h => by
  simp only [impl_FieldDef_48.all] at h ⊢; obtain ⟨b, hb, h⟩ := Option.bind_eq_some_iff.mp h; refine Option.bind_eq_some_iff.mpr ⟨b, hq x y b hb, ?_⟩
  cases b
  ·simpa using h
  ·simpa using impl_FieldDef_48.all_le q q' hq xs ys r (by simpa using h)
theorem impl_FieldDef_48.fq_le (q q' : (S38) → (S38) → Option Bool) (hq : ∀ x y, LeO (q x y) (q' x y)) (l0 l1 : List (S38)) : LeO (impl_FieldDef_48.fq q l0 l1) (impl_FieldDef_48.fq q' l0 l1) := by
 unfold impl_FieldDef_48.fq
 by_cases e : l0.length = l1.length
 ·rw [if_pos e, if_pos e]; exact impl_FieldDef_48.all_le q q' hq l0 l1
 ·rw [if_neg e, if_neg e]; exact fun r h => h
theorem impl_FieldDef_48.step (q : (S38) → (S38) → Option Bool) (l0 l1 : List (S38)) (kk : Nat) (r : Bool) (h0 : kk < l0.length) (h1 : kk < l1.length) (x y : (S38)) (hx : l0[kk]? = some x) (hy : l1[kk]? = some y) (h : impl_FieldDef_48.all q (l0.drop kk) (l1.drop kk) = some r) :
  ∃ b, q x y = some b ∧ (b = true → impl_FieldDef_48.all q (l0.drop (kk + 1)) (l1.drop (kk + 1)) = some r) ∧ (b = false → r = false) := by
 have ex : l0.drop kk = x :: l0.drop (kk + 1) := by rw [List.drop_eq_getElem_cons h0]; rw [List.getElem?_eq_getElem h0] at hx; rw [Option.some.inj hx]
 have ey : l1.drop kk = y :: l1.drop (kk + 1) := by rw [List.drop_eq_getElem_cons h1]; rw [List.getElem?_eq_getElem h1] at hy; rw [Option.some.inj hy]
 rw [ex, ey] at h; simp only [impl_FieldDef_48.all] at h; obtain ⟨b, hb, h⟩ := Option.bind_eq_some_iff.mp h; refine ⟨b, hb, fun e => ?_, fun e => ?_⟩
 ·subst e; simpa using h
 ·subst e; simpa using h.symm
theorem impl_FieldDef_48.last (q : (S38) → (S38) → Option Bool) (l0 l1 : List (S38)) (kk : Nat) (r : Bool) (h0 : ¬ kk < l0.length) (h : impl_FieldDef_48.all q (l0.drop kk) (l1.drop kk) = some r) : r = true := by
 rw [List.drop_of_length_le qa28] at h
 simpa [impl_FieldDef_48.all] using h.symm
set_option maxHeartbeats 4000000 in
set_option maxRecDepth 100000 in
theorem impl_FieldDef_48.callsP (A0 : Option Addr) (c0 : Nat) (l0 : List (S38)) (A1 : Option Addr) (c1 : Nat) (l1 : List (S38)) (g : Nat) (cb : Array Value) (q : (S38) → (S38) → Option Bool) (r : Bool) (w : World) (eg : ∀ args w, (callFunc g args).run Try.prog w = .ok (.enter g args) w) (hr0 : Kd.C k38 w A0 l0.length l0) (hr1 : Kd.C k38 w A1 l1.length l1)
  (hp : ∀ (W : World) (x y : (S38)) (E1 : Option Addr) (e1 : Nat) (F1 : Option Addr) (f1 : Nat) (b : Bool), Below w.heap.size w W → x.f1.length ≤ e1 → Kd.C k57 W E1 x.f1.length x.f1 → y.f1.length ≤ f1 → Kd.C k57 W F1 y.f1.length y.f1 → q x y = some b → Calls Try.prog g (#[.agg #[.string x.f0, .slice E1 x.f1.length e1, .string x.f2, .bool x.f3, .bool x.f4], .agg #[.string y.f0, .slice F1 y.f1.length f1, .string y.f2, .bool y.f3, .bool y.f4]] ++ cb) W fun e w' => e = .returned (.bool b) ∧ Below W.heap.size W w') (h : impl_FieldDef_48.fq q l0 l1 = some r) :
  Calls Try.prog 48 #[.slice A0 l0.length c0, .slice A1 l1.length c1, .func (.func g) #[] cb] w fun e w' => e = .returned (.bool r) ∧ Below w.heap.size w w' := by
 have hlen := hr0.2.1; have hlen1 := hr1.2.1; have HR := qO hr0; have HS := qO hr1; have HP := qO hp
 unfold impl_FieldDef_48.fq at h
 clear hr0 hr1 hp; have isagg := Try.isAgg38
 by_cases hll : l0.length = l1.length
 ·rw [if_pos hll] at h
  have HA := qO h; have HL := qO hll; have hb0 : ((l0.length : Int) == (l1.length : Int)) = true := by rw [hll]; simp
  have hb1 : ((l0.length : Int) != (l1.length : Int)) = false := by rw [hll]; simp
  clear h hll
  go_enter Try.func48, Try.ntmps48
  go_wp2
  go_loopg [17] l0.length (fun gg s17 wr => ∃ kk : Nat, kk ≤ l0.length ∧ l0.length - kk ≤ gg ∧ s17 = .int .i64 kk ∧ Aside0 (Below w.heap.size w wr) ∧ Aside0 (impl_FieldDef_48.all q (l0.drop kk) (l1.drop kk) = some r))
  case atStart => exact ⟨0, Nat.zero_le _, qa28, rfl, ⟨Below.refl _ w⟩, HA⟩
  case round =>
   clear HA hb0 hb1; obtain ⟨kk, hkk, hg, rfl, BW, HA⟩ := hrel
   by_cases hlt : kk < l0.length
   ·have hlt1 : kk < l1.length := by have := HL.out; omega
    have hltz : (kk : Int) < (l0.length : Int) := by omega
    have hlty : (kk : Int) < (l1.length : Int) := by omega
    obtain ⟨adE, E1, e1, eE, hx0, hx1, hx2, hx3, hx4, hxl1, hxi1⟩ := at_T38 HR.out (kk : Int) qa28 hltz; obtain ⟨adF, F1, f1, eF, hy0, hy1, hy2, hy3, hy4, hyl1, hyi1⟩ := at_T38 HS.out (kk : Int) qa28 hlty
    cases eE
    cases eF
    replace hx0 := (BW.out.cell (qL w _ hx0)).trans hx0; simp only [Int.toNat_natCast] at hx0; replace hx1 := (BW.out.cell (qL w _ hx1)).trans hx1; simp only [Int.toNat_natCast] at hx1; replace hx2 := (BW.out.cell (qL w _ hx2)).trans hx2; simp only [Int.toNat_natCast] at hx2; replace hx3 := (BW.out.cell (qL w _ hx3)).trans hx3; simp only [Int.toNat_natCast] at hx3; replace hx4 := (BW.out.cell (qL w _ hx4)).trans hx4; simp only [Int.toNat_natCast] at hx4; replace hy0 := (BW.out.cell (qL w _ hy0)).trans hy0; simp only [Int.toNat_natCast] at hy0; replace hy1 := (BW.out.cell (qL w _ hy1)).trans hy1; simp only [Int.toNat_natCast] at hy1; replace hy2 := (BW.out.cell (qL w _ hy2)).trans hy2; simp only [Int.toNat_natCast] at hy2; replace hy3 := (BW.out.cell (qL w _ hy3)).trans hy3; simp only [Int.toNat_natCast] at hy3; replace hy4 := (BW.out.cell (qL w _ hy4)).trans hy4; simp only [Int.toNat_natCast] at hy4
    have hx : l0[kk]? = some (rd_T38 l0 (kk : Int)) := by
     rw [List.getElem?_eq_getElem hlt]
     show some l0[kk] = some (l0.getD (kk : Int).toNat _)
     rw [Int.toNat_natCast, List.getD_eq_getElem?_getD, List.getElem?_eq_getElem hlt]
     rfl
    have hy : l1[kk]? = some (rd_T38 l1 (kk : Int)) := by
     rw [List.getElem?_eq_getElem hlt1]
     show some l1[kk] = some (l1.getD (kk : Int).toNat _)
     rw [Int.toNat_natCast, List.getD_eq_getElem?_getD, List.getElem?_eq_getElem hlt1]
     rfl
    obtain ⟨b, hq, hs1, hs2⟩ := impl_FieldDef_48.step q l0 l1 kk r hlt hlt1 _ _ hx hy HA.out; have hcall := fun W (hb : Below w.heap.size w W) => HP.out W (rd_T38 l0 (kk : Int)) (rd_T38 l1 (kk : Int)) E1 e1 F1 f1 b hb hxl1 (Kd.C_below hxi1 hb) hyl1 (Kd.C_below hyi1 hb) hq
    have HC := qO hcall; have HT := qO hs1; have HF := qO hs2; clear hcall hs1 hs2 hq hx hy; clear hxl1 hxi1 hyl1 hyi1; generalize rd_T38 l0 (kk : Int) = x at HC hx0 hx1 hx2 hx3 hx4; generalize rd_T38 l1 (kk : Int) = y at HC hy0 hy1 hy2 hy3 hy4; clear HA; have fy0 := fun o : Obj => pw_cell_below (qbA (Below.refl wr.heap.size wr) o) hy0
    have fy1 := fun o : Obj => pw_cell_below (qbA (Below.refl wr.heap.size wr) o) hy1
    have fy2 := fun o : Obj => pw_cell_below (qbA (Below.refl wr.heap.size wr) o) hy2
    have fy3 := fun o : Obj => pw_cell_below (qbA (Below.refl wr.heap.size wr) o) hy3
    have fy4 := fun o : Obj => pw_cell_below (qbA (Below.refl wr.heap.size wr) o) hy4
    cases b with
    | true =>
     have HT1 := qO (HT.out rfl); clear HT HF
     go_wp2_with (go_at_fn g; refine (HC.out _ (qbA (qbA BW.out _) _)).mono ?_; rintro e w' ⟨rfl, hb'⟩)
     go_roundg (l0.length - (kk + 1))
     case measure => omega
     case rel => exact ⟨kk + 1, qa28, qa28, by go_num, ⟨below_step (qbA (qbA BW.out _) _) hb'⟩, HT1⟩
    | false =>
     have HF1 := qO (HF.out rfl); clear HT HF
     go_wp2_with (go_at_fn g; refine (HC.out _ (qbA (qbA BW.out _) _)).mono ?_; rintro e w' ⟨rfl, hb'⟩)
     go_ret
     exact ⟨by rw [HF1.out]; rfl, below_step (qbA (qbA BW.out _) _) hb'⟩
   ·have hltz : ¬ (kk : Int) < (l0.length : Int) := by omega
    have HA2 := qO (impl_FieldDef_48.last q l0 l1 kk r hlt HA.out); clear HA; go_wp2
    go_ret
    exact ⟨by rw [HA2.out]; rfl, BW.out⟩
 ·rw [if_neg hll] at h
  obtain rfl := Option.some.inj h; have hll2 : ¬ (l0.length : Int) = (l1.length : Int) := by omega
  have hb0 : ((l0.length : Int) == (l1.length : Int)) = false := beq_eq_false_iff_ne.mpr hll2; have hb1 : ((l0.length : Int) != (l1.length : Int)) = true := bne_iff_ne.mpr hll2; clear h hll hll2
  go_enter Try.func48, Try.ntmps48
  go_wp2
  go_ret
  exact ⟨rfl, Below.refl _ _⟩


theorem eqA57 (d : Nat) (w : World) (x0 y0 : ByteArray) (x1 y1 : Bool) :
  (Op.equalIn (d + 2) 57 (.agg #[.string x0, .bool x1]) (.agg #[.string y0, .bool y1])).run Try.prog w = .ok (x0.toList == y0.toList && (x1 == y1)) w := by
 refine eqA_of Try.underlying57 qa16 ?_; refine eqf_cons (by rfl) (by go_simp; rfl) (by go_simp; rfl) (by go_simp) ?_
 exact eqf_last (by rfl) (by go_simp; rfl) (by go_simp; rfl) (by go_simp)

attribute [local go_sem high] eqA57
def impl_ArgDef_50.l0 : Nat → List (S57) → List (S57) → Int → Int → Option (Bool)
 | 0, _, _, _, _ => none
 | k + 1, x0, x1, x12, x13 => if x13 < x12 then (if 0 ≤ x13 then (if x13 < (x0.length : Int) then (if x13 < (x1.length : Int) then (if (!((((rd_T57 x0 x13).f0).toList) == (((rd_T57 x1 x13).f0).toList)) || (!(((rd_T57 x0 x13).f1) == ((rd_T57 x1 x13).f1)))) = true then (some false) else (impl_ArgDef_50.l0 k x0 x1 x12 (wrap64 (x13 + 1)))) else (none)) else (none)) else (none)) else (some true)
def impl_ArgDef_50.f (k : Nat) (l0 : List (S57)) (l1 : List (S57)) : Option (Bool) := if (l0.length : Int) = (l1.length : Int) then (impl_ArgDef_50.l0 k l0 l1 (l0.length : Int) 0) else (some false)
set_option maxHeartbeats 8000000 in
set_option maxRecDepth 100000 in
theorem impl_ArgDef_50.calls (k : Nat) (A0 : Option Addr) (c0 : Nat) (l0 : List (S57)) (A1 : Option Addr) (c1 : Nat) (l1 : List (S57)) (r : Bool) (w : World) (hr0 : Kd.C k57 w A0 l0.length l0) (hc0 : l0.length ≤ c0) (hr1 : Kd.C k57 w A1 l1.length l1) (hc1 : l1.length ≤ c1) (h : impl_ArgDef_50.f k l0 l1 = some r) :
  Calls Try.prog 50 #[.slice A0 l0.length c0, .slice A1 l1.length c1] w fun e w' => e = .returned (.bool r) ∧ Drawn0 w w' := by
 have hu57 := Try.underlying57; have HR0 := qO hr0; have HC0 := qO hc0; clear hr0 hc0; have HR1 := qO hr1; have HC1 := qO hc1; clear hr1 hc1; have H : (if (l0.length : Int) = (l1.length : Int) then (impl_ArgDef_50.l0 k l0 l1 (l0.length : Int) 0) else (some false)) = some r := h; clear h
 by_cases c3 : (l0.length : Int) = (l1.length : Int)
 ·rw [if_pos c3] at H
  have c3b0 : ((l0.length : Int) == (l1.length : Int)) = true := beq_iff_eq.mpr c3; have c3b1 : ((l0.length : Int) != (l1.length : Int)) = false := bne_eq_false_iff_eq.mpr c3; have c3b2 : (l0.length == l1.length) = true := by first | simpa using c3 | (simp at c3 ⊢; omega)
  clear c3; have H' := qO H; clear H
  go_enter Try.func50, Try.ntmps50
  go_wp2
  repeat (go_quiet (fail); try go_wp2)
  go_loopg [13] k (fun kq v13 w' => ∃ (x13_1 : Int), v13 = .int .i64 x13_1 ∧ Aside0 (impl_ArgDef_50.l0 kq l0 l1 (l0.length : Int) x13_1 = some r) ∧ Aside0 (kq ≤ k) ∧ Drawn0 w w')
  case atStart => exact ⟨(0), qa10, H', ⟨Nat.le_refl _⟩, qa25⟩
  case round =>
   clear H'
   try clear c1
   try clear p2
   try clear c3
   try clear c3b0
   try clear c3b1
   try clear c3b2
   obtain ⟨x13_1, rfl, HA, HK1, ⟨m1, rfl⟩⟩ := hrel
   cases gk with
   | zero => exact absurd HA.out (by simp [impl_ArgDef_50.l0])
   | succ k1 =>
    have H := HA.out; clear HA; simp only [impl_ArgDef_50.l0] at H
    by_cases c4 : x13_1 < (l0.length : Int)
    ·rw [if_pos c4] at H
     have c4b0 : decide (x13_1 < (l0.length : Int)) = true := decide_eq_true c4; clear c4
     by_cases c5 : 0 ≤ x13_1
     ·rw [if_pos c5] at H
      have c5b0 : decide (0 ≤ x13_1) = true := decide_eq_true c5; clear c5
      by_cases c6 : x13_1 < (l0.length : Int)
      ·rw [if_pos c6] at H
       have c6b0 : decide (x13_1 < (l0.length : Int)) = true := decide_eq_true c6; clear c6
       by_cases c7 : x13_1 < (l1.length : Int)
       ·rw [if_pos c7] at H
        have c7b0 : decide (x13_1 < (l1.length : Int)) = true := decide_eq_true c7; clear c7
        by_cases c8 : (!((((rd_T57 l0 x13_1).f0).toList) == (((rd_T57 l1 x13_1).f0).toList)) || (!(((rd_T57 l0 x13_1).f1) == ((rd_T57 l1 x13_1).f1)))) = true
        ·rw [if_pos c8] at H
         have c8b0 : (!((((rd_T57 l0 x13_1).f0).toList) == (((rd_T57 l1 x13_1).f0).toList)) || (!(((rd_T57 l0 x13_1).f1) == ((rd_T57 l1 x13_1).f1)))) = true := c8; clear c8; obtain rfl := Option.some.inj H; have p101 : 0 ≤ (x13_1 : Int) := qT qa4; have q101 : x13_1 < (l0.length : Int) := qT qa4; obtain ⟨ad101, e101, hx101_0, hx101_1⟩ := at_T57 HR0.out x13_1 p101 q101
         cases e101
         replace p101 := eq_true p101; replace q101 := eq_true q101; have p102 : 0 ≤ (x13_1 : Int) := qT qa4; have q102 : x13_1 < (l1.length : Int) := qT qa4; obtain ⟨ad102, e102, hx102_0, hx102_1⟩ := at_T57 HR1.out x13_1 p102 q102
         cases e102
         replace p102 := eq_true p102; replace q102 := eq_true q102; go_wp2
         repeat (go_quiet (fail); try go_wp2)
         go_ret
         exact ⟨qa10, qa25⟩
        ·rw [if_neg c8] at H
         have c8b0 : (!((((rd_T57 l0 x13_1).f0).toList) == (((rd_T57 l1 x13_1).f0).toList)) || (!(((rd_T57 l0 x13_1).f1) == ((rd_T57 l1 x13_1).f1)))) = false := by simpa using c8
         clear c8; have H' := qO H; clear H; have p101 : 0 ≤ (x13_1 : Int) := qT qa4; have q101 : x13_1 < (l0.length : Int) := qT qa4; obtain ⟨ad101, e101, hx101_0, hx101_1⟩ := at_T57 HR0.out x13_1 p101 q101
         cases e101
         replace p101 := eq_true p101; replace q101 := eq_true q101; have p102 : 0 ≤ (x13_1 : Int) := qT qa4; have q102 : x13_1 < (l1.length : Int) := qT qa4; obtain ⟨ad102, e102, hx102_0, hx102_1⟩ := at_T57 HR1.out x13_1 p102 q102
         cases e102
         replace p102 := eq_true p102; replace q102 := eq_true q102; go_wp2
         repeat (go_quiet (fail); try go_wp2)
         go_roundg k1
         case measure => have := HK1.out; omega
         case rel => exact ⟨(wrap64 (x13_1 + 1)), qa10, H', ⟨qa92⟩, qa25⟩
       ·rw [if_neg c7] at H
        exact absurd H qa79
      ·rw [if_neg c6] at H
       exact absurd H qa79
     ·rw [if_neg c5] at H
      exact absurd H qa79
    ·rw [if_neg c4] at H
     have c4b0 : decide (x13_1 < (l0.length : Int)) = false := decide_eq_false c4; clear c4; obtain rfl := Option.some.inj H; go_wp2
     repeat (go_quiet (fail); try go_wp2)
     go_ret
     exact ⟨qa10, qa25⟩
 ·rw [if_neg c3] at H
  have c3b0 : ((l0.length : Int) == (l1.length : Int)) = false := beq_eq_false_iff_ne.mpr c3; have c3b1 : ((l0.length : Int) != (l1.length : Int)) = true := bne_iff_ne.mpr c3; have c3b2 : (l0.length == l1.length) = false := by first | simpa using c3 | (simp at c3 ⊢; omega)
  obtain rfl := Option.some.inj H
  go_enter Try.func50, Try.ntmps50
  go_wp2
  repeat (go_quiet (fail); try go_wp2)
  go_ret
  exact ⟨qa10, qa25⟩


def impl_SameSchema_1_1.f (k : Nat) (a0_0 : ByteArray) (l0_1 : List (S57)) (a0_2 : ByteArray) (a0_3 : Bool) (a0_4 : Bool) (a1_0 : ByteArray) (l1_1 : List (S57)) (a1_2 : ByteArray) (a1_3 : Bool) (a1_4 : Bool) : Option (Bool) := if a0_0.toList = a1_0.toList then ((impl_ArgDef_50.f k l0_1 l1_1).bind fun t103 => (if t103 = true then (if a0_2.toList = a1_2.toList then (if (a0_3 == a1_3) = true then (some (a0_4 == a1_4)) else (some false)) else (some false)) else (some false))) else (some false)
set_option maxHeartbeats 8000000 in
set_option maxRecDepth 100000 in
theorem impl_SameSchema_1_1.calls (k : Nat) (a0_0 : ByteArray) (A0_1 : Option Addr) (c0_1 : Nat) (l0_1 : List (S57)) (a0_2 : ByteArray) (a0_3 : Bool) (a0_4 : Bool) (a1_0 : ByteArray) (A1_1 : Option Addr) (c1_1 : Nat) (l1_1 : List (S57)) (a1_2 : ByteArray) (a1_3 : Bool) (a1_4 : Bool) (r : Bool) (w : World) (hr0_1 : Kd.C k57 w A0_1 l0_1.length l0_1) (hc0_1 : l0_1.length ≤ c0_1) (hr1_1 : Kd.C k57 w A1_1 l1_1.length l1_1) (hc1_1 : l1_1.length ≤ c1_1) (h : impl_SameSchema_1_1.f k a0_0 l0_1 a0_2 a0_3 a0_4 a1_0 l1_1 a1_2 a1_3 a1_4 = some r) :
  Calls Try.prog 49 #[.agg #[.string a0_0, .slice A0_1 l0_1.length c0_1, .string a0_2, .bool a0_3, .bool a0_4], .agg #[.string a1_0, .slice A1_1 l1_1.length c1_1, .string a1_2, .bool a1_3, .bool a1_4]] w fun e w' => e = .returned (.bool r) ∧ Below w.heap.size w w' := by
 have hu38 := Try.underlying38; have HR0_1 := qO hr0_1; have HC0_1 := qO hc0_1; clear hr0_1 hc0_1; have HR1_1 := qO hr1_1; have HC1_1 := qO hc1_1; clear hr1_1 hc1_1; have HB := qO (Below.refl w.heap.size w); have H : (if a0_0.toList = a1_0.toList then ((impl_ArgDef_50.f k l0_1 l1_1).bind fun t103 => (if t103 = true then (if a0_2.toList = a1_2.toList then (if (a0_3 == a1_3) = true then (some (a0_4 == a1_4)) else (some false)) else (some false)) else (some false))) else (some false)) = some r := h; clear h
 by_cases c3 : a0_0.toList = a1_0.toList
 ·rw [if_pos c3] at H
  have c3b0 : (a0_0.toList == a1_0.toList) = true := beq_iff_eq.mpr c3; have c3b1 : (a0_0.toList != a1_0.toList) = false := bne_eq_false_iff_eq.mpr c3; clear c3; replace H := Option.bind_eq_some_iff.mp H; obtain ⟨t103, A40, H⟩ := H; replace H : (if t103 = true then (if a0_2.toList = a1_2.toList then (if (a0_3 == a1_3) = true then (some (a0_4 == a1_4)) else (some false)) else (some false)) else (some false)) = some r := H; have A4 := qO A40; clear A40
  by_cases c5 : t103 = true
  ·subst c5
   have H1 : (if a0_2.toList = a1_2.toList then (if (a0_3 == a1_3) = true then (some (a0_4 == a1_4)) else (some false)) else (some false)) = some r := by rw [if_pos rfl] at H; exact H
   clear H; have H := H1; clear H1
   by_cases c6 : a0_2.toList = a1_2.toList
   ·rw [if_pos c6] at H
    have c6b0 : (a0_2.toList == a1_2.toList) = true := beq_iff_eq.mpr c6; have c6b1 : (a0_2.toList != a1_2.toList) = false := bne_eq_false_iff_eq.mpr c6; clear c6
    by_cases c7 : (a0_3 == a1_3) = true
    ·rw [if_pos c7] at H
     have c7b0 : (a0_3 == a1_3) = true := c7; (try (have c7b1 : decide (a0_3 = a1_3) = true := by simpa using c7)); (try (have c7b2 : (a0_3 == a1_3) = true := by simpa using c7)); clear c7; obtain rfl := Option.some.inj H
     go_enter Try.func49, Try.ntmps49
     go_wp2_with (first | ((with_reducible refine gate_dst (N := 2) rfl ?_); refine box_event ?hg (N := 2) ?hd (cs := #[.string a0_0, .slice A0_1 l0_1.length c0_1, .string a0_2, .bool a0_3, .bool a0_4]) (t := 38) ?hr ?_; (case hd => rfl); (case hg => rfl); (case hr => exact qa18); intro gb101 hg w8 hbox hb; have hx_ := qHX HB hb qa0; have n0_ := qO (below_step (below_step HB.out hx_) hb); have n1_ := qO (hbox); have n2_ := qO ((qa11 : w.heap.size ≤ gb101)); have n3_ := n2_; clear HB; have HB := n0_; have BK101 := n1_; have GW101 := n2_; have GE101 := n3_; clear n0_ n1_ n2_ n3_; clear hx_; clear hb hbox hg) | ((with_reducible refine gate_dst (N := 3) rfl ?_); refine box_event ?hg (N := 3) ?hd (cs := #[.string a1_0, .slice A1_1 l1_1.length c1_1, .string a1_2, .bool a1_3, .bool a1_4]) (t := 38) ?hr ?_; (case hd => rfl); (case hg => rfl); (case hr => exact qa18); intro gb102 hg w9 hbox hb; have hx_ := qHX HB hb qa0; have n0_ := qO (qB BK101.out hx_ hb); have n1_ := qO (below_step (below_step HB.out hx_) hb); have n2_ := qO (hbox); have n3_ := qO ((qa11 : w.heap.size ≤ gb102)); have n4_ := n3_; have n5_ := qO ((qa20 : gb101 ≠ gb102)); have n6_ := qO (Ne.symm n5_.out); clear BK101; clear HB; have BK101 := n0_; have HB := n1_; have BK102 := n2_; have GW102 := n3_; have GE102 := n4_; have NB101_102 := n5_; have NB102_101 := n6_; clear n0_ n1_ n2_ n3_ n4_ n5_ n6_; clear hx_; clear hb hbox hg; have hnb10 := NB101_102.out; have hnc10 := NB102_101.out; have hcz11_0 : w9.cell? ⟨gb101, 0, none⟩ = some (.string a0_0) := (blk_cell BK101.out 0).trans rfl; have hcz11_1 : w9.cell? ⟨gb101, 1, none⟩ = some (.slice A0_1 l0_1.length c0_1) := (blk_cell BK101.out 1).trans rfl; have hcz11_2 : w9.cell? ⟨gb101, 2, none⟩ = some (.string a0_2) := (blk_cell BK101.out 2).trans rfl; have hcz11_3 : w9.cell? ⟨gb101, 3, none⟩ = some (.bool a0_3) := (blk_cell BK101.out 3).trans rfl; have hcz11_4 : w9.cell? ⟨gb101, 4, none⟩ = some (.bool a0_4) := (blk_cell BK101.out 4).trans rfl; have hfz11_0 := blk_frozen BK101.out 0; have hfz11_1 := blk_frozen BK101.out 1; have hfz11_2 := blk_frozen BK101.out 2; have hfz11_3 := blk_frozen BK101.out 3; have hfz11_4 := blk_frozen BK101.out 4; have hcz12_0 : w9.cell? ⟨gb102, 0, none⟩ = some (.string a1_0) := (blk_cell BK102.out 0).trans rfl; have hcz12_1 : w9.cell? ⟨gb102, 1, none⟩ = some (.slice A1_1 l1_1.length c1_1) := (blk_cell BK102.out 1).trans rfl; have hcz12_2 : w9.cell? ⟨gb102, 2, none⟩ = some (.string a1_2) := (blk_cell BK102.out 2).trans rfl; have hcz12_3 : w9.cell? ⟨gb102, 3, none⟩ = some (.bool a1_3) := (blk_cell BK102.out 3).trans rfl; have hcz12_4 : w9.cell? ⟨gb102, 4, none⟩ = some (.bool a1_4) := (blk_cell BK102.out 4).trans rfl; have hfz12_0 := blk_frozen BK102.out 0; have hfz12_1 := blk_frozen BK102.out 1; have hfz12_2 := blk_frozen BK102.out 2; have hfz12_3 := blk_frozen BK102.out 3; have hfz12_4 := blk_frozen BK102.out 4) | (go_at_call 50; (with_reducible refine (impl_ArgDef_50.calls k _ _ l0_1 _ _ l1_1 true _ ?side1 ?side2 ?side3 ?side4 A4.out).mono ?_); (case side1 => exact qa26); (case side2 => exact HC0_1.out); (case side3 => exact qa32); (case side4 => exact HC1_1.out); rintro e w' ⟨rfl, ⟨nd, rfl⟩⟩))
     go_ret
     exact ⟨qa3, qa8⟩
    ·rw [if_neg c7] at H
     have c7b0 : (a0_3 == a1_3) = false := by simpa using c7
     (try (have c7b1 : decide (a0_3 = a1_3) = false := by simpa using c7)); (try (have c7b2 : (a0_3 == a1_3) = false := by simpa using c7)); (try (have c7b3 : ¬ (a0_3 = a1_3) := by simpa using c7)); clear c7; obtain rfl := Option.some.inj H
     go_enter Try.func49, Try.ntmps49
     go_wp2_with (first | ((with_reducible refine gate_dst (N := 2) rfl ?_); refine box_event ?hg (N := 2) ?hd (cs := #[.string a0_0, .slice A0_1 l0_1.length c0_1, .string a0_2, .bool a0_3, .bool a0_4]) (t := 38) ?hr ?_; (case hd => rfl); (case hg => rfl); (case hr => exact qa18); intro gb101 hg w13 hbox hb; have hx_ := qHX HB hb qa0; have n0_ := qO (below_step (below_step HB.out hx_) hb); have n1_ := qO (hbox); have n2_ := qO ((qa11 : w.heap.size ≤ gb101)); have n3_ := n2_; clear HB; have HB := n0_; have BK101 := n1_; have GW101 := n2_; have GE101 := n3_; clear n0_ n1_ n2_ n3_; clear hx_; clear hb hbox hg) | ((with_reducible refine gate_dst (N := 3) rfl ?_); refine box_event ?hg (N := 3) ?hd (cs := #[.string a1_0, .slice A1_1 l1_1.length c1_1, .string a1_2, .bool a1_3, .bool a1_4]) (t := 38) ?hr ?_; (case hd => rfl); (case hg => rfl); (case hr => exact qa18); intro gb102 hg w14 hbox hb; have hx_ := qHX HB hb qa0; have n0_ := qO (qB BK101.out hx_ hb); have n1_ := qO (below_step (below_step HB.out hx_) hb); have n2_ := qO (hbox); have n3_ := qO ((qa11 : w.heap.size ≤ gb102)); have n4_ := n3_; have n5_ := qO ((qa20 : gb101 ≠ gb102)); have n6_ := qO (Ne.symm n5_.out); clear BK101; clear HB; have BK101 := n0_; have HB := n1_; have BK102 := n2_; have GW102 := n3_; have GE102 := n4_; have NB101_102 := n5_; have NB102_101 := n6_; clear n0_ n1_ n2_ n3_ n4_ n5_ n6_; clear hx_; clear hb hbox hg; have hnb15 := NB101_102.out; have hnc15 := NB102_101.out; have hcz16_0 : w14.cell? ⟨gb101, 0, none⟩ = some (.string a0_0) := (blk_cell BK101.out 0).trans rfl; have hcz16_1 : w14.cell? ⟨gb101, 1, none⟩ = some (.slice A0_1 l0_1.length c0_1) := (blk_cell BK101.out 1).trans rfl; have hcz16_2 : w14.cell? ⟨gb101, 2, none⟩ = some (.string a0_2) := (blk_cell BK101.out 2).trans rfl; have hcz16_3 : w14.cell? ⟨gb101, 3, none⟩ = some (.bool a0_3) := (blk_cell BK101.out 3).trans rfl; have hcz16_4 : w14.cell? ⟨gb101, 4, none⟩ = some (.bool a0_4) := (blk_cell BK101.out 4).trans rfl; have hfz16_0 := blk_frozen BK101.out 0; have hfz16_1 := blk_frozen BK101.out 1; have hfz16_2 := blk_frozen BK101.out 2; have hfz16_3 := blk_frozen BK101.out 3; have hfz16_4 := blk_frozen BK101.out 4; have hcz17_0 : w14.cell? ⟨gb102, 0, none⟩ = some (.string a1_0) := (blk_cell BK102.out 0).trans rfl; have hcz17_1 : w14.cell? ⟨gb102, 1, none⟩ = some (.slice A1_1 l1_1.length c1_1) := (blk_cell BK102.out 1).trans rfl; have hcz17_2 : w14.cell? ⟨gb102, 2, none⟩ = some (.string a1_2) := (blk_cell BK102.out 2).trans rfl; have hcz17_3 : w14.cell? ⟨gb102, 3, none⟩ = some (.bool a1_3) := (blk_cell BK102.out 3).trans rfl; have hcz17_4 : w14.cell? ⟨gb102, 4, none⟩ = some (.bool a1_4) := (blk_cell BK102.out 4).trans rfl; have hfz17_0 := blk_frozen BK102.out 0; have hfz17_1 := blk_frozen BK102.out 1; have hfz17_2 := blk_frozen BK102.out 2; have hfz17_3 := blk_frozen BK102.out 3; have hfz17_4 := blk_frozen BK102.out 4) | (go_at_call 50; (with_reducible refine (impl_ArgDef_50.calls k _ _ l0_1 _ _ l1_1 true _ ?side1 ?side2 ?side3 ?side4 A4.out).mono ?_); (case side1 => exact qa26); (case side2 => exact HC0_1.out); (case side3 => exact qa32); (case side4 => exact HC1_1.out); rintro e w' ⟨rfl, ⟨nd, rfl⟩⟩))
     go_ret
     exact ⟨qa3, qa8⟩
   ·rw [if_neg c6] at H
    have c6b0 : (a0_2.toList == a1_2.toList) = false := beq_eq_false_iff_ne.mpr c6; have c6b1 : (a0_2.toList != a1_2.toList) = true := bne_iff_ne.mpr c6; obtain rfl := Option.some.inj H
    go_enter Try.func49, Try.ntmps49
    go_wp2_with (first | ((with_reducible refine gate_dst (N := 2) rfl ?_); refine box_event ?hg (N := 2) ?hd (cs := #[.string a0_0, .slice A0_1 l0_1.length c0_1, .string a0_2, .bool a0_3, .bool a0_4]) (t := 38) ?hr ?_; (case hd => rfl); (case hg => rfl); (case hr => exact qa18); intro gb101 hg w18 hbox hb; have hx_ := qHX HB hb qa0; have n0_ := qO (below_step (below_step HB.out hx_) hb); have n1_ := qO (hbox); have n2_ := qO ((qa11 : w.heap.size ≤ gb101)); have n3_ := n2_; clear HB; have HB := n0_; have BK101 := n1_; have GW101 := n2_; have GE101 := n3_; clear n0_ n1_ n2_ n3_; clear hx_; clear hb hbox hg) | ((with_reducible refine gate_dst (N := 3) rfl ?_); refine box_event ?hg (N := 3) ?hd (cs := #[.string a1_0, .slice A1_1 l1_1.length c1_1, .string a1_2, .bool a1_3, .bool a1_4]) (t := 38) ?hr ?_; (case hd => rfl); (case hg => rfl); (case hr => exact qa18); intro gb102 hg w19 hbox hb; have hx_ := qHX HB hb qa0; have n0_ := qO (qB BK101.out hx_ hb); have n1_ := qO (below_step (below_step HB.out hx_) hb); have n2_ := qO (hbox); have n3_ := qO ((qa11 : w.heap.size ≤ gb102)); have n4_ := n3_; have n5_ := qO ((qa20 : gb101 ≠ gb102)); have n6_ := qO (Ne.symm n5_.out); clear BK101; clear HB; have BK101 := n0_; have HB := n1_; have BK102 := n2_; have GW102 := n3_; have GE102 := n4_; have NB101_102 := n5_; have NB102_101 := n6_; clear n0_ n1_ n2_ n3_ n4_ n5_ n6_; clear hx_; clear hb hbox hg; have hnb20 := NB101_102.out; have hnc20 := NB102_101.out; have hcz21_0 : w19.cell? ⟨gb101, 0, none⟩ = some (.string a0_0) := (blk_cell BK101.out 0).trans rfl; have hcz21_1 : w19.cell? ⟨gb101, 1, none⟩ = some (.slice A0_1 l0_1.length c0_1) := (blk_cell BK101.out 1).trans rfl; have hcz21_2 : w19.cell? ⟨gb101, 2, none⟩ = some (.string a0_2) := (blk_cell BK101.out 2).trans rfl; have hcz21_3 : w19.cell? ⟨gb101, 3, none⟩ = some (.bool a0_3) := (blk_cell BK101.out 3).trans rfl; have hcz21_4 : w19.cell? ⟨gb101, 4, none⟩ = some (.bool a0_4) := (blk_cell BK101.out 4).trans rfl; have hfz21_0 := blk_frozen BK101.out 0; have hfz21_1 := blk_frozen BK101.out 1; have hfz21_2 := blk_frozen BK101.out 2; have hfz21_3 := blk_frozen BK101.out 3; have hfz21_4 := blk_frozen BK101.out 4; have hcz22_0 : w19.cell? ⟨gb102, 0, none⟩ = some (.string a1_0) := (blk_cell BK102.out 0).trans rfl; have hcz22_1 : w19.cell? ⟨gb102, 1, none⟩ = some (.slice A1_1 l1_1.length c1_1) := (blk_cell BK102.out 1).trans rfl; have hcz22_2 : w19.cell? ⟨gb102, 2, none⟩ = some (.string a1_2) := (blk_cell BK102.out 2).trans rfl; have hcz22_3 : w19.cell? ⟨gb102, 3, none⟩ = some (.bool a1_3) := (blk_cell BK102.out 3).trans rfl; have hcz22_4 : w19.cell? ⟨gb102, 4, none⟩ = some (.bool a1_4) := (blk_cell BK102.out 4).trans rfl; have hfz22_0 := blk_frozen BK102.out 0; have hfz22_1 := blk_frozen BK102.out 1; have hfz22_2 := blk_frozen BK102.out 2; have hfz22_3 := blk_frozen BK102.out 3; have hfz22_4 := blk_frozen BK102.out 4) | (go_at_call 50; (with_reducible refine (impl_ArgDef_50.calls k _ _ l0_1 _ _ l1_1 true _ ?side1 ?side2 ?side3 ?side4 A4.out).mono ?_); (case side1 => exact qa26); (case side2 => exact HC0_1.out); (case side3 => exact qa32); (case side4 => exact HC1_1.out); rintro e w' ⟨rfl, ⟨nd, rfl⟩⟩))
    go_ret
    exact ⟨qa3, qa8⟩
  ·replace c5 := Bool.eq_false_iff.mpr c5
   subst c5; have H1 : (some false) = some r := by rw [if_neg (show ¬ (false = true) by decide)] at H; exact H
   clear H; have H := H1; clear H1; obtain rfl := Option.some.inj H
   go_enter Try.func49, Try.ntmps49
   go_wp2_with (first | ((with_reducible refine gate_dst (N := 2) rfl ?_); refine box_event ?hg (N := 2) ?hd (cs := #[.string a0_0, .slice A0_1 l0_1.length c0_1, .string a0_2, .bool a0_3, .bool a0_4]) (t := 38) ?hr ?_; (case hd => rfl); (case hg => rfl); (case hr => exact qa18); intro gb101 hg w23 hbox hb; have hx_ := qHX HB hb qa0; have n0_ := qO (below_step (below_step HB.out hx_) hb); have n1_ := qO (hbox); have n2_ := qO ((qa11 : w.heap.size ≤ gb101)); have n3_ := n2_; clear HB; have HB := n0_; have BK101 := n1_; have GW101 := n2_; have GE101 := n3_; clear n0_ n1_ n2_ n3_; clear hx_; clear hb hbox hg) | ((with_reducible refine gate_dst (N := 3) rfl ?_); refine box_event ?hg (N := 3) ?hd (cs := #[.string a1_0, .slice A1_1 l1_1.length c1_1, .string a1_2, .bool a1_3, .bool a1_4]) (t := 38) ?hr ?_; (case hd => rfl); (case hg => rfl); (case hr => exact qa18); intro gb102 hg w24 hbox hb; have hx_ := qHX HB hb qa0; have n0_ := qO (qB BK101.out hx_ hb); have n1_ := qO (below_step (below_step HB.out hx_) hb); have n2_ := qO (hbox); have n3_ := qO ((qa11 : w.heap.size ≤ gb102)); have n4_ := n3_; have n5_ := qO ((qa20 : gb101 ≠ gb102)); have n6_ := qO (Ne.symm n5_.out); clear BK101; clear HB; have BK101 := n0_; have HB := n1_; have BK102 := n2_; have GW102 := n3_; have GE102 := n4_; have NB101_102 := n5_; have NB102_101 := n6_; clear n0_ n1_ n2_ n3_ n4_ n5_ n6_; clear hx_; clear hb hbox hg; have hnb25 := NB101_102.out; have hnc25 := NB102_101.out; have hcz26_0 : w24.cell? ⟨gb101, 0, none⟩ = some (.string a0_0) := (blk_cell BK101.out 0).trans rfl; have hcz26_1 : w24.cell? ⟨gb101, 1, none⟩ = some (.slice A0_1 l0_1.length c0_1) := (blk_cell BK101.out 1).trans rfl; have hcz26_2 : w24.cell? ⟨gb101, 2, none⟩ = some (.string a0_2) := (blk_cell BK101.out 2).trans rfl; have hcz26_3 : w24.cell? ⟨gb101, 3, none⟩ = some (.bool a0_3) := (blk_cell BK101.out 3).trans rfl; have hcz26_4 : w24.cell? ⟨gb101, 4, none⟩ = some (.bool a0_4) := (blk_cell BK101.out 4).trans rfl; have hfz26_0 := blk_frozen BK101.out 0; have hfz26_1 := blk_frozen BK101.out 1; have hfz26_2 := blk_frozen BK101.out 2; have hfz26_3 := blk_frozen BK101.out 3; have hfz26_4 := blk_frozen BK101.out 4; have hcz27_0 : w24.cell? ⟨gb102, 0, none⟩ = some (.string a1_0) := (blk_cell BK102.out 0).trans rfl; have hcz27_1 : w24.cell? ⟨gb102, 1, none⟩ = some (.slice A1_1 l1_1.length c1_1) := (blk_cell BK102.out 1).trans rfl; have hcz27_2 : w24.cell? ⟨gb102, 2, none⟩ = some (.string a1_2) := (blk_cell BK102.out 2).trans rfl; have hcz27_3 : w24.cell? ⟨gb102, 3, none⟩ = some (.bool a1_3) := (blk_cell BK102.out 3).trans rfl; have hcz27_4 : w24.cell? ⟨gb102, 4, none⟩ = some (.bool a1_4) := (blk_cell BK102.out 4).trans rfl; have hfz27_0 := blk_frozen BK102.out 0; have hfz27_1 := blk_frozen BK102.out 1; have hfz27_2 := blk_frozen BK102.out 2; have hfz27_3 := blk_frozen BK102.out 3; have hfz27_4 := blk_frozen BK102.out 4) | (go_at_call 50; (with_reducible refine (impl_ArgDef_50.calls k _ _ l0_1 _ _ l1_1 false _ ?side1 ?side2 ?side3 ?side4 A4.out).mono ?_); (case side1 => exact qa26); (case side2 => exact HC0_1.out); (case side3 => exact qa32); (case side4 => exact HC1_1.out); rintro e w' ⟨rfl, ⟨nd, rfl⟩⟩))
   go_ret
   exact ⟨qa3, qa8⟩
 ·rw [if_neg c3] at H
  have c3b0 : (a0_0.toList == a1_0.toList) = false := beq_eq_false_iff_ne.mpr c3; have c3b1 : (a0_0.toList != a1_0.toList) = true := bne_iff_ne.mpr c3; obtain rfl := Option.some.inj H
  go_enter Try.func49, Try.ntmps49
  go_wp2_with (first | ((with_reducible refine gate_dst (N := 2) rfl ?_); refine box_event ?hg (N := 2) ?hd (cs := #[.string a0_0, .slice A0_1 l0_1.length c0_1, .string a0_2, .bool a0_3, .bool a0_4]) (t := 38) ?hr ?_; (case hd => rfl); (case hg => rfl); (case hr => exact qa18); intro gb101 hg w28 hbox hb; have hx_ := qHX HB hb qa0; have n0_ := qO (below_step (below_step HB.out hx_) hb); have n1_ := qO (hbox); have n2_ := qO ((qa11 : w.heap.size ≤ gb101)); have n3_ := n2_; clear HB; have HB := n0_; have BK101 := n1_; have GW101 := n2_; have GE101 := n3_; clear n0_ n1_ n2_ n3_; clear hx_; clear hb hbox hg) | ((with_reducible refine gate_dst (N := 3) rfl ?_); refine box_event ?hg (N := 3) ?hd (cs := #[.string a1_0, .slice A1_1 l1_1.length c1_1, .string a1_2, .bool a1_3, .bool a1_4]) (t := 38) ?hr ?_; (case hd => rfl); (case hg => rfl); (case hr => exact qa18); intro gb102 hg w29 hbox hb; have hx_ := qHX HB hb qa0; have n0_ := qO (qB BK101.out hx_ hb); have n1_ := qO (below_step (below_step HB.out hx_) hb); have n2_ := qO (hbox); have n3_ := qO ((qa11 : w.heap.size ≤ gb102)); have n4_ := n3_; have n5_ := qO ((qa20 : gb101 ≠ gb102)); have n6_ := qO (Ne.symm n5_.out); clear BK101; clear HB; have BK101 := n0_; have HB := n1_; have BK102 := n2_; have GW102 := n3_; have GE102 := n4_; have NB101_102 := n5_; have NB102_101 := n6_; clear n0_ n1_ n2_ n3_ n4_ n5_ n6_; clear hx_; clear hb hbox hg; have hnb30 := NB101_102.out; have hnc30 := NB102_101.out; have hcz31_0 : w29.cell? ⟨gb101, 0, none⟩ = some (.string a0_0) := (blk_cell BK101.out 0).trans rfl; have hcz31_1 : w29.cell? ⟨gb101, 1, none⟩ = some (.slice A0_1 l0_1.length c0_1) := (blk_cell BK101.out 1).trans rfl; have hcz31_2 : w29.cell? ⟨gb101, 2, none⟩ = some (.string a0_2) := (blk_cell BK101.out 2).trans rfl; have hcz31_3 : w29.cell? ⟨gb101, 3, none⟩ = some (.bool a0_3) := (blk_cell BK101.out 3).trans rfl; have hcz31_4 : w29.cell? ⟨gb101, 4, none⟩ = some (.bool a0_4) := (blk_cell BK101.out 4).trans rfl; have hfz31_0 := blk_frozen BK101.out 0; have hfz31_1 := blk_frozen BK101.out 1; have hfz31_2 := blk_frozen BK101.out 2; have hfz31_3 := blk_frozen BK101.out 3; have hfz31_4 := blk_frozen BK101.out 4; have hcz32_0 : w29.cell? ⟨gb102, 0, none⟩ = some (.string a1_0) := (blk_cell BK102.out 0).trans rfl; have hcz32_1 : w29.cell? ⟨gb102, 1, none⟩ = some (.slice A1_1 l1_1.length c1_1) := (blk_cell BK102.out 1).trans rfl; have hcz32_2 : w29.cell? ⟨gb102, 2, none⟩ = some (.string a1_2) := (blk_cell BK102.out 2).trans rfl; have hcz32_3 : w29.cell? ⟨gb102, 3, none⟩ = some (.bool a1_3) := (blk_cell BK102.out 3).trans rfl; have hcz32_4 : w29.cell? ⟨gb102, 4, none⟩ = some (.bool a1_4) := (blk_cell BK102.out 4).trans rfl; have hfz32_0 := blk_frozen BK102.out 0; have hfz32_1 := blk_frozen BK102.out 1; have hfz32_2 := blk_frozen BK102.out 2; have hfz32_3 := blk_frozen BK102.out 3; have hfz32_4 := blk_frozen BK102.out 4))
  go_ret
  exact ⟨qa3, qa8⟩


def eqf48_49.f (k : Nat) (l0 l1 : List (S38)) : Option Bool := impl_FieldDef_48.fq (fun x y => impl_SameSchema_1_1.f k (x.f0) (x.f1) (x.f2) (x.f3) (x.f4) (y.f0) (y.f1) (y.f2) (y.f3) (y.f4)) l0 l1
theorem eqf48_49.calls (k : Nat) (A0 : Option Addr) (c0 : Nat) (l0 : List (S38)) (A1 : Option Addr) (c1 : Nat) (l1 : List (S38)) (r : Bool) (w : World) (hr0 : Kd.C k38 w A0 l0.length l0) (hc0 : l0.length ≤ c0) (hr1 : Kd.C k38 w A1 l1.length l1) (hc1 : l1.length ≤ c1) (h : eqf48_49.f k l0 l1 = some r) :
  Calls Try.prog 48 #[.slice A0 l0.length c0, .slice A1 l1.length c1, .func (.func 49) #[] #[]] w fun e w' => e = .returned (.bool r) ∧ Below w.heap.size w w' := by
 have eg : ∀ args w, (callFunc 49 args).run Try.prog w = .ok (.enter 49 args) w := enters_of Try.func49 qa16 rfl
 exact impl_FieldDef_48.callsP A0 c0 l0 A1 c1 l1 49 #[] (fun x y => impl_SameSchema_1_1.f k (x.f0) (x.f1) (x.f2) (x.f3) (x.f4) (y.f0) (y.f1) (y.f2) (y.f3) (y.f4)) r w eg hr0 hr1 (fun W x y E1 e1 F1 f1 b _ hx1 gx1 hy1 gy1 hq => impl_SameSchema_1_1.calls k (x.f0) E1 e1 (x.f1) (x.f2) (x.f3) (x.f4) (y.f0) F1 f1 (y.f1) (y.f2) (y.f3) (y.f4) b W gx1 hx1 gy1 hy1 hq) h
def impl_SameSchema_1.f (k : Nat) (a0_0 : ByteArray) (l0_1 : List (S38)) (a1_0 : ByteArray) (l1_1 : List (S38)) : Option (Bool) := if a0_0.toList = a1_0.toList then ((eqf48_49.f k l0_1 l1_1).bind fun t103 => (some t103)) else (some false)
set_option maxHeartbeats 8000000 in
set_option maxRecDepth 100000 in
theorem impl_SameSchema_1.calls (k : Nat) (a0_0 : ByteArray) (A0_1 : Option Addr) (c0_1 : Nat) (l0_1 : List (S38)) (a1_0 : ByteArray) (A1_1 : Option Addr) (c1_1 : Nat) (l1_1 : List (S38)) (r : Bool) (w : World) (hr0_1 : Kd.C k38 w A0_1 l0_1.length l0_1) (hc0_1 : l0_1.length ≤ c0_1) (hr1_1 : Kd.C k38 w A1_1 l1_1.length l1_1) (hc1_1 : l1_1.length ≤ c1_1) (h : impl_SameSchema_1.f k a0_0 l0_1 a1_0 l1_1 = some r) :
  Calls Try.prog 47 #[.agg #[.string a0_0, .slice A0_1 l0_1.length c0_1], .agg #[.string a1_0, .slice A1_1 l1_1.length c1_1]] w fun e w' => e = .returned (.bool r) ∧ Below w.heap.size w w' := by
 have hu53 := Try.underlying53; have HR0_1 := qO hr0_1; have HC0_1 := qO hc0_1; clear hr0_1 hc0_1; have HR1_1 := qO hr1_1; have HC1_1 := qO hc1_1; clear hr1_1 hc1_1; have HB := qO (Below.refl w.heap.size w); have H : (if a0_0.toList = a1_0.toList then ((eqf48_49.f k l0_1 l1_1).bind fun t103 => (some t103)) else (some false)) = some r := h; clear h
 by_cases c3 : a0_0.toList = a1_0.toList
 ·rw [if_pos c3] at H
  have c3b0 : (a0_0.toList == a1_0.toList) = true := beq_iff_eq.mpr c3; have c3b1 : (a0_0.toList != a1_0.toList) = false := bne_eq_false_iff_eq.mpr c3; clear c3; replace H := Option.bind_eq_some_iff.mp H; obtain ⟨t103, A40, H⟩ := H; replace H : (some t103) = some r := H; have A4 := qO A40; clear A40; obtain rfl := Option.some.inj H
  go_enter Try.func47, Try.ntmps47
  go_wp2_with (first | ((with_reducible refine gate_dst (N := 2) rfl ?_); refine box_event ?hg (N := 2) ?hd (cs := #[.string a0_0, .slice A0_1 l0_1.length c0_1]) (t := 53) ?hr ?_; (case hd => rfl); (case hg => rfl); (case hr => exact qa18); intro gb101 hg w5 hbox hb; have hx_ := qHX HB hb qa0; have n0_ := qO (below_step (below_step HB.out hx_) hb); have n1_ := qO (hbox); have n2_ := qO ((qa11 : w.heap.size ≤ gb101)); have n3_ := n2_; clear HB; have HB := n0_; have BK101 := n1_; have GW101 := n2_; have GE101 := n3_; clear n0_ n1_ n2_ n3_; clear hx_; clear hb hbox hg) | ((with_reducible refine gate_dst (N := 3) rfl ?_); refine box_event ?hg (N := 3) ?hd (cs := #[.string a1_0, .slice A1_1 l1_1.length c1_1]) (t := 53) ?hr ?_; (case hd => rfl); (case hg => rfl); (case hr => exact qa18); intro gb102 hg w6 hbox hb; have hx_ := qHX HB hb qa0; have n0_ := qO (qB BK101.out hx_ hb); have n1_ := qO (below_step (below_step HB.out hx_) hb); have n2_ := qO (hbox); have n3_ := qO ((qa11 : w.heap.size ≤ gb102)); have n4_ := n3_; have n5_ := qO ((qa38 : gb101 ≠ gb102)); have n6_ := qO (Ne.symm n5_.out); clear BK101; clear HB; have BK101 := n0_; have HB := n1_; have BK102 := n2_; have GW102 := n3_; have GE102 := n4_; have NB101_102 := n5_; have NB102_101 := n6_; clear n0_ n1_ n2_ n3_ n4_ n5_ n6_; clear hx_; clear hb hbox hg; have hnb7 := NB101_102.out; have hnc7 := NB102_101.out; have hcz8_0 : w6.cell? ⟨gb101, 0, none⟩ = some (.string a0_0) := (blk_cell BK101.out 0).trans rfl; have hcz8_1 : w6.cell? ⟨gb101, 1, none⟩ = some (.slice A0_1 l0_1.length c0_1) := (blk_cell BK101.out 1).trans rfl; have hfz8_0 := blk_frozen BK101.out 0; have hfz8_1 := blk_frozen BK101.out 1; have hcz9_0 : w6.cell? ⟨gb102, 0, none⟩ = some (.string a1_0) := (blk_cell BK102.out 0).trans rfl; have hcz9_1 : w6.cell? ⟨gb102, 1, none⟩ = some (.slice A1_1 l1_1.length c1_1) := (blk_cell BK102.out 1).trans rfl; have hfz9_0 := blk_frozen BK102.out 0; have hfz9_1 := blk_frozen BK102.out 1) | (go_at_call 48; (with_reducible refine (eqf48_49.calls k _ _ l0_1 _ _ l1_1 t103 _ ?side1 ?side2 ?side3 ?side4 A4.out).mono ?_); (case side1 => exact qa26); (case side2 => exact HC0_1.out); (case side3 => exact qa32); (case side4 => exact HC1_1.out); rintro e w10 ⟨rfl, hb⟩; have hx_ := qHX HB hb qa0; have n0_ := qO (qB BK101.out hx_ hb); have n1_ := qO (qB BK102.out hx_ hb); have n2_ := qO (below_step (below_step HB.out hx_) hb); clear BK101; clear BK102; clear HB; have BK101 := n0_; have BK102 := n1_; have HB := n2_; clear n0_ n1_ n2_; clear hx_; (try clear hb); (try clear hb2); (try clear hk); (try clear hi)))
  go_ret
  exact ⟨qa3, qa8⟩
 ·rw [if_neg c3] at H
  have c3b0 : (a0_0.toList == a1_0.toList) = false := beq_eq_false_iff_ne.mpr c3; have c3b1 : (a0_0.toList != a1_0.toList) = true := bne_iff_ne.mpr c3; obtain rfl := Option.some.inj H
  go_enter Try.func47, Try.ntmps47
  go_wp2_with (first | ((with_reducible refine gate_dst (N := 2) rfl ?_); refine box_event ?hg (N := 2) ?hd (cs := #[.string a0_0, .slice A0_1 l0_1.length c0_1]) (t := 53) ?hr ?_; (case hd => rfl); (case hg => rfl); (case hr => exact qa18); intro gb101 hg w11 hbox hb; have hx_ := qHX HB hb qa0; have n0_ := qO (below_step (below_step HB.out hx_) hb); have n1_ := qO (hbox); have n2_ := qO ((qa11 : w.heap.size ≤ gb101)); have n3_ := n2_; clear HB; have HB := n0_; have BK101 := n1_; have GW101 := n2_; have GE101 := n3_; clear n0_ n1_ n2_ n3_; clear hx_; clear hb hbox hg) | ((with_reducible refine gate_dst (N := 3) rfl ?_); refine box_event ?hg (N := 3) ?hd (cs := #[.string a1_0, .slice A1_1 l1_1.length c1_1]) (t := 53) ?hr ?_; (case hd => rfl); (case hg => rfl); (case hr => exact qa18); intro gb102 hg w12 hbox hb; have hx_ := qHX HB hb qa0; have n0_ := qO (qB BK101.out hx_ hb); have n1_ := qO (below_step (below_step HB.out hx_) hb); have n2_ := qO (hbox); have n3_ := qO ((qa11 : w.heap.size ≤ gb102)); have n4_ := n3_; have n5_ := qO ((qa38 : gb101 ≠ gb102)); have n6_ := qO (Ne.symm n5_.out); clear BK101; clear HB; have BK101 := n0_; have HB := n1_; have BK102 := n2_; have GW102 := n3_; have GE102 := n4_; have NB101_102 := n5_; have NB102_101 := n6_; clear n0_ n1_ n2_ n3_ n4_ n5_ n6_; clear hx_; clear hb hbox hg; have hnb13 := NB101_102.out; have hnc13 := NB102_101.out; have hcz14_0 : w12.cell? ⟨gb101, 0, none⟩ = some (.string a0_0) := (blk_cell BK101.out 0).trans rfl; have hcz14_1 : w12.cell? ⟨gb101, 1, none⟩ = some (.slice A0_1 l0_1.length c0_1) := (blk_cell BK101.out 1).trans rfl; have hfz14_0 := blk_frozen BK101.out 0; have hfz14_1 := blk_frozen BK101.out 1; have hcz15_0 : w12.cell? ⟨gb102, 0, none⟩ = some (.string a1_0) := (blk_cell BK102.out 0).trans rfl; have hcz15_1 : w12.cell? ⟨gb102, 1, none⟩ = some (.slice A1_1 l1_1.length c1_1) := (blk_cell BK102.out 1).trans rfl; have hfz15_0 := blk_frozen BK102.out 0; have hfz15_1 := blk_frozen BK102.out 1))
  go_ret
  exact ⟨qa3, qa8⟩


def eqf46_47.f (k : Nat) (l0 l1 : List (S53)) : Option Bool := impl_TypeDef_46.fq (fun x y => impl_SameSchema_1.f k (x.f0) (x.f1) (y.f0) (y.f1)) l0 l1
theorem eqf46_47.calls (k : Nat) (A0 : Option Addr) (c0 : Nat) (l0 : List (S53)) (A1 : Option Addr) (c1 : Nat) (l1 : List (S53)) (r : Bool) (w : World) (hr0 : Kd.C k53 w A0 l0.length l0) (hc0 : l0.length ≤ c0) (hr1 : Kd.C k53 w A1 l1.length l1) (hc1 : l1.length ≤ c1) (h : eqf46_47.f k l0 l1 = some r) :
  Calls Try.prog 46 #[.slice A0 l0.length c0, .slice A1 l1.length c1, .func (.func 47) #[] #[]] w fun e w' => e = .returned (.bool r) ∧ Below w.heap.size w w' := by
 have eg : ∀ args w, (callFunc 47 args).run Try.prog w = .ok (.enter 47 args) w := enters_of Try.func47 qa16 rfl
 exact impl_TypeDef_46.callsP A0 c0 l0 A1 c1 l1 47 #[] (fun x y => impl_SameSchema_1.f k (x.f0) (x.f1) (y.f0) (y.f1)) r w eg hr0 hr1 (fun W x y E1 e1 F1 f1 b _ hx1 gx1 hy1 gy1 hq => impl_SameSchema_1.calls k (x.f0) E1 e1 (x.f1) (y.f0) F1 f1 (y.f1) b W gx1 hx1 gy1 hy1 hq) h
def impl_SameSchema.f (k : Nat) (l0_0 : List (S53)) (l1_0 : List (S53)) : Option (Bool) := (impl_SchemaOK.f k l0_0).bind fun t103 => (if t103 = true then ((impl_SchemaOK.f k l1_0).bind fun t104 => (if t104 = true then ((eqf46_47.f k l0_0 l1_0).bind fun t105 => (some t105)) else (some false))) else (some false))
set_option maxHeartbeats 8000000 in
set_option maxRecDepth 100000 in
theorem impl_SameSchema.calls (k : Nat) (A0_0 : Option Addr) (c0_0 : Nat) (l0_0 : List (S53)) (A1_0 : Option Addr) (c1_0 : Nat) (l1_0 : List (S53)) (r : Bool) (w : World) (hr0_0 : Kd.C k53 w A0_0 l0_0.length l0_0) (hc0_0 : l0_0.length ≤ c0_0) (hr1_0 : Kd.C k53 w A1_0 l1_0.length l1_0) (hc1_0 : l1_0.length ≤ c1_0) (h : impl_SameSchema.f k l0_0 l1_0 = some r) :
  Calls Try.prog 22 #[.agg #[.slice A0_0 l0_0.length c0_0], .agg #[.slice A1_0 l1_0.length c1_0]] w fun e w' => e = .returned (.bool r) ∧ Below w.heap.size w w' := by
 have hu29 := Try.underlying29; have HR0_0 := qO hr0_0; have HC0_0 := qO hc0_0; clear hr0_0 hc0_0; have HR1_0 := qO hr1_0; have HC1_0 := qO hc1_0; clear hr1_0 hc1_0; have HB := qO (Below.refl w.heap.size w); have H : ((impl_SchemaOK.f k l0_0).bind fun t103 => (if t103 = true then ((impl_SchemaOK.f k l1_0).bind fun t104 => (if t104 = true then ((eqf46_47.f k l0_0 l1_0).bind fun t105 => (some t105)) else (some false))) else (some false))) = some r := h; clear h; replace H := Option.bind_eq_some_iff.mp H; obtain ⟨t103, A30, H⟩ := H; replace H : (if t103 = true then ((impl_SchemaOK.f k l1_0).bind fun t104 => (if t104 = true then ((eqf46_47.f k l0_0 l1_0).bind fun t105 => (some t105)) else (some false))) else (some false)) = some r := H; have A3 := qO A30; clear A30
 by_cases c4 : t103 = true
 ·subst c4
  have H1 : ((impl_SchemaOK.f k l1_0).bind fun t104 => (if t104 = true then ((eqf46_47.f k l0_0 l1_0).bind fun t105 => (some t105)) else (some false))) = some r := by rw [if_pos rfl] at H; exact H
  clear H; have H := H1; clear H1; replace H := Option.bind_eq_some_iff.mp H; obtain ⟨t104, A50, H⟩ := H; replace H : (if t104 = true then ((eqf46_47.f k l0_0 l1_0).bind fun t105 => (some t105)) else (some false)) = some r := H; have A5 := qO A50; clear A50
  by_cases c6 : t104 = true
  ·subst c6
   have H1 : ((eqf46_47.f k l0_0 l1_0).bind fun t105 => (some t105)) = some r := by rw [if_pos rfl] at H; exact H
   clear H; have H := H1; clear H1; replace H := Option.bind_eq_some_iff.mp H; obtain ⟨t105, A70, H⟩ := H; replace H : (some t105) = some r := H; have A7 := qO A70; clear A70; obtain rfl := Option.some.inj H
   go_enter Try.func22, Try.ntmps22
   go_wp2_with (first | ((with_reducible refine gate_dst (N := 2) rfl ?_); refine box_event ?hg (N := 2) ?hd (cs := #[.slice A0_0 l0_0.length c0_0]) (t := 29) ?hr ?_; (case hd => rfl); (case hg => rfl); (case hr => exact qa18); intro gb101 hg w8 hbox hb; have hx_ := qHX HB hb qa0; have n0_ := qO (below_step (below_step HB.out hx_) hb); have n1_ := qO (hbox); have n2_ := qO ((qa11 : w.heap.size ≤ gb101)); have n3_ := n2_; clear HB; have HB := n0_; have BK101 := n1_; have GW101 := n2_; have GE101 := n3_; clear n0_ n1_ n2_ n3_; clear hx_; clear hb hbox hg) | ((with_reducible refine gate_dst (N := 3) rfl ?_); refine box_event ?hg (N := 3) ?hd (cs := #[.slice A1_0 l1_0.length c1_0]) (t := 29) ?hr ?_; (case hd => rfl); (case hg => rfl); (case hr => exact qa18); intro gb102 hg w9 hbox hb; have hx_ := qHX HB hb qa0; have n0_ := qO (qB BK101.out hx_ hb); have n1_ := qO (below_step (below_step HB.out hx_) hb); have n2_ := qO (hbox); have n3_ := qO ((qa11 : w.heap.size ≤ gb102)); have n4_ := n3_; have n5_ := qO ((qa23 : gb101 ≠ gb102)); have n6_ := qO (Ne.symm n5_.out); clear BK101; clear HB; have BK101 := n0_; have HB := n1_; have BK102 := n2_; have GW102 := n3_; have GE102 := n4_; have NB101_102 := n5_; have NB102_101 := n6_; clear n0_ n1_ n2_ n3_ n4_ n5_ n6_; clear hx_; clear hb hbox hg; have hnb10 := NB101_102.out; have hnc10 := NB102_101.out; have hcz11_0 : w9.cell? ⟨gb101, 0, none⟩ = some (.slice A0_0 l0_0.length c0_0) := (blk_cell BK101.out 0).trans rfl; have hfz11_0 := blk_frozen BK101.out 0) | ((with_reducible refine gate_callee (f := 11) rfl ?_); refine goesL_ (some 6) rfl rfl Try.func11 qa16 rfl #[.agg #[.slice A0_0 l0_0.length c0_0]] rfl qa1 ?_; (with_reducible refine (impl_SchemaOK.calls k _ _ l0_0 true _ ?side1 ?side2 A3.out).mono ?_); (case side1 => exact qa21); (case side2 => exact HC0_0.out); rintro e w12 ⟨rfl, hb⟩; have hx_ := qHX HB hb qa0; refine ⟨_, rfl, ?_⟩; have n0_ := qO (qB BK101.out hx_ hb); have n1_ := qO (qB BK102.out hx_ hb); have n2_ := qO (below_step (below_step HB.out hx_) hb); clear BK101; clear BK102; clear HB; have BK101 := n0_; have BK102 := n1_; have HB := n2_; clear n0_ n1_ n2_; clear hx_; (try clear hb); (try clear hb2); (try clear hk); (try clear hi); have hcz13_0 : w12.cell? ⟨gb102, 0, none⟩ = some (.slice A1_0 l1_0.length c1_0) := (blk_cell BK102.out 0).trans rfl; have hfz13_0 := blk_frozen BK102.out 0) | (go_at_call 11; (with_reducible refine (impl_SchemaOK.calls k _ _ l1_0 true _ ?side1 ?side2 A5.out).mono ?_); (case side1 => exact qa33); (case side2 => exact HC1_0.out); rintro e w14 ⟨rfl, hb⟩; have hx_ := qHX HB hb qa0; have n0_ := qO (qB BK101.out hx_ hb); have n1_ := qO (qB BK102.out hx_ hb); have n2_ := qO (below_step (below_step HB.out hx_) hb); clear BK101; clear BK102; clear HB; have BK101 := n0_; have BK102 := n1_; have HB := n2_; clear n0_ n1_ n2_; clear hx_; (try clear hb); (try clear hb2); (try clear hk); (try clear hi); have hcz15_0 : w14.cell? ⟨gb101, 0, none⟩ = some (.slice A0_0 l0_0.length c0_0) := (blk_cell BK101.out 0).trans rfl; have hfz15_0 := blk_frozen BK101.out 0; have hcz16_0 : w14.cell? ⟨gb102, 0, none⟩ = some (.slice A1_0 l1_0.length c1_0) := (blk_cell BK102.out 0).trans rfl; have hfz16_0 := blk_frozen BK102.out 0) | (go_at_call 46; (with_reducible refine (eqf46_47.calls k _ _ l0_0 _ _ l1_0 t105 _ ?side1 ?side2 ?side3 ?side4 A7.out).mono ?_); (case side1 => exact qa21); (case side2 => exact HC0_0.out); (case side3 => exact qa33); (case side4 => exact HC1_0.out); rintro e w17 ⟨rfl, hb⟩; have hx_ := qHX HB hb qa0; have n0_ := qO (qB BK101.out hx_ hb); have n1_ := qO (qB BK102.out hx_ hb); have n2_ := qO (below_step (below_step HB.out hx_) hb); clear BK101; clear BK102; clear HB; have BK101 := n0_; have BK102 := n1_; have HB := n2_; clear n0_ n1_ n2_; clear hx_; (try clear hb); (try clear hb2); (try clear hk); (try clear hi)))
   go_ret
   exact ⟨qa3, qa8⟩
  ·replace c6 := Bool.eq_false_iff.mpr c6
   subst c6; have H1 : (some false) = some r := by rw [if_neg (show ¬ (false = true) by decide)] at H; exact H
   clear H; have H := H1; clear H1; obtain rfl := Option.some.inj H
   go_enter Try.func22, Try.ntmps22
   go_wp2_with (first | ((with_reducible refine gate_dst (N := 2) rfl ?_); refine box_event ?hg (N := 2) ?hd (cs := #[.slice A0_0 l0_0.length c0_0]) (t := 29) ?hr ?_; (case hd => rfl); (case hg => rfl); (case hr => exact qa18); intro gb101 hg w18 hbox hb; have hx_ := qHX HB hb qa0; have n0_ := qO (below_step (below_step HB.out hx_) hb); have n1_ := qO (hbox); have n2_ := qO ((qa11 : w.heap.size ≤ gb101)); have n3_ := n2_; clear HB; have HB := n0_; have BK101 := n1_; have GW101 := n2_; have GE101 := n3_; clear n0_ n1_ n2_ n3_; clear hx_; clear hb hbox hg) | ((with_reducible refine gate_dst (N := 3) rfl ?_); refine box_event ?hg (N := 3) ?hd (cs := #[.slice A1_0 l1_0.length c1_0]) (t := 29) ?hr ?_; (case hd => rfl); (case hg => rfl); (case hr => exact qa18); intro gb102 hg w19 hbox hb; have hx_ := qHX HB hb qa0; have n0_ := qO (qB BK101.out hx_ hb); have n1_ := qO (below_step (below_step HB.out hx_) hb); have n2_ := qO (hbox); have n3_ := qO ((qa11 : w.heap.size ≤ gb102)); have n4_ := n3_; have n5_ := qO ((qa23 : gb101 ≠ gb102)); have n6_ := qO (Ne.symm n5_.out); clear BK101; clear HB; have BK101 := n0_; have HB := n1_; have BK102 := n2_; have GW102 := n3_; have GE102 := n4_; have NB101_102 := n5_; have NB102_101 := n6_; clear n0_ n1_ n2_ n3_ n4_ n5_ n6_; clear hx_; clear hb hbox hg; have hnb20 := NB101_102.out; have hnc20 := NB102_101.out; have hcz21_0 : w19.cell? ⟨gb101, 0, none⟩ = some (.slice A0_0 l0_0.length c0_0) := (blk_cell BK101.out 0).trans rfl; have hfz21_0 := blk_frozen BK101.out 0) | ((with_reducible refine gate_callee (f := 11) rfl ?_); refine goesL_ (some 6) rfl rfl Try.func11 qa16 rfl #[.agg #[.slice A0_0 l0_0.length c0_0]] rfl qa1 ?_; (with_reducible refine (impl_SchemaOK.calls k _ _ l0_0 true _ ?side1 ?side2 A3.out).mono ?_); (case side1 => exact qa21); (case side2 => exact HC0_0.out); rintro e w22 ⟨rfl, hb⟩; have hx_ := qHX HB hb qa0; refine ⟨_, rfl, ?_⟩; have n0_ := qO (qB BK101.out hx_ hb); have n1_ := qO (qB BK102.out hx_ hb); have n2_ := qO (below_step (below_step HB.out hx_) hb); clear BK101; clear BK102; clear HB; have BK101 := n0_; have BK102 := n1_; have HB := n2_; clear n0_ n1_ n2_; clear hx_; (try clear hb); (try clear hb2); (try clear hk); (try clear hi); have hcz23_0 : w22.cell? ⟨gb102, 0, none⟩ = some (.slice A1_0 l1_0.length c1_0) := (blk_cell BK102.out 0).trans rfl; have hfz23_0 := blk_frozen BK102.out 0) | (go_at_call 11; (with_reducible refine (impl_SchemaOK.calls k _ _ l1_0 false _ ?side1 ?side2 A5.out).mono ?_); (case side1 => exact qa33); (case side2 => exact HC1_0.out); rintro e w24 ⟨rfl, hb⟩; have hx_ := qHX HB hb qa0; have n0_ := qO (qB BK101.out hx_ hb); have n1_ := qO (qB BK102.out hx_ hb); have n2_ := qO (below_step (below_step HB.out hx_) hb); clear BK101; clear BK102; clear HB; have BK101 := n0_; have BK102 := n1_; have HB := n2_; clear n0_ n1_ n2_; clear hx_; (try clear hb); (try clear hb2); (try clear hk); (try clear hi)))
   go_ret
   exact ⟨qa3, qa8⟩
 ·replace c4 := Bool.eq_false_iff.mpr c4
  subst c4; have H1 : (some false) = some r := by rw [if_neg (show ¬ (false = true) by decide)] at H; exact H
  clear H; have H := H1; clear H1; obtain rfl := Option.some.inj H
  go_enter Try.func22, Try.ntmps22
  go_wp2_with (first | ((with_reducible refine gate_dst (N := 2) rfl ?_); refine box_event ?hg (N := 2) ?hd (cs := #[.slice A0_0 l0_0.length c0_0]) (t := 29) ?hr ?_; (case hd => rfl); (case hg => rfl); (case hr => exact qa18); intro gb101 hg w25 hbox hb; have hx_ := qHX HB hb qa0; have n0_ := qO (below_step (below_step HB.out hx_) hb); have n1_ := qO (hbox); have n2_ := qO ((qa11 : w.heap.size ≤ gb101)); have n3_ := n2_; clear HB; have HB := n0_; have BK101 := n1_; have GW101 := n2_; have GE101 := n3_; clear n0_ n1_ n2_ n3_; clear hx_; clear hb hbox hg) | ((with_reducible refine gate_dst (N := 3) rfl ?_); refine box_event ?hg (N := 3) ?hd (cs := #[.slice A1_0 l1_0.length c1_0]) (t := 29) ?hr ?_; (case hd => rfl); (case hg => rfl); (case hr => exact qa18); intro gb102 hg w26 hbox hb; have hx_ := qHX HB hb qa0; have n0_ := qO (qB BK101.out hx_ hb); have n1_ := qO (below_step (below_step HB.out hx_) hb); have n2_ := qO (hbox); have n3_ := qO ((qa11 : w.heap.size ≤ gb102)); have n4_ := n3_; have n5_ := qO ((qa23 : gb101 ≠ gb102)); have n6_ := qO (Ne.symm n5_.out); clear BK101; clear HB; have BK101 := n0_; have HB := n1_; have BK102 := n2_; have GW102 := n3_; have GE102 := n4_; have NB101_102 := n5_; have NB102_101 := n6_; clear n0_ n1_ n2_ n3_ n4_ n5_ n6_; clear hx_; clear hb hbox hg; have hnb27 := NB101_102.out; have hnc27 := NB102_101.out; have hcz28_0 : w26.cell? ⟨gb101, 0, none⟩ = some (.slice A0_0 l0_0.length c0_0) := (blk_cell BK101.out 0).trans rfl; have hfz28_0 := blk_frozen BK101.out 0) | ((with_reducible refine gate_callee (f := 11) rfl ?_); refine goesL_ (some 6) rfl rfl Try.func11 qa16 rfl #[.agg #[.slice A0_0 l0_0.length c0_0]] rfl qa1 ?_; (with_reducible refine (impl_SchemaOK.calls k _ _ l0_0 false _ ?side1 ?side2 A3.out).mono ?_); (case side1 => exact qa21); (case side2 => exact HC0_0.out); rintro e w29 ⟨rfl, hb⟩; have hx_ := qHX HB hb qa0; refine ⟨_, rfl, ?_⟩; have n0_ := qO (qB BK101.out hx_ hb); have n1_ := qO (qB BK102.out hx_ hb); have n2_ := qO (below_step (below_step HB.out hx_) hb); clear BK101; clear BK102; clear HB; have BK101 := n0_; have BK102 := n1_; have HB := n2_; clear n0_ n1_ n2_; clear hx_; (try clear hb); (try clear hb2); (try clear hk); (try clear hi)))
  go_ret
  exact ⟨qa3, qa8⟩


def laws_FnExactSameSchema.f (k : Nat) (l0_0 : List (S77)) (l1_0 : List (S77)) : Option (Bool) := (laws_szSchema.f k l0_0 1048576).bind fun t103 => (if t103 < 0 then (some true) else ((laws_szSchema.f k l1_0 t103).bind fun t104 => (if t104 < 0 then (some true) else ((laws_toSchema.f k l0_0).bind fun t105 => ((laws_toSchema.f k l1_0).bind fun t108 => ((spec_SameSchema.f k t105 t108).bind fun t111 => ((laws_toSchema.f k l0_0).bind fun t112 => ((laws_toSchema.f k l1_0).bind fun t116 => ((impl_SameSchema.f k t112 t116).bind fun t120 => (if (t120 != t111) = true then (none) else ((laws_toSchema.f k l0_0).bind fun t121 => ((laws_eqSchema.f k t112 t121).bind fun t124 => (if t124 = true then ((laws_toSchema.f k l1_0).bind fun t125 => ((laws_eqSchema.f k t116 t125).bind fun t128 => (if t128 = true then (some true) else (none)))) else (none))))))))))))))
def laws_FnExactSameSchema.y0 : Array Bool := #[false, false, false, false, false, false]
def laws_FnExactSameSchema.y1 : Array Bool := #[true, false, false, false, false, false]
def laws_FnExactSameSchema.y2 : Array Bool := #[true, false, true, false, false, false]
def laws_FnExactSameSchema.y3 : Array Bool := #[true, true, true, false, false, false]
def laws_FnExactSameSchema.y4 : Array Bool := #[true, true, true, true, false, false]
def laws_FnExactSameSchema.y5 : Array Bool := #[true, true, true, true, true, false]
def laws_FnExactSameSchema.y6 : Array Bool := #[true, true, true, true, true, true]
set_option maxHeartbeats 8000000 in
set_option maxRecDepth 100000 in
theorem laws_FnExactSameSchema.calls (k : Nat) (A0_0 : Option Addr) (c0_0 : Nat) (l0_0 : List (S77)) (A1_0 : Option Addr) (c1_0 : Nat) (l1_0 : List (S77)) (r : Bool) (w : World) (hr0_0 : Kd.C k77 w A0_0 l0_0.length l0_0) (hc0_0 : l0_0.length ≤ c0_0) (hr1_0 : Kd.C k77 w A1_0 l1_0.length l1_0) (hc1_0 : l1_0.length ≤ c1_0) (h : laws_FnExactSameSchema.f k l0_0 l1_0 = some r) :
  Calls Try.prog 6 #[.agg #[.slice A0_0 l0_0.length c0_0], .agg #[.slice A1_0 l1_0.length c1_0]] w fun e w' => e = .returned (.bool r) ∧ Below w.heap.size w w' := by
 have hu24 := Try.underlying24; have hu29 := Try.underlying29; have HR0_0 := qO hr0_0; have HC0_0 := qO hc0_0; clear hr0_0 hc0_0; have HR1_0 := qO hr1_0; have HC1_0 := qO hc1_0; clear hr1_0 hc1_0; have HB := qO (Below.refl w.heap.size w); have H : ((laws_szSchema.f k l0_0 1048576).bind fun t103 => (if t103 < 0 then (some true) else ((laws_szSchema.f k l1_0 t103).bind fun t104 => (if t104 < 0 then (some true) else ((laws_toSchema.f k l0_0).bind fun t105 => ((laws_toSchema.f k l1_0).bind fun t108 => ((spec_SameSchema.f k t105 t108).bind fun t111 => ((laws_toSchema.f k l0_0).bind fun t112 => ((laws_toSchema.f k l1_0).bind fun t116 => ((impl_SameSchema.f k t112 t116).bind fun t120 => (if (t120 != t111) = true then (none) else ((laws_toSchema.f k l0_0).bind fun t121 => ((laws_eqSchema.f k t112 t121).bind fun t124 => (if t124 = true then ((laws_toSchema.f k l1_0).bind fun t125 => ((laws_eqSchema.f k t116 t125).bind fun t128 => (if t128 = true then (some true) else (none)))) else (none))))))))))))))) = some r := h; clear h; replace H := Option.bind_eq_some_iff.mp H; obtain ⟨t103, A30, H⟩ := H; replace H : (if t103 < 0 then (some true) else ((laws_szSchema.f k l1_0 t103).bind fun t104 => (if t104 < 0 then (some true) else ((laws_toSchema.f k l0_0).bind fun t105 => ((laws_toSchema.f k l1_0).bind fun t108 => ((spec_SameSchema.f k t105 t108).bind fun t111 => ((laws_toSchema.f k l0_0).bind fun t112 => ((laws_toSchema.f k l1_0).bind fun t116 => ((impl_SameSchema.f k t112 t116).bind fun t120 => (if (t120 != t111) = true then (none) else ((laws_toSchema.f k l0_0).bind fun t121 => ((laws_eqSchema.f k t112 t121).bind fun t124 => (if t124 = true then ((laws_toSchema.f k l1_0).bind fun t125 => ((laws_eqSchema.f k t116 t125).bind fun t128 => (if t128 = true then (some true) else (none)))) else (none)))))))))))))) = some r := H; have A3 := qO A30; clear A30
 by_cases c4 : t103 < 0
 ·rw [if_pos c4] at H
  have c4b0 : decide (t103 < 0) = true := decide_eq_true c4; clear c4; obtain rfl := Option.some.inj H
  go_enter Try.func6, Try.ntmps6
  go_wp2_with (first | ((with_reducible refine gate_dst (N := 2) rfl ?_); refine box_event ?hg (N := 2) ?hd (cs := #[.slice A0_0 l0_0.length c0_0]) (t := 24) ?hr ?_; (case hd => rfl); (case hg => rfl); (case hr => exact qa18); intro gb101 hg w5 hbox hb; have hx_ := qHX HB hb qa0; have n0_ := qO (below_step (below_step HB.out hx_) hb); have n1_ := qO (hbox); have n2_ := qO ((qa11 : w.heap.size ≤ gb101)); have n3_ := n2_; clear HB; have HB := n0_; have BK101 := n1_; have GW101 := n2_; have GE101 := n3_; clear n0_ n1_ n2_ n3_; clear hx_; clear hb hbox hg) | ((with_reducible refine gate_dst (N := 3) rfl ?_); refine box_event ?hg (N := 3) ?hd (cs := #[.slice A1_0 l1_0.length c1_0]) (t := 24) ?hr ?_; (case hd => rfl); (case hg => rfl); (case hr => exact qa18); intro gb102 hg w6 hbox hb; have hx_ := qHX HB hb qa0; have n0_ := qO (qB BK101.out hx_ hb); have n1_ := qO (below_step (below_step HB.out hx_) hb); have n2_ := qO (hbox); have n3_ := qO ((qa11 : w.heap.size ≤ gb102)); have n4_ := n3_; have n5_ := qO ((qa35 : gb101 ≠ gb102)); have n6_ := qO (Ne.symm n5_.out); clear BK101; clear HB; have BK101 := n0_; have HB := n1_; have BK102 := n2_; have GW102 := n3_; have GE102 := n4_; have NB101_102 := n5_; have NB102_101 := n6_; clear n0_ n1_ n2_ n3_ n4_ n5_ n6_; clear hx_; clear hb hbox hg; have hnb7 := NB101_102.out; have hnc7 := NB102_101.out; have hcz8_0 : w6.cell? ⟨gb101, 0, none⟩ = some (.slice A0_0 l0_0.length c0_0) := (blk_cell BK101.out 0).trans rfl; have hfz8_0 := blk_frozen BK101.out 0) | ((with_reducible refine gate_callee (f := 8) rfl ?_); refine goesL_ (some 12) rfl rfl Try.func8 qa16 rfl #[.agg #[.slice A0_0 l0_0.length c0_0], .int .i64 1048576] rfl qa1 ?_; (with_reducible refine (laws_szSchema.calls k _ _ l0_0 1048576 t103 _ ?side1 ?side2 A3.out).mono ?_); (case side1 => exact qa21); (case side2 => exact HC0_0.out); rintro e w9 ⟨rfl, hb⟩; have hx_ := qHX HB hb qa0; refine ⟨_, rfl, ?_⟩; have n0_ := qO (qB BK101.out hx_ hb); have n1_ := qO (qB BK102.out hx_ hb); have n2_ := qO (below_step (below_step HB.out hx_) hb); clear BK101; clear BK102; clear HB; have BK101 := n0_; have BK102 := n1_; have HB := n2_; clear n0_ n1_ n2_; clear hx_; (try clear hb); (try clear hb2); (try clear hk); (try clear hi)))
  go_ret
  exact ⟨qa3, qa8⟩
 ·rw [if_neg c4] at H
  have c4b0 : decide (t103 < 0) = false := decide_eq_false c4; clear c4; replace H := Option.bind_eq_some_iff.mp H; obtain ⟨t104, A100, H⟩ := H; replace H : (if t104 < 0 then (some true) else ((laws_toSchema.f k l0_0).bind fun t105 => ((laws_toSchema.f k l1_0).bind fun t108 => ((spec_SameSchema.f k t105 t108).bind fun t111 => ((laws_toSchema.f k l0_0).bind fun t112 => ((laws_toSchema.f k l1_0).bind fun t116 => ((impl_SameSchema.f k t112 t116).bind fun t120 => (if (t120 != t111) = true then (none) else ((laws_toSchema.f k l0_0).bind fun t121 => ((laws_eqSchema.f k t112 t121).bind fun t124 => (if t124 = true then ((laws_toSchema.f k l1_0).bind fun t125 => ((laws_eqSchema.f k t116 t125).bind fun t128 => (if t128 = true then (some true) else (none)))) else (none)))))))))))) = some r := H; have A10 := qO A100; clear A100
  by_cases c11 : t104 < 0
  ·rw [if_pos c11] at H
   have c11b0 : decide (t104 < 0) = true := decide_eq_true c11; clear c11; obtain rfl := Option.some.inj H
   go_enter Try.func6, Try.ntmps6
   go_wp2_with (first | ((with_reducible refine gate_dst (N := 2) rfl ?_); refine box_event ?hg (N := 2) ?hd (cs := #[.slice A0_0 l0_0.length c0_0]) (t := 24) ?hr ?_; (case hd => rfl); (case hg => rfl); (case hr => exact qa18); intro gb101 hg w12 hbox hb; have hx_ := qHX HB hb qa0; have n0_ := qO (below_step (below_step HB.out hx_) hb); have n1_ := qO (hbox); have n2_ := qO ((qa11 : w.heap.size ≤ gb101)); have n3_ := n2_; clear HB; have HB := n0_; have BK101 := n1_; have GW101 := n2_; have GE101 := n3_; clear n0_ n1_ n2_ n3_; clear hx_; clear hb hbox hg) | ((with_reducible refine gate_dst (N := 3) rfl ?_); refine box_event ?hg (N := 3) ?hd (cs := #[.slice A1_0 l1_0.length c1_0]) (t := 24) ?hr ?_; (case hd => rfl); (case hg => rfl); (case hr => exact qa18); intro gb102 hg w13 hbox hb; have hx_ := qHX HB hb qa0; have n0_ := qO (qB BK101.out hx_ hb); have n1_ := qO (below_step (below_step HB.out hx_) hb); have n2_ := qO (hbox); have n3_ := qO ((qa11 : w.heap.size ≤ gb102)); have n4_ := n3_; have n5_ := qO ((qa35 : gb101 ≠ gb102)); have n6_ := qO (Ne.symm n5_.out); clear BK101; clear HB; have BK101 := n0_; have HB := n1_; have BK102 := n2_; have GW102 := n3_; have GE102 := n4_; have NB101_102 := n5_; have NB102_101 := n6_; clear n0_ n1_ n2_ n3_ n4_ n5_ n6_; clear hx_; clear hb hbox hg; have hnb14 := NB101_102.out; have hnc14 := NB102_101.out; have hcz15_0 : w13.cell? ⟨gb101, 0, none⟩ = some (.slice A0_0 l0_0.length c0_0) := (blk_cell BK101.out 0).trans rfl; have hfz15_0 := blk_frozen BK101.out 0) | ((with_reducible refine gate_callee (f := 8) rfl ?_); refine goesL_ (some 12) rfl rfl Try.func8 qa16 rfl #[.agg #[.slice A0_0 l0_0.length c0_0], .int .i64 1048576] rfl qa1 ?_; (with_reducible refine (laws_szSchema.calls k _ _ l0_0 1048576 t103 _ ?side1 ?side2 A3.out).mono ?_); (case side1 => exact qa21); (case side2 => exact HC0_0.out); rintro e w16 ⟨rfl, hb⟩; have hx_ := qHX HB hb qa0; refine ⟨_, rfl, ?_⟩; have n0_ := qO (qB BK101.out hx_ hb); have n1_ := qO (qB BK102.out hx_ hb); have n2_ := qO (below_step (below_step HB.out hx_) hb); clear BK101; clear BK102; clear HB; have BK101 := n0_; have BK102 := n1_; have HB := n2_; clear n0_ n1_ n2_; clear hx_; (try clear hb); (try clear hb2); (try clear hk); (try clear hi); have hcz17_0 : w16.cell? ⟨gb102, 0, none⟩ = some (.slice A1_0 l1_0.length c1_0) := (blk_cell BK102.out 0).trans rfl; have hfz17_0 := blk_frozen BK102.out 0) | ((with_reducible refine gate_callee (f := 8) rfl ?_); refine goesL_ (some 17) rfl rfl Try.func8 qa16 rfl #[.agg #[.slice A1_0 l1_0.length c1_0], .int .i64 t103] rfl qa1 ?_; (with_reducible refine (laws_szSchema.calls k _ _ l1_0 t103 t104 _ ?side1 ?side2 A10.out).mono ?_); (case side1 => exact qa33); (case side2 => exact HC1_0.out); rintro e w18 ⟨rfl, hb⟩; have hx_ := qHX HB hb qa0; refine ⟨_, rfl, ?_⟩; have n0_ := qO (qB BK101.out hx_ hb); have n1_ := qO (qB BK102.out hx_ hb); have n2_ := qO (below_step (below_step HB.out hx_) hb); clear BK101; clear BK102; clear HB; have BK101 := n0_; have BK102 := n1_; have HB := n2_; clear n0_ n1_ n2_; clear hx_; (try clear hb); (try clear hb2); (try clear hk); (try clear hi)))
   go_ret
   exact ⟨qa3, qa8⟩
  ·rw [if_neg c11] at H
   have c11b0 : decide (t104 < 0) = false := decide_eq_false c11; clear c11; replace H := Option.bind_eq_some_iff.mp H; obtain ⟨t105, A190, H⟩ := H; replace H : ((laws_toSchema.f k l1_0).bind fun t108 => ((spec_SameSchema.f k t105 t108).bind fun t111 => ((laws_toSchema.f k l0_0).bind fun t112 => ((laws_toSchema.f k l1_0).bind fun t116 => ((impl_SameSchema.f k t112 t116).bind fun t120 => (if (t120 != t111) = true then (none) else ((laws_toSchema.f k l0_0).bind fun t121 => ((laws_eqSchema.f k t112 t121).bind fun t124 => (if t124 = true then ((laws_toSchema.f k l1_0).bind fun t125 => ((laws_eqSchema.f k t116 t125).bind fun t128 => (if t128 = true then (some true) else (none)))) else (none)))))))))) = some r := H; have A19 := qO A190; clear A190; replace H := Option.bind_eq_some_iff.mp H; obtain ⟨t108, A200, H⟩ := H; replace H : ((spec_SameSchema.f k t105 t108).bind fun t111 => ((laws_toSchema.f k l0_0).bind fun t112 => ((laws_toSchema.f k l1_0).bind fun t116 => ((impl_SameSchema.f k t112 t116).bind fun t120 => (if (t120 != t111) = true then (none) else ((laws_toSchema.f k l0_0).bind fun t121 => ((laws_eqSchema.f k t112 t121).bind fun t124 => (if t124 = true then ((laws_toSchema.f k l1_0).bind fun t125 => ((laws_eqSchema.f k t116 t125).bind fun t128 => (if t128 = true then (some true) else (none)))) else (none))))))))) = some r := H; have A20 := qO A200; clear A200; replace H := Option.bind_eq_some_iff.mp H; obtain ⟨t111, A210, H⟩ := H; replace H : ((laws_toSchema.f k l0_0).bind fun t112 => ((laws_toSchema.f k l1_0).bind fun t116 => ((impl_SameSchema.f k t112 t116).bind fun t120 => (if (t120 != t111) = true then (none) else ((laws_toSchema.f k l0_0).bind fun t121 => ((laws_eqSchema.f k t112 t121).bind fun t124 => (if t124 = true then ((laws_toSchema.f k l1_0).bind fun t125 => ((laws_eqSchema.f k t116 t125).bind fun t128 => (if t128 = true then (some true) else (none)))) else (none)))))))) = some r := H; have A21 := qO A210; clear A210; replace H := Option.bind_eq_some_iff.mp H; obtain ⟨t112, A220, H⟩ := H; replace H : ((laws_toSchema.f k l1_0).bind fun t116 => ((impl_SameSchema.f k t112 t116).bind fun t120 => (if (t120 != t111) = true then (none) else ((laws_toSchema.f k l0_0).bind fun t121 => ((laws_eqSchema.f k t112 t121).bind fun t124 => (if t124 = true then ((laws_toSchema.f k l1_0).bind fun t125 => ((laws_eqSchema.f k t116 t125).bind fun t128 => (if t128 = true then (some true) else (none)))) else (none))))))) = some r := H; have A22 := qO A220; clear A220; replace H := Option.bind_eq_some_iff.mp H; obtain ⟨t116, A230, H⟩ := H; replace H : ((impl_SameSchema.f k t112 t116).bind fun t120 => (if (t120 != t111) = true then (none) else ((laws_toSchema.f k l0_0).bind fun t121 => ((laws_eqSchema.f k t112 t121).bind fun t124 => (if t124 = true then ((laws_toSchema.f k l1_0).bind fun t125 => ((laws_eqSchema.f k t116 t125).bind fun t128 => (if t128 = true then (some true) else (none)))) else (none)))))) = some r := H; have A23 := qO A230; clear A230; replace H := Option.bind_eq_some_iff.mp H; obtain ⟨t120, A240, H⟩ := H; replace H : (if (t120 != t111) = true then (none) else ((laws_toSchema.f k l0_0).bind fun t121 => ((laws_eqSchema.f k t112 t121).bind fun t124 => (if t124 = true then ((laws_toSchema.f k l1_0).bind fun t125 => ((laws_eqSchema.f k t116 t125).bind fun t128 => (if t128 = true then (some true) else (none)))) else (none))))) = some r := H; have A24 := qO A240; clear A240
   by_cases c25 : (t120 != t111) = true
   ·rw [if_pos c25] at H
    exact absurd H qa79
   ·rw [if_neg c25] at H
    have c25b0 : (t120 != t111) = false := by simpa using c25
    (try (have c25b1 : decide (t120 = t111) = true := by simpa using c25)); (try (have c25b2 : (t120 == t111) = true := by simpa using c25)); clear c25; replace H := Option.bind_eq_some_iff.mp H; obtain ⟨t121, A260, H⟩ := H; replace H : ((laws_eqSchema.f k t112 t121).bind fun t124 => (if t124 = true then ((laws_toSchema.f k l1_0).bind fun t125 => ((laws_eqSchema.f k t116 t125).bind fun t128 => (if t128 = true then (some true) else (none)))) else (none))) = some r := H; have A26 := qO A260; clear A260; replace H := Option.bind_eq_some_iff.mp H; obtain ⟨t124, A270, H⟩ := H; replace H : (if t124 = true then ((laws_toSchema.f k l1_0).bind fun t125 => ((laws_eqSchema.f k t116 t125).bind fun t128 => (if t128 = true then (some true) else (none)))) else (none)) = some r := H; have A27 := qO A270; clear A270
    by_cases c28 : t124 = true
    ·subst c28
     have H1 : ((laws_toSchema.f k l1_0).bind fun t125 => ((laws_eqSchema.f k t116 t125).bind fun t128 => (if t128 = true then (some true) else (none)))) = some r := by rw [if_pos rfl] at H; exact H
     clear H; have H := H1; clear H1; replace H := Option.bind_eq_some_iff.mp H; obtain ⟨t125, A290, H⟩ := H; replace H : ((laws_eqSchema.f k t116 t125).bind fun t128 => (if t128 = true then (some true) else (none))) = some r := H; have A29 := qO A290; clear A290; replace H := Option.bind_eq_some_iff.mp H; obtain ⟨t128, A300, H⟩ := H; replace H : (if t128 = true then (some true) else (none)) = some r := H; have A30 := qO A300; clear A300
     by_cases c31 : t128 = true
     ·subst c31
      have H1 : (some true) = some r := by rw [if_pos rfl] at H; exact H
      clear H; have H := H1; clear H1; obtain rfl := Option.some.inj H
      go_enter Try.func6, Try.ntmps6
      try go_wp2_with (first | ((with_reducible refine gate_dst (N := 2) rfl ?_); refine box_event ?hg (N := 2) ?hd (cs := #[.slice A0_0 l0_0.length c0_0]) (t := 24) ?hr ?_; (case hd => rfl); (case hg => rfl); (case hr => exact qa18); intro gb101 hg w32 hbox hb; have hx_ := qHX HB hb qa0; have n0_ := qO (below_step (below_step HB.out hx_) hb); have n1_ := qO (hbox); have n2_ := qO ((qa11 : w.heap.size ≤ gb101)); have n3_ := n2_; clear HB; have HB := n0_; have BK101 := n1_; have GW101 := n2_; have GE101 := n3_; clear n0_ n1_ n2_ n3_; clear hx_; clear hb hbox hg) | ((with_reducible refine gate_dst (N := 3) rfl ?_); refine box_event ?hg (N := 3) ?hd (cs := #[.slice A1_0 l1_0.length c1_0]) (t := 24) ?hr ?_; (case hd => rfl); (case hg => rfl); (case hr => exact qa18); intro gb102 hg w33 hbox hb; have hx_ := qHX HB hb qa0; have n0_ := qO (qB BK101.out hx_ hb); have n1_ := qO (below_step (below_step HB.out hx_) hb); have n2_ := qO (hbox); have n3_ := qO ((qa11 : w.heap.size ≤ gb102)); have n4_ := n3_; have n5_ := qO ((qa35 : gb101 ≠ gb102)); have n6_ := qO (Ne.symm n5_.out); clear BK101; clear HB; have BK101 := n0_; have HB := n1_; have BK102 := n2_; have GW102 := n3_; have GE102 := n4_; have NB101_102 := n5_; have NB102_101 := n6_; clear n0_ n1_ n2_ n3_ n4_ n5_ n6_; clear hx_; clear hb hbox hg; have hnb34 := NB101_102.out; have hnc34 := NB102_101.out; have hcz35_0 : w33.cell? ⟨gb101, 0, none⟩ = some (.slice A0_0 l0_0.length c0_0) := (blk_cell BK101.out 0).trans rfl; have hfz35_0 := blk_frozen BK101.out 0) | ((with_reducible refine gate_callee (f := 8) rfl ?_); refine goesL_ (some 12) rfl rfl Try.func8 qa16 rfl #[.agg #[.slice A0_0 l0_0.length c0_0], .int .i64 1048576] rfl qa1 ?_; (with_reducible refine (laws_szSchema.calls k _ _ l0_0 1048576 t103 _ ?side1 ?side2 A3.out).mono ?_); (case side1 => exact qa21); (case side2 => exact HC0_0.out); rintro e w36 ⟨rfl, hb⟩; have hx_ := qHX HB hb qa0; refine ⟨_, rfl, ?_⟩; have n0_ := qO (qB BK101.out hx_ hb); have n1_ := qO (qB BK102.out hx_ hb); have n2_ := qO (below_step (below_step HB.out hx_) hb); clear BK101; clear BK102; clear HB; have BK101 := n0_; have BK102 := n1_; have HB := n2_; clear n0_ n1_ n2_; clear hx_; (try clear hb); (try clear hb2); (try clear hk); (try clear hi); have hcz37_0 : w36.cell? ⟨gb102, 0, none⟩ = some (.slice A1_0 l1_0.length c1_0) := (blk_cell BK102.out 0).trans rfl; have hfz37_0 := blk_frozen BK102.out 0) | ((with_reducible refine gate_callee (f := 8) rfl ?_); refine goesL_ (some 17) rfl rfl Try.func8 qa16 rfl #[.agg #[.slice A1_0 l1_0.length c1_0], .int .i64 t103] rfl qa1 ?_; (with_reducible refine (laws_szSchema.calls k _ _ l1_0 t103 t104 _ ?side1 ?side2 A10.out).mono ?_); (case side1 => exact qa33); (case side2 => exact HC1_0.out); rintro e w38 ⟨rfl, hb⟩; have hx_ := qHX HB hb qa0; refine ⟨_, rfl, ?_⟩; have n0_ := qO (qB BK101.out hx_ hb); have n1_ := qO (qB BK102.out hx_ hb); have n2_ := qO (below_step (below_step HB.out hx_) hb); clear BK101; clear BK102; clear HB; have BK101 := n0_; have BK102 := n1_; have HB := n2_; clear n0_ n1_ n2_; clear hx_; (try clear hb); (try clear hb2); (try clear hk); (try clear hi)))
      have n0_ := qO (qkD BK101.out); have n1_ := qO (qkD BK102.out); have n2_ := qO (qbD HB.out); clear BK101; clear BK102; clear HB; have BK101 := n0_; have BK102 := n1_; have HB := n2_; clear n0_ n1_ n2_; refine start_ (n := 6) (S := fun w' => w'.cell? ⟨gb101, 0, none⟩ = some (.slice A0_0 l0_0.length c0_0) ∧ w'.cell? ⟨gb102, 0, none⟩ = some (.slice A1_0 l1_0.length c1_0)) (ds := []) laws_FnExactSameSchema.y0 qa16 rfl rfl ⟨(blk_cell BK101.out 0).trans rfl, (blk_cell BK102.out 0).trans rfl⟩ (fun hHeld => ?_); generalize w38.drew = w39 at BK101 BK102 HB hHeld ⊢; refine take_ (i := 0) (N := some 20) (v := ?_) (a' := ?_) laws_FnExactSameSchema.y1 rfl rfl qa16 (fun _ _ _ h => h) (Or.inl ⟨by rfl, ?_⟩) hHeld ?_ ?_; rotate_left; exact qa74; rotate_left; exact qa5; refine take_ (i := 2) (N := some 22) (v := ?_) (a' := ?_) laws_FnExactSameSchema.y2 rfl rfl qa16 (fun _ _ _ h => h) (Or.inl ⟨by rfl, ?_⟩) hHeld ?_ ?_; rotate_left; exact qa74; rotate_left; exact qa5; refine one_ (i := 1) (N := some 21) laws_FnExactSameSchema.y3 rfl rfl qa16 qa78 (fun K hK => ?_); refine goes_ Try.func10 qa16 rfl #[.agg #[.slice A0_0 l0_0.length c0_0]] (by rfl) rfl rfl qa1 ?_; (with_reducible refine (laws_toSchema.calls k _ _ l0_0 t105 _ ?side1 ?side2 A19.out).mono ?_); (case side1 => exact qa21); (case side2 => exact HC0_0.out); rintro e w40 ⟨v106, rfl, ho0, hb⟩; have hx_ := qHX HB hb qa0; refine ⟨_, rfl, ?_⟩; have n0_ := qO (Kd.R_lower ho0 (below_size (below_step HB.out hx_))); have n1_ := qO (qB BK101.out hx_ hb); have n2_ := qO (qB BK102.out hx_ hb); have n3_ := qO (below_step (below_step HB.out hx_) hb); clear BK101; clear BK102; clear HB; have HO107 := n0_; have BK101 := n1_; have BK102 := n2_; have HB := n3_; clear n0_ n1_ n2_ n3_; clear hx_; (try clear hb); (try clear hb2); (try clear hk); (try clear hi); (try clear ho0); refine hK.out _ _ ⟨(blk_cell BK101.out 0).trans rfl, (blk_cell BK102.out 0).trans rfl⟩ (fun hHeld => ?_); clear hK K; refine norm_ (a' := ?_) ?_ ?_; rotate_left
      ·exact qa17
      refine one_ (i := 3) (N := some 23) laws_FnExactSameSchema.y4 rfl rfl qa16 qa78 (fun K hK => ?_); refine goes_ Try.func10 qa16 rfl #[.agg #[.slice A1_0 l1_0.length c1_0]] (by rfl) rfl rfl qa1 ?_; (with_reducible refine (laws_toSchema.calls k _ _ l1_0 t108 _ ?side1 ?side2 A20.out).mono ?_); (case side1 => exact qa33); (case side2 => exact HC1_0.out); rintro e w41 ⟨v109, rfl, ho0, hb⟩; have hx_ := qHX HB hb qa0; refine ⟨_, rfl, ?_⟩; have n0_ := qO (Kd.R_elder' qa37 (Kd.R_base ho0) hb); have n1_ := qO (Kd.R_lower (Kd.R_new' ho0 (Kd.R_lt qa37)) (below_size (below_step HB.out hx_))); have n2_ := qO (qB BK101.out hx_ hb); have n3_ := qO (qB BK102.out hx_ hb); have n4_ := qO (below_step (below_step HB.out hx_) hb); clear HO107; clear BK101; clear BK102; clear HB; have HO107 := n0_; have HO110 := n1_; have BK101 := n2_; have BK102 := n3_; have HB := n4_; clear n0_ n1_ n2_ n3_ n4_; clear hx_; (try clear hb); (try clear hb2); (try clear hk); (try clear hi); (try clear ho0); obtain ⟨Ao42, co42, eo42⟩ := Kd.R_slice HO107.out; (first | subst eo42 | (injection eo42 with f1_ f2_ f3_; have f4_ := f1_.symm; have f5_ := f3_.symm; clear f1_ f2_ f3_; subst f4_; subst f5_)); obtain ⟨Ao43, co43, eo43⟩ := Kd.R_slice HO110.out; (first | subst eo43 | (injection eo43 with f1_ f2_ f3_; have f4_ := f1_.symm; have f5_ := f3_.symm; clear f1_ f2_ f3_; subst f4_; subst f5_)); refine hK.out _ _ ⟨(blk_cell BK101.out 0).trans rfl, (blk_cell BK102.out 0).trans rfl⟩ (fun hHeld => ?_); clear hK K; refine norm_ (a' := ?_) ?_ ?_; rotate_left
      ·exact qa17
      refine one_ (i := 4) (N := some 24) laws_FnExactSameSchema.y5 rfl rfl qa16 qa78 (fun K hK => ?_); refine goes_ Try.func21 qa16 rfl #[.agg #[.slice Ao42 t105.length co42], .agg #[.slice Ao43 t108.length co43]] (by rfl) rfl rfl qa1 ?_; (with_reducible refine (spec_SameSchema.calls k _ _ t105 _ _ t108 t111 _ ?side1 ?side2 ?side3 ?side4 A21.out).mono ?_); (case side1 => repeat (first | exact (Kd.R_reads' HO107.out).2.2 | with_reducible first | refine Kd.C_alloc ?_ _ | refine Kd.C_drewN ?_ _ | refine Kd.C_drew ?_)); (case side2 => exact (Kd.R_reads' HO107.out).2.1); (case side3 => repeat (first | exact (Kd.R_reads' HO110.out).2.2 | with_reducible first | refine Kd.C_alloc ?_ _ | refine Kd.C_drewN ?_ _ | refine Kd.C_drew ?_)); (case side4 => exact (Kd.R_reads' HO110.out).2.1); rintro e w44 ⟨rfl, hb⟩; have hx_ := qHX HB hb qa0; refine ⟨_, rfl, ?_⟩; have n0_ := qO (Kd.R_below qa37 hb); have n1_ := qO (Kd.R_below qa40 hb); have n2_ := qO (qB BK101.out hx_ hb); have n3_ := qO (qB BK102.out hx_ hb); have n4_ := qO (below_step (below_step HB.out hx_) hb); clear HO107; clear HO110; clear BK101; clear BK102; clear HB; have HO107 := n0_; have HO110 := n1_; have BK101 := n2_; have BK102 := n3_; have HB := n4_; clear n0_ n1_ n2_ n3_ n4_; clear hx_; (try clear hb); (try clear hb2); (try clear hk); (try clear hi); refine hK.out _ _ ⟨(blk_cell BK101.out 0).trans rfl, (blk_cell BK102.out 0).trans rfl⟩ (fun hHeld => ?_); clear hK K; refine norm_ (a' := ?_) ?_ ?_; rotate_left
      ·exact qa17
      refine pure_ (i := 5) (N := some 6) (v := ?_) (a' := ?_) laws_FnExactSameSchema.y6 rfl rfl qa16 (fun _ _ _ h => h) (Or.inl ⟨by rfl, ?_⟩) ?_ ?_; rotate_left; exact qa19; rotate_left; exact qa5; refine done_ qa16 ?_; have hcz45_0 : w44.cell? ⟨gb101, 0, none⟩ = some (.slice A0_0 l0_0.length c0_0) := (blk_cell BK101.out 0).trans rfl; have hfz45_0 := blk_frozen BK101.out 0
      try go_wp2_with (first | ((with_reducible refine gate_callee (f := 10) rfl ?_); refine goesL_ (some 26) rfl rfl Try.func10 qa16 rfl #[.agg #[.slice A0_0 l0_0.length c0_0]] rfl qa1 ?_; (with_reducible refine (laws_toSchema.calls k _ _ l0_0 t112 _ ?side1 ?side2 A22.out).mono ?_); (case side1 => exact qa21); (case side2 => exact HC0_0.out); rintro e w46 ⟨v113, rfl, ho0, hb⟩; have hx_ := qHX HB hb qa0; refine ⟨_, rfl, ?_⟩; have n0_ := qO (Kd.R_elder' qa37 (Kd.R_base ho0) hb); have n1_ := qO (Kd.R_elder' qa40 (Kd.R_base ho0) hb); have n2_ := qO (Kd.R_lower (Kd.R_new' (Kd.R_new' ho0 (Kd.R_lt qa37)) (Kd.R_lt qa40)) (below_size (below_step HB.out hx_))); have n3_ := qO (qB BK101.out hx_ hb); have n4_ := qO (qB BK102.out hx_ hb); have n5_ := qO (below_step (below_step HB.out hx_) hb); clear HO107; clear HO110; clear BK101; clear BK102; clear HB; have HO107 := n0_; have HO110 := n1_; have HO114 := n2_; have BK101 := n3_; have BK102 := n4_; have HB := n5_; clear n0_ n1_ n2_ n3_ n4_ n5_; clear hx_; (try clear hb); (try clear hb2); (try clear hk); (try clear hi); (try clear ho0)) | ((with_reducible refine gate_dst (N := 7) rfl ?_); refine box_event ?hg (N := 7) ?hd (cs := #[.slice none 0 0]) (t := 29) ?hr ?_; (case hd => rfl); (case hg => rfl); (case hr => exact qa18); intro gb115 hg w47 hbox hb; have hx_ := qHX HB hb qa0; have n0_ := qO (Kd.R_below qa37 hb); have n1_ := qO (Kd.R_below qa40 hb); have n2_ := qO (Kd.R_below qa48 hb); have n3_ := qO (qB BK101.out hx_ hb); have n4_ := qO (qB BK102.out hx_ hb); have n5_ := qO (below_step (below_step HB.out hx_) hb); have n6_ := qO (hbox); have n7_ := qO ((qa11 : w.heap.size ≤ gb115)); have n8_ := n7_; have n9_ := qO ((qa35 : gb101 ≠ gb115)); have n10_ := qO (Ne.symm n9_.out); have n11_ := qO ((qa80 : gb102 ≠ gb115)); have n12_ := qO (Ne.symm n11_.out); clear HO107; clear HO110; clear HO114; clear BK101; clear BK102; clear HB; have HO107 := n0_; have HO110 := n1_; have HO114 := n2_; have BK101 := n3_; have BK102 := n4_; have HB := n5_; have BK115 := n6_; have GW115 := n7_; have GE115 := n8_; have NB101_115 := n9_; have NB115_101 := n10_; have NB102_115 := n11_; have NB115_102 := n12_; clear n0_ n1_ n2_ n3_ n4_ n5_ n6_ n7_ n8_ n9_ n10_ n11_ n12_; clear hx_; clear hb hbox hg; obtain ⟨Ao48, co48, eo48⟩ := Kd.R_slice HO114.out; subst eo48; have hnb49 := NB115_101.out; have hnc49 := NB101_115.out; have hnb50 := NB115_102.out; have hnc50 := NB102_115.out; have hcz51_0 : w47.cell? ⟨gb115, 0, none⟩ = some (.slice none 0 0) := (blk_cell BK115.out 0).trans rfl; have hfz51_0 := blk_frozen BK115.out 0; have hcz52_0 : w47.cell? ⟨gb102, 0, none⟩ = some (.slice A1_0 l1_0.length c1_0) := (blk_cell BK102.out 0).trans rfl; have hfz52_0 := blk_frozen BK102.out 0) | ((with_reducible refine gate_callee (f := 10) rfl ?_); refine goesL_ (some 28) rfl rfl Try.func10 qa16 rfl #[.agg #[.slice A1_0 l1_0.length c1_0]] rfl qa1 ?_; (with_reducible refine (laws_toSchema.calls k _ _ l1_0 t116 _ ?side1 ?side2 A23.out).mono ?_); (case side1 => exact Kd.C_below HR1_0.out (by repeat (first | (with_reducible first | exact HB.out | apply qbA | apply qbN | apply qbD | refine qbS ?_ GE101.out | refine qbS ?_ GE102.out | refine qbS ?_ GE115.out) | exact HB.out))); (case side2 => exact HC1_0.out); rintro e w53 ⟨v117, rfl, ho0, hb⟩; refine ⟨_, rfl, ?_⟩; have n0_ := qO (Kd.R_elder' qa71 (Kd.R_base ho0) hb); have n1_ := qO (Kd.R_elder' qa72 (Kd.R_base ho0) hb); have n2_ := qO (Kd.R_elder' qa73 (Kd.R_base ho0) hb); have n3_ := qO (Kd.R_lower (Kd.R_new' (Kd.R_new' (Kd.R_new' ho0 (Kd.R_lt qa71)) (Kd.R_lt qa72)) (Kd.R_lt qa73)) (below_size qa90)); have n4_ := qO (blk_below (g := gb101) (o := .cells #[.slice A0_0 l0_0.length c0_0] 24 (0, 0)) (by (with_reducible repeat (first | refine qkN ?_ _ | refine qkD ?_ | refine qkA ?_ _)); refine blk_far ?_ NB101_115.out _; (with_reducible repeat (first | refine qkN ?_ _ | refine qkD ?_ | refine qkA ?_ _)); exact BK101.out) hb); have n5_ := qO (blk_below (g := gb102) (o := .cells #[.slice A1_0 l1_0.length c1_0] 24 (0, 0)) (by (with_reducible repeat (first | refine qkN ?_ _ | refine qkD ?_ | refine qkA ?_ _)); refine blk_far ?_ NB102_115.out _; (with_reducible repeat (first | refine qkN ?_ _ | refine qkD ?_ | refine qkA ?_ _)); exact BK102.out) hb); have n6_ := qO (blk_below (g := gb115) (o := .cells #[.slice Ao48 t112.length co48] 29 (0, 0)) (by (with_reducible repeat (first | refine qkN ?_ _ | refine qkD ?_ | refine qkA ?_ _)); refine blk_put (cs := #[.slice none 0 0]) ?_ 0 _ rfl; (with_reducible repeat (first | refine qkN ?_ _ | refine qkD ?_ | refine qkA ?_ _)); exact BK115.out) hb); have n7_ := qO (below_step qa90 hb); clear HO107; clear HO110; clear HO114; clear BK101; clear BK102; clear BK115; clear HB; have HO107 := n0_; have HO110 := n1_; have HO114 := n2_; have HO118 := n3_; have BK101 := n4_; have BK102 := n5_; have BK115 := n6_; have HB := n7_; clear n0_ n1_ n2_ n3_ n4_ n5_ n6_ n7_; (try clear hb); (try clear hb2); (try clear hk); (try clear hi); (try clear ho0)) | ((with_reducible refine gate_dst (N := 8) rfl ?_); refine box_event ?hg (N := 8) ?hd (cs := #[.slice none 0 0]) (t := 29) ?hr ?_; (case hd => rfl); (case hg => rfl); (case hr => exact qa18); intro gb119 hg w54 hbox hb; have hx_ := qHX HB hb qa0; have n0_ := qO (Kd.R_below qa37 hb); have n1_ := qO (Kd.R_below qa40 hb); have n2_ := qO (Kd.R_below qa48 hb); have n3_ := qO (Kd.R_below qa54 hb); have n4_ := qO (qB BK101.out hx_ hb); have n5_ := qO (qB BK102.out hx_ hb); have n6_ := qO (qB BK115.out hx_ hb); have n7_ := qO (below_step (below_step HB.out hx_) hb); have n8_ := qO (hbox); have n9_ := qO ((qa11 : w.heap.size ≤ gb119)); have n10_ := n9_; have n11_ := qO ((qa35 : gb101 ≠ gb119)); have n12_ := qO (Ne.symm n11_.out); have n13_ := qO ((qa80 : gb102 ≠ gb119)); have n14_ := qO (Ne.symm n13_.out); have n15_ := qO ((by rw [hg]; exact Nat.ne_of_lt (blk_lt (g := gb115) (o := .cells #[.slice Ao48 t112.length co48] 29 (0, 0)) (by (with_reducible repeat (first | refine qkN ?_ _ | refine qkD ?_ | refine qkA ?_ _)); exact BK115.out)) : gb115 ≠ gb119)); have n16_ := qO (Ne.symm n15_.out); clear HO107; clear HO110; clear HO114; clear HO118; clear BK101; clear BK102; clear BK115; clear HB; have HO107 := n0_; have HO110 := n1_; have HO114 := n2_; have HO118 := n3_; have BK101 := n4_; have BK102 := n5_; have BK115 := n6_; have HB := n7_; have BK119 := n8_; have GW119 := n9_; have GE119 := n10_; have NB101_119 := n11_; have NB119_101 := n12_; have NB102_119 := n13_; have NB119_102 := n14_; have NB115_119 := n15_; have NB119_115 := n16_; clear n0_ n1_ n2_ n3_ n4_ n5_ n6_ n7_ n8_ n9_ n10_ n11_ n12_ n13_ n14_ n15_ n16_; clear hx_; clear hb hbox hg; obtain ⟨Ao55, co55, eo55⟩ := Kd.R_slice HO118.out; subst eo55; have hnb56 := NB119_101.out; have hnc56 := NB101_119.out; have hnb57 := NB119_102.out; have hnc57 := NB102_119.out; have hnb58 := NB119_115.out; have hnc58 := NB115_119.out; have hcz59_0 : w54.cell? ⟨gb119, 0, none⟩ = some (.slice none 0 0) := (blk_cell BK119.out 0).trans rfl; have hfz59_0 := blk_frozen BK119.out 0; have hcz60_0 : w54.cell? ⟨gb115, 0, none⟩ = some (.slice Ao48 t112.length co48) := (blk_cell BK115.out 0).trans rfl; have hfz60_0 := blk_frozen BK115.out 0) | ((with_reducible refine gate_callee (f := 22) rfl ?_); refine goesL_ (some 31) rfl rfl Try.func22 qa16 rfl #[.agg #[.slice Ao48 t112.length co48], .agg #[.slice Ao55 t116.length co55]] rfl qa1 ?_; (with_reducible refine (impl_SameSchema.calls k _ _ t112 _ _ t116 t120 _ ?side1 ?side2 ?side3 ?side4 A24.out).mono ?_); (case side1 => refine (Kd.R_reads' (e := 53) (base := w.heap.size) (ok := fun k_ => (((True ∧ some k_ ≠ (.slice Ao42 t105.length co42 : Value).ownBlock) ∧ some k_ ≠ (.slice Ao43 t108.length co43 : Value).ownBlock) ∧ some k_ ≠ (.slice Ao55 t116.length co55 : Value).ownBlock)) (n := t112.length) (c := co48) ?_).2.2; exact (by (with_reducible repeat (first | apply Kd.R_alloc | apply Kd.R_drewN | apply Kd.R_drew)); exact (Kd.R_mono (Kd.R_far (p := ⟨gb119, 0, none⟩) (Kd.R_types HO114.out BK119.out (by decide)) (fun _ hk => hk.2) (.slice Ao55 t116.length co55)) (fun _ h_ => h_.1)))); (case side2 => exact (Kd.R_reads' HO114.out).2.1); (case side3 => refine (Kd.R_reads' (e := 53) (base := w.heap.size) (ok := fun k_ => (((True ∧ some k_ ≠ (.slice Ao42 t105.length co42 : Value).ownBlock) ∧ some k_ ≠ (.slice Ao43 t108.length co43 : Value).ownBlock) ∧ some k_ ≠ (.slice Ao48 t112.length co48 : Value).ownBlock)) (n := t116.length) (c := co55) ?_).2.2; exact (by (with_reducible repeat (first | apply Kd.R_alloc | apply Kd.R_drewN | apply Kd.R_drew)); exact (Kd.R_mono (Kd.R_far (p := ⟨gb119, 0, none⟩) (Kd.R_types HO118.out BK119.out (by decide)) (fun _ hk => hk.2) (.slice Ao55 t116.length co55)) (fun _ h_ => h_.1)))); (case side4 => exact (Kd.R_reads' HO118.out).2.1); rintro e w61 ⟨rfl, hb⟩; refine ⟨_, rfl, ?_⟩; have n0_ := qO (Kd.R_below (by (with_reducible repeat (first | apply Kd.R_alloc | apply Kd.R_drewN | apply Kd.R_drew)); exact (Kd.R_mono (Kd.R_far (p := ⟨gb119, 0, none⟩) (Kd.R_types HO107.out BK119.out (by decide)) (fun _ hk => hk.2) (.slice Ao55 t116.length co55)) (fun _ h_ => h_.1))) hb); have n1_ := qO (Kd.R_below (by (with_reducible repeat (first | apply Kd.R_alloc | apply Kd.R_drewN | apply Kd.R_drew)); exact (Kd.R_mono (Kd.R_far (p := ⟨gb119, 0, none⟩) (Kd.R_types HO110.out BK119.out (by decide)) (fun _ hk => hk.2) (.slice Ao55 t116.length co55)) (fun _ h_ => h_.1))) hb); have n2_ := qO (Kd.R_below (by (with_reducible repeat (first | apply Kd.R_alloc | apply Kd.R_drewN | apply Kd.R_drew)); exact (Kd.R_mono (Kd.R_far (p := ⟨gb119, 0, none⟩) (Kd.R_types HO114.out BK119.out (by decide)) (fun _ hk => hk.2) (.slice Ao55 t116.length co55)) (fun _ h_ => h_.1))) hb); have n3_ := qO (Kd.R_below (by (with_reducible repeat (first | apply Kd.R_alloc | apply Kd.R_drewN | apply Kd.R_drew)); exact (Kd.R_mono (Kd.R_far (p := ⟨gb119, 0, none⟩) (Kd.R_types HO118.out BK119.out (by decide)) (fun _ hk => hk.2) (.slice Ao55 t116.length co55)) (fun _ h_ => h_.1))) hb); have n4_ := qO (blk_below (g := gb101) (o := .cells #[.slice A0_0 l0_0.length c0_0] 24 (0, 0)) (by (with_reducible repeat (first | refine qkN ?_ _ | refine qkD ?_ | refine qkA ?_ _)); refine blk_far ?_ NB101_119.out _; (with_reducible repeat (first | refine qkN ?_ _ | refine qkD ?_ | refine qkA ?_ _)); exact BK101.out) hb); have n5_ := qO (blk_below (g := gb102) (o := .cells #[.slice A1_0 l1_0.length c1_0] 24 (0, 0)) (by (with_reducible repeat (first | refine qkN ?_ _ | refine qkD ?_ | refine qkA ?_ _)); refine blk_far ?_ NB102_119.out _; (with_reducible repeat (first | refine qkN ?_ _ | refine qkD ?_ | refine qkA ?_ _)); exact BK102.out) hb); have n6_ := qO (blk_below (g := gb115) (o := .cells #[.slice Ao48 t112.length co48] 29 (0, 0)) (by (with_reducible repeat (first | refine qkN ?_ _ | refine qkD ?_ | refine qkA ?_ _)); refine blk_far ?_ NB115_119.out _; (with_reducible repeat (first | refine qkN ?_ _ | refine qkD ?_ | refine qkA ?_ _)); exact BK115.out) hb); have n7_ := qO (blk_below (g := gb119) (o := .cells #[.slice Ao55 t116.length co55] 29 (0, 0)) (by (with_reducible repeat (first | refine qkN ?_ _ | refine qkD ?_ | refine qkA ?_ _)); refine blk_put (cs := #[.slice none 0 0]) ?_ 0 _ rfl; (with_reducible repeat (first | refine qkN ?_ _ | refine qkD ?_ | refine qkA ?_ _)); exact BK119.out) hb); have n8_ := qO (below_step qa81 hb); clear HO107; clear HO110; clear HO114; clear HO118; clear BK101; clear BK102; clear BK115; clear BK119; clear HB; have HO107 := n0_; have HO110 := n1_; have HO114 := n2_; have HO118 := n3_; have BK101 := n4_; have BK102 := n5_; have BK115 := n6_; have BK119 := n7_; have HB := n8_; clear n0_ n1_ n2_ n3_ n4_ n5_ n6_ n7_ n8_; (try clear hb); (try clear hb2); (try clear hk); (try clear hi)))
      have n0_ := qO (Kd.R_drew HO107.out); have n1_ := qO (Kd.R_drew HO110.out); have n2_ := qO (Kd.R_drew HO114.out); have n3_ := qO (Kd.R_drew HO118.out); have n4_ := qO (qkD BK101.out); have n5_ := qO (qkD BK102.out); have n6_ := qO (qkD BK115.out); have n7_ := qO (qkD BK119.out); have n8_ := qO (qbD HB.out); clear HO107; clear HO110; clear HO114; clear HO118; clear BK101; clear BK102; clear BK115; clear BK119; clear HB; have HO107 := n0_; have HO110 := n1_; have HO114 := n2_; have HO118 := n3_; have BK101 := n4_; have BK102 := n5_; have BK115 := n6_; have BK119 := n7_; have HB := n8_; clear n0_ n1_ n2_ n3_ n4_ n5_ n6_ n7_ n8_; refine start_ (n := 5) (S := fun w' => w'.cell? ⟨gb115, 0, none⟩ = some (.slice Ao48 t112.length co48) ∧ w'.cell? ⟨gb101, 0, none⟩ = some (.slice A0_0 l0_0.length c0_0)) (ds := []) #[false, false, false, false, false] qa16 rfl rfl ⟨(blk_cell BK115.out 0).trans rfl, (blk_cell BK101.out 0).trans rfl⟩ (fun hHeld => ?_); generalize w61.drew = w62 at HO107 HO110 HO114 HO118 BK101 BK102 BK115 BK119 HB hHeld ⊢; refine take_ (i := 0) (N := some 35) (v := ?_) (a' := ?_) #[true, false, false, false, false] rfl rfl qa16 (fun _ _ _ h => h) (Or.inl ⟨by rfl, ?_⟩) hHeld ?_ ?_; rotate_left; exact qa74; rotate_left; exact qa5; refine take_ (i := 1) (N := some 36) (v := ?_) (a' := ?_) #[true, true, false, false, false] rfl rfl qa16 (fun _ _ _ h => h) (Or.inl ⟨by rfl, ?_⟩) hHeld ?_ ?_; rotate_left; exact qa74; rotate_left; exact qa5; refine one_ (i := 2) (N := some 37) #[true, true, true, false, false] rfl rfl qa16 qa78 (fun K hK => ?_); refine goes_ Try.func10 qa16 rfl #[.agg #[.slice A0_0 l0_0.length c0_0]] (by rfl) rfl rfl qa1 ?_; (with_reducible refine (laws_toSchema.calls k _ _ l0_0 t121 _ ?side1 ?side2 A26.out).mono ?_); (case side1 => exact qa21); (case side2 => exact HC0_0.out); rintro e w63 ⟨v122, rfl, ho0, hb⟩; have hx_ := qHX HB hb qa0; refine ⟨_, rfl, ?_⟩; have n0_ := qO (Kd.R_elder' qa37 (Kd.R_base ho0) hb); have n1_ := qO (Kd.R_elder' qa40 (Kd.R_base ho0) hb); have n2_ := qO (Kd.R_elder' qa48 (Kd.R_base ho0) hb); have n3_ := qO (Kd.R_elder' qa54 (Kd.R_base ho0) hb); have n4_ := qO (Kd.R_lower (Kd.R_new' (Kd.R_new' (Kd.R_new' (Kd.R_new' ho0 (Kd.R_lt qa37)) (Kd.R_lt qa40)) (Kd.R_lt qa48)) (Kd.R_lt qa54)) (below_size (below_step HB.out hx_))); have n5_ := qO (qB BK101.out hx_ hb); have n6_ := qO (qB BK102.out hx_ hb); have n7_ := qO (qB BK115.out hx_ hb); have n8_ := qO (qB BK119.out hx_ hb); have n9_ := qO (below_step (below_step HB.out hx_) hb); clear HO107; clear HO110; clear HO114; clear HO118; clear BK101; clear BK102; clear BK115; clear BK119; clear HB; have HO107 := n0_; have HO110 := n1_; have HO114 := n2_; have HO118 := n3_; have HO123 := n4_; have BK101 := n5_; have BK102 := n6_; have BK115 := n7_; have BK119 := n8_; have HB := n9_; clear n0_ n1_ n2_ n3_ n4_ n5_ n6_ n7_ n8_ n9_; clear hx_; (try clear hb); (try clear hb2); (try clear hk); (try clear hi); (try clear ho0); obtain ⟨Ao64, co64, eo64⟩ := Kd.R_slice HO123.out; (first | subst eo64 | (injection eo64 with f1_ f2_ f3_; have f4_ := f1_.symm; have f5_ := f3_.symm; clear f1_ f2_ f3_; subst f4_; subst f5_)); refine hK.out _ _ ⟨(blk_cell BK115.out 0).trans rfl, (blk_cell BK101.out 0).trans rfl⟩ (fun hHeld => ?_); clear hK K; refine norm_ (a' := ?_) ?_ ?_; rotate_left
      ·exact qa17
      refine one_ (i := 3) (N := some 38) #[true, true, true, true, false] rfl rfl qa16 qa78 (fun K hK => ?_); refine goes_ Try.func12 qa16 rfl #[.agg #[.slice Ao48 t112.length co48], .agg #[.slice Ao64 t121.length co64]] (by rfl) rfl rfl qa1 ?_; (with_reducible refine (laws_eqSchema.calls k _ _ t112 _ _ t121 true _ ?side1 ?side2 ?side3 ?side4 A27.out).mono ?_); (case side1 => repeat (first | exact (Kd.R_reads' HO114.out).2.2 | with_reducible first | refine Kd.C_alloc ?_ _ | refine Kd.C_drewN ?_ _ | refine Kd.C_drew ?_)); (case side2 => exact (Kd.R_reads' HO114.out).2.1); (case side3 => repeat (first | exact (Kd.R_reads' HO123.out).2.2 | with_reducible first | refine Kd.C_alloc ?_ _ | refine Kd.C_drewN ?_ _ | refine Kd.C_drew ?_)); (case side4 => exact (Kd.R_reads' HO123.out).2.1); rintro e w65 ⟨rfl, hb⟩; have hx_ := qHX HB hb qa0; refine ⟨_, rfl, ?_⟩; have n0_ := qO (Kd.R_below qa37 hb); have n1_ := qO (Kd.R_below qa40 hb); have n2_ := qO (Kd.R_below qa48 hb); have n3_ := qO (Kd.R_below qa54 hb); have n4_ := qO (Kd.R_below qa82 hb); have n5_ := qO (qB BK101.out hx_ hb); have n6_ := qO (qB BK102.out hx_ hb); have n7_ := qO (qB BK115.out hx_ hb); have n8_ := qO (qB BK119.out hx_ hb); have n9_ := qO (below_step (below_step HB.out hx_) hb); clear HO107; clear HO110; clear HO114; clear HO118; clear HO123; clear BK101; clear BK102; clear BK115; clear BK119; clear HB; have HO107 := n0_; have HO110 := n1_; have HO114 := n2_; have HO118 := n3_; have HO123 := n4_; have BK101 := n5_; have BK102 := n6_; have BK115 := n7_; have BK119 := n8_; have HB := n9_; clear n0_ n1_ n2_ n3_ n4_ n5_ n6_ n7_ n8_ n9_; clear hx_; (try clear hb); (try clear hb2); (try clear hk); (try clear hi); refine hK.out _ _ ⟨(blk_cell BK115.out 0).trans rfl, (blk_cell BK101.out 0).trans rfl⟩ (fun hHeld => ?_); clear hK K; refine norm_ (a' := ?_) ?_ ?_; rotate_left
      ·exact qa17
      refine pure_ (i := 4) (N := some 39) (v := ?_) (a' := ?_) #[true, true, true, true, true] rfl rfl qa16 (fun _ _ _ h => h) (Or.inl ⟨by rfl, ?_⟩) ?_ ?_; rotate_left; exact qa19; rotate_left; exact qa5; refine done_ qa16 ?_
      try go_wp2
      have n0_ := qO (Kd.R_drew HO107.out); have n1_ := qO (Kd.R_drew HO110.out); have n2_ := qO (Kd.R_drew HO114.out); have n3_ := qO (Kd.R_drew HO118.out); have n4_ := qO (Kd.R_drew HO123.out); have n5_ := qO (qkD BK101.out); have n6_ := qO (qkD BK102.out); have n7_ := qO (qkD BK115.out); have n8_ := qO (qkD BK119.out); have n9_ := qO (qbD HB.out); clear HO107; clear HO110; clear HO114; clear HO118; clear HO123; clear BK101; clear BK102; clear BK115; clear BK119; clear HB; have HO107 := n0_; have HO110 := n1_; have HO114 := n2_; have HO118 := n3_; have HO123 := n4_; have BK101 := n5_; have BK102 := n6_; have BK115 := n7_; have BK119 := n8_; have HB := n9_; clear n0_ n1_ n2_ n3_ n4_ n5_ n6_ n7_ n8_ n9_; refine start_ (n := 5) (S := fun w' => w'.cell? ⟨gb119, 0, none⟩ = some (.slice Ao55 t116.length co55) ∧ w'.cell? ⟨gb102, 0, none⟩ = some (.slice A1_0 l1_0.length c1_0)) (ds := []) #[false, false, false, false, false] qa16 rfl rfl ⟨(blk_cell BK119.out 0).trans rfl, (blk_cell BK102.out 0).trans rfl⟩ (fun hHeld => ?_); generalize w65.drew = w66 at HO107 HO110 HO114 HO118 HO123 BK101 BK102 BK115 BK119 HB hHeld ⊢; refine take_ (i := 0) (N := some 40) (v := ?_) (a' := ?_) #[true, false, false, false, false] rfl rfl qa16 (fun _ _ _ h => h) (Or.inl ⟨by rfl, ?_⟩) hHeld ?_ ?_; rotate_left; exact qa74; rotate_left; exact qa5; refine take_ (i := 1) (N := some 41) (v := ?_) (a' := ?_) #[true, true, false, false, false] rfl rfl qa16 (fun _ _ _ h => h) (Or.inl ⟨by rfl, ?_⟩) hHeld ?_ ?_; rotate_left; exact qa74; rotate_left; exact qa5; refine one_ (i := 2) (N := some 42) #[true, true, true, false, false] rfl rfl qa16 qa78 (fun K hK => ?_); refine goes_ Try.func10 qa16 rfl #[.agg #[.slice A1_0 l1_0.length c1_0]] (by rfl) rfl rfl qa1 ?_; (with_reducible refine (laws_toSchema.calls k _ _ l1_0 t125 _ ?side1 ?side2 A29.out).mono ?_); (case side1 => exact qa33); (case side2 => exact HC1_0.out); rintro e w67 ⟨v126, rfl, ho0, hb⟩; have hx_ := qHX HB hb qa0; refine ⟨_, rfl, ?_⟩; have n0_ := qO (Kd.R_elder' qa37 (Kd.R_base ho0) hb); have n1_ := qO (Kd.R_elder' qa40 (Kd.R_base ho0) hb); have n2_ := qO (Kd.R_elder' qa48 (Kd.R_base ho0) hb); have n3_ := qO (Kd.R_elder' qa54 (Kd.R_base ho0) hb); have n4_ := qO (Kd.R_elder' qa82 (Kd.R_base ho0) hb); have n5_ := qO (Kd.R_lower (Kd.R_new' (Kd.R_new' (Kd.R_new' (Kd.R_new' (Kd.R_new' ho0 (Kd.R_lt qa37)) (Kd.R_lt qa40)) (Kd.R_lt qa48)) (Kd.R_lt qa54)) (Kd.R_lt qa82)) (below_size (below_step HB.out hx_))); have n6_ := qO (qB BK101.out hx_ hb); have n7_ := qO (qB BK102.out hx_ hb); have n8_ := qO (qB BK115.out hx_ hb); have n9_ := qO (qB BK119.out hx_ hb); have n10_ := qO (below_step (below_step HB.out hx_) hb); clear HO107; clear HO110; clear HO114; clear HO118; clear HO123; clear BK101; clear BK102; clear BK115; clear BK119; clear HB; have HO107 := n0_; have HO110 := n1_; have HO114 := n2_; have HO118 := n3_; have HO123 := n4_; have HO127 := n5_; have BK101 := n6_; have BK102 := n7_; have BK115 := n8_; have BK119 := n9_; have HB := n10_; clear n0_ n1_ n2_ n3_ n4_ n5_ n6_ n7_ n8_ n9_ n10_; clear hx_; (try clear hb); (try clear hb2); (try clear hk); (try clear hi); (try clear ho0); obtain ⟨Ao68, co68, eo68⟩ := Kd.R_slice HO127.out; (first | subst eo68 | (injection eo68 with f1_ f2_ f3_; have f4_ := f1_.symm; have f5_ := f3_.symm; clear f1_ f2_ f3_; subst f4_; subst f5_)); refine hK.out _ _ ⟨(blk_cell BK119.out 0).trans rfl, (blk_cell BK102.out 0).trans rfl⟩ (fun hHeld => ?_); clear hK K; refine norm_ (a' := ?_) ?_ ?_; rotate_left
      ·exact qa17
      refine one_ (i := 3) (N := some 43) #[true, true, true, true, false] rfl rfl qa16 qa78 (fun K hK => ?_); refine goes_ Try.func12 qa16 rfl #[.agg #[.slice Ao55 t116.length co55], .agg #[.slice Ao68 t125.length co68]] (by rfl) rfl rfl qa1 ?_; (with_reducible refine (laws_eqSchema.calls k _ _ t116 _ _ t125 true _ ?side1 ?side2 ?side3 ?side4 A30.out).mono ?_); (case side1 => repeat (first | exact (Kd.R_reads' HO118.out).2.2 | with_reducible first | refine Kd.C_alloc ?_ _ | refine Kd.C_drewN ?_ _ | refine Kd.C_drew ?_)); (case side2 => exact (Kd.R_reads' HO118.out).2.1); (case side3 => repeat (first | exact (Kd.R_reads' HO127.out).2.2 | with_reducible first | refine Kd.C_alloc ?_ _ | refine Kd.C_drewN ?_ _ | refine Kd.C_drew ?_)); (case side4 => exact (Kd.R_reads' HO127.out).2.1); rintro e w69 ⟨rfl, hb⟩; have hx_ := qHX HB hb qa0; refine ⟨_, rfl, ?_⟩; have n0_ := qO (Kd.R_below qa37 hb); have n1_ := qO (Kd.R_below qa40 hb); have n2_ := qO (Kd.R_below qa48 hb); have n3_ := qO (Kd.R_below qa54 hb); have n4_ := qO (Kd.R_below qa82 hb); have n5_ := qO (Kd.R_below (by (with_reducible repeat (first | apply Kd.R_alloc | apply Kd.R_drewN | apply Kd.R_drew)); exact HO127.out) hb); have n6_ := qO (qB BK101.out hx_ hb); have n7_ := qO (qB BK102.out hx_ hb); have n8_ := qO (qB BK115.out hx_ hb); have n9_ := qO (qB BK119.out hx_ hb); have n10_ := qO (below_step (below_step HB.out hx_) hb); clear HO107; clear HO110; clear HO114; clear HO118; clear HO123; clear HO127; clear BK101; clear BK102; clear BK115; clear BK119; clear HB; have HO107 := n0_; have HO110 := n1_; have HO114 := n2_; have HO118 := n3_; have HO123 := n4_; have HO127 := n5_; have BK101 := n6_; have BK102 := n7_; have BK115 := n8_; have BK119 := n9_; have HB := n10_; clear n0_ n1_ n2_ n3_ n4_ n5_ n6_ n7_ n8_ n9_ n10_; clear hx_; (try clear hb); (try clear hb2); (try clear hk); (try clear hi); refine hK.out _ _ ⟨(blk_cell BK119.out 0).trans rfl, (blk_cell BK102.out 0).trans rfl⟩ (fun hHeld => ?_); clear hK K; refine norm_ (a' := ?_) ?_ ?_; rotate_left
      ·exact qa17
      refine pure_ (i := 4) (N := some 44) (v := ?_) (a' := ?_) #[true, true, true, true, true] rfl rfl qa16 (fun _ _ _ h => h) (Or.inl ⟨by rfl, ?_⟩) ?_ ?_; rotate_left; exact qa19; rotate_left; exact qa5; refine done_ qa16 ?_
      try go_wp2
      go_ret
      exact ⟨qa3, qa81⟩
     ·replace c31 := Bool.eq_false_iff.mpr c31
      subst c31; have H1 : (none) = some r := by rw [if_neg (show ¬ (false = true) by decide)] at H; exact H
      clear H; have H := H1; clear H1
      exact absurd H qa79
    ·replace c28 := Bool.eq_false_iff.mpr c28
     subst c28; have H1 : (none) = some r := by rw [if_neg (show ¬ (false = true) by decide)] at H; exact H
     clear H; have H := H1; clear H1
     exact absurd H qa79

end Go.Proofs.Ytoogmlghfljeiaa.Q
namespace Go.Proofs.Ytoogmlghfljeiaa.Q
open Go.RowKit Go.Proofs.YtoogmlghfljeiaaW.PrintWords Go.Proofs.Ytoogmlghfljeiaa.Opens
set_option linter.unusedVariables false
def i106 (x : S106) : Prop := x.f0.size ≤ 9223372036854775807 ∧ True
theorem o106 : Opens Try.prog 106 k106 i106 := opens_struct (N := 2) Try.underlying106 qa16 (opensF_cons rfl qa16 (opens_string Try.underlying9) (opensF_one rfl rfl qa16 (opens_bool Try.underlying4))) (fun y => ⟨y.1, y.2⟩) (fun _ => rfl)
def i101 (x : S101) : Prop := x.f0.size ≤ 9223372036854775807 ∧ (x.f1.length ≤ 9223372036854775807 ∧ ∀ y1_ ∈ x.f1, i106 y1_) ∧ x.f2.size ≤ 9223372036854775807 ∧ True ∧ True
theorem o101 : Opens Try.prog 101 k101 i101 := opens_struct (N := 5) Try.underlying101 qa16 (opensF_cons rfl qa16 (opens_string Try.underlying9) (opensF_cons rfl qa16 (opens_slice Try.underlying99 qa16 o106) (opensF_cons rfl qa16 (opens_string Try.underlying9) (opensF_cons rfl qa16 (opens_bool Try.underlying4) (opensF_one rfl rfl qa16 (opens_bool Try.underlying4)))))) (fun y => ⟨y.1, y.2.1, y.2.2.1, y.2.2.2.1, y.2.2.2.2⟩) (fun _ => rfl)
def i77 (x : S77) : Prop := x.f0.size ≤ 9223372036854775807 ∧ (x.f1.length ≤ 9223372036854775807 ∧ ∀ y1_ ∈ x.f1, i101 y1_)
theorem o77 : Opens Try.prog 77 k77 i77 := opens_struct (N := 2) Try.underlying77 qa16 (opensF_cons rfl qa16 (opens_string Try.underlying9) (opensF_one rfl rfl qa16 (opens_slice Try.underlying75 qa16 o101))) (fun y => ⟨y.1, y.2⟩) (fun _ => rfl)
def i24 (x : S24) : Prop := (x.f0.length ≤ 9223372036854775807 ∧ ∀ y1_ ∈ x.f0, i77 y1_)
theorem o24 : Opens Try.prog 24 k24 i24 := opens_struct (N := 1) Try.underlying24 qa16 (opensF_one rfl rfl qa16 (opens_slice Try.underlying22 qa16 o77)) (fun y => ⟨y⟩) (fun _ => rfl)
def laws_FnExactSameSchema.Pure2 : Prop := ∀ (y0 : S24), ∀ (y1 : S24), i24 y0 → i24 y1 → ∃ k, laws_FnExactSameSchema.f k y0.f0 y1.f0 = some true
end Go.Proofs.Ytoogmlghfljeiaa.Q
namespace Go.Proofs.Ytoogmlghfljeiaa.Pure2
open Go.RowKit Go.Proofs.Ytoogmlghfljeiaa.Q Go.Proofs.YtoogmlghfljeiaaW.PrintWords Go.Proofs.YtoogmlghfljeiaaW.PrintLast
set_option linter.unusedVariables false
set_option linter.unusedSimpArgs false
/-! small words -/
theorem wsucc {j n : Nat} (h : j < n) (hn : n ≤ 4611686018427387904) : wrap64 ((j : Int) + 1) = ((j + 1 : Nat) : Int) := by unfold wrap64; omega
theorem ev_step {α : Type} {g f : Nat → Option α} {r : α} (h : ∃ K, ∀ k, K ≤ k → g (k + 1) = f k) (k : Ev f r) : Ev g r := by
  obtain ⟨K, h⟩ := h
  obtain ⟨K', k⟩ := k
  refine ⟨max K K' + 1, fun n hn => ?_⟩
  obtain ⟨m, rfl⟩ : ∃ m, n = m + 1 := ⟨n - 1, qa28⟩
  rw [h m qa28, k m qa28]
theorem ev_now {α : Type} {g : Nat → Option α} {r : α} (h : ∃ K, ∀ k, K ≤ k → g (k + 1) = some r) : Ev g r := ev_step (f := fun _ => some r) h (Ev.now r)
theorem ev_same {α : Type} {g f : Nat → Option α} {r : α} (h : ∃ K, ∀ k, K ≤ k → g k = f k) (k : Ev f r) : Ev g r := by
  obtain ⟨K, h⟩ := h
  obtain ⟨K', k⟩ := k
  exact ⟨max K K', fun n hn => by rw [h n qa28, k n qa28]⟩
theorem ev_two {α β : Type} {g : Nat → Option α} {f : Nat → Option β} {r : α} {q : β} (h : Ev g r) (k : Ev f q) : ∃ K, ∀ n, K ≤ n → g n = some r ∧ f n = some q := by
  obtain ⟨K, h⟩ := h
  obtain ⟨K', k⟩ := k
  exact ⟨max K K', fun n hn => ⟨h n qa28, k n qa28⟩⟩
theorem ev_mk {α : Type} {g : Nat → Option α} {r : α} (K : Nat) (h : ∀ k, K ≤ k → g k = some r) : Ev g r := ⟨K, h⟩
theorem ev_at {α : Type} {g : Nat → Option α} {r : α} (h : Ev g r) : ∃ K, ∀ k, K ≤ k → g k = some r := h
/-- A loop that counts up to n: from the end back. -/
theorem count_loop {ρ : Type} (n : Nat) (L : Nat → Int → Option ρ) (Post : Nat → ρ → Prop) (hend : ∃ r, Post n r ∧ Ev (fun k => L k (n : Int)) r)
    (hstep : ∀ j, j < n → ∀ r, Post (j + 1) r → Ev (fun k => L k ((j + 1 : Nat) : Int)) r → ∃ r', Post j r' ∧ Ev (fun k => L k (j : Int)) r') :
    ∀ j, j ≤ n → ∃ r, Post j r ∧ Ev (fun k => L k (j : Int)) r := by
  have key : ∀ d j, j ≤ n → n - j = d → ∃ r, Post j r ∧ Ev (fun k => L k (j : Int)) r := by
    intro d
    induction d with
    | zero => intro j hj hd; obtain rfl : j = n := by omega
              exact hend
    | succ d ih =>
      intro j hj hd
      obtain ⟨r, hp, he⟩ := ih (j + 1) qa28 qa28
      exact hstep j qa28 r hp he
  intro j hj
  exact key _ j hj rfl
/-- A loop that carries a state up to n. -/
theorem state_loop {σ ρ : Type} (n : Nat) (L : Nat → σ → Int → Option ρ) (Inv : Nat → σ → Prop) (Post : Nat → σ → ρ → Prop) (hend : ∀ s, Inv n s → ∃ r, Post n s r ∧ Ev (fun k => L k s (n : Int)) r)
    (hstep : ∀ j s, j < n → Inv j s → (∃ r, Post j s r ∧ Ev (fun k => L k s (j : Int)) r) ∨ ∃ s', Inv (j + 1) s' ∧ (∀ r, Post (j + 1) s' r → Post j s r) ∧ ∃ K, ∀ k, K ≤ k → L (k + 1) s (j : Int) = L k s' ((j + 1 : Nat) : Int)) :
    ∀ j s, j ≤ n → Inv j s → ∃ r, Post j s r ∧ Ev (fun k => L k s (j : Int)) r := by
  have key : ∀ d j s, j ≤ n → n - j = d → Inv j s → ∃ r, Post j s r ∧ Ev (fun k => L k s (j : Int)) r := by
    intro d
    induction d with
    | zero => intro j s hj hd hi; obtain rfl : j = n := by omega
              exact hend s hi
    | succ d ih =>
      intro j s hj hd hi
      rcases hstep j s qa28 hi with h | ⟨s', hi', hp, hk⟩
      · exact h
      · obtain ⟨r, hr, he⟩ := ih (j + 1) s' qa28 qa28 hi'
        exact ⟨r, hp r hr, ev_step hk he⟩
  intro j s hj hi
  exact key _ j s hj rfl hi
/-- A loop that fills a row of its own. -/
theorem fill_loop {α β : Type} (xs : List α) (z : α) (g : α → β) (L : Nat → List β → Int → Option (List β)) (hend : ∀ y : List β, y.length = xs.length → ∃ K, ∀ k, K ≤ k → L (k + 1) y (xs.length : Int) = some y)
    (hstep : ∀ (j : Nat) (y : List β), j < xs.length → y.length = xs.length → ∃ K, ∀ k, K ≤ k → L (k + 1) y (j : Int) = L k (y.set j (g (xs.getD j z))) ((j + 1 : Nat) : Int)) (y : List β) (hy : y.length = xs.length) :
    Ev (fun k => L k y 0) (xs.map g) := by
  obtain ⟨r, hr, he⟩ := state_loop xs.length L (fun j y => y.length = xs.length ∧ ∀ i, i < j → y[i]? = (xs.map g)[i]?) (fun _ _ r => r = xs.map g) (fun y hi => ⟨y, List.ext_getElem? fun i => by
      by_cases hi' : i < xs.length
      · exact hi.2 i hi'
      · rw [List.getElem?_eq_none qa28, List.getElem?_eq_none (by simp; omega)], ev_now (hend y hi.1)⟩) (fun j y hj hi => .inr ⟨_, ⟨by simp [hi.1], fun i hij => by
      by_cases he : i = j
      · subst he
        rw [List.getElem?_set_self qa28]
        simp [List.getD_eq_getElem?_getD, List.getElem?_eq_getElem hj]
      · rw [List.getElem?_set_ne qa28]
        exact hi.2 i qa28⟩, fun r h => h, hstep j y hj hi.1⟩) 0 y qa28 ⟨hy, fun i hi => by omega⟩
  subst hr
  exact he
theorem spec_in (a b c : Int) : spec_l01In.f a b c = some (decide (b ≤ a ∧ a ≤ c)) := by
  unfold spec_l01In.f
  by_cases h : b ≤ a
  · rw [if_pos h]; simp [h]
  · rw [if_neg h]; simp [h]
theorem impl_in (a b c : Int) : impl_within.f a b c = some (decide (b ≤ a ∧ a ≤ c)) := spec_in a b c
/-- A letter or _; a digit. -/
def isL (b : Int) : Bool := decide (97 ≤ b ∧ b ≤ 122 ∨ 65 ≤ b ∧ b ≤ 90 ∨ b = 95)
def isD (b : Int) : Bool := decide (48 ≤ b ∧ b ≤ 57)
/-- What a name is. -/
def IsName (s : ByteArray) : Prop := 1 ≤ s.size ∧ s.size ≤ 40 ∧ isL (bt s 0) = true ∧ ∀ i : Int, 1 ≤ i → i < s.size → isL (bt s i) = true ∨ isD (bt s i) = true
theorem beq95 (b : Int) (h : ¬ (97 ≤ b ∧ b ≤ 122)) (h' : ¬ (65 ≤ b ∧ b ≤ 90)) : (b == 95) = isL b := by
  unfold isL
  by_cases e : b = 95
  · subst e; rfl
  · rw [beq_eq_false_iff_ne.mpr e]; symm; simp only [decide_eq_false_iff_not]; omega
theorem impl_letter (b : Int) : impl_isLetter.f b = some (isL b) := by
  unfold impl_isLetter.f
  by_cases h1 : b ≥ 97 <;> by_cases h2 : b ≤ 122 <;> by_cases h3 : b ≥ 65 <;> by_cases h4 : b ≤ 90 <;> simp only [h1, h2, h3, h4, if_true, if_false, Option.some.injEq] <;>
    first | exact beq95 b qa28 qa28 | (symm; unfold isL; simp only [decide_eq_true_eq]; omega)
theorem spec_letter (b : Int) : spec_l00Letter.f b = some (isL b) := impl_letter b
theorem impl_digit (b : Int) : impl_isDigit.f b = some (isD b) := by
  unfold impl_isDigit.f isD
  by_cases h1 : b ≥ 48
  · rw [if_pos h1]; simp only [Option.some.injEq, decide_eq_decide]; omega
  · rw [if_neg h1]; simp only [Option.some.injEq]; symm; rw [decide_eq_false_iff_not]; omega
theorem spec_digit (b : Int) : spec_l00Digit.f b = some (isD b) := impl_digit b
/-- The reference's loop, from i on. -/
theorem spec_word_from (s : ByteArray) (hn : s.size ≤ 1048576) (d : Nat) : ∀ (k : Nat) (i : Int), 0 ≤ i → i ≤ s.size → (s.size : Int) - i = d → d < k →
    ∃ r, spec_l00Word.l0 k s i = some r ∧ (r = true ↔ ∀ j : Int, i ≤ j → j < s.size → isL (bt s j) = true ∨ isD (bt s j) = true) := by
  induction d with
  | zero =>
    intro k i h0 h1 hd hk
    obtain ⟨k, rfl⟩ : ∃ m, k = m + 1 := ⟨k - 1, qa28⟩
    refine ⟨true, ?_, ⟨fun _ j h2 h3 => by omega, fun _ => rfl⟩⟩
    simp only [spec_l00Word.l0]; rw [if_neg qa28]
  | succ d ih =>
    intro k i h0 h1 hd hk
    obtain ⟨k, rfl⟩ : ∃ m, k = m + 1 := ⟨k - 1, qa28⟩
    have hw : wrap64 (i + 1) = i + 1 := by unfold wrap64; omega
    obtain ⟨r, e, hr⟩ := ih k (i + 1) qa28 qa28 qa28 qa28
    have step : (isL (bt s i) = true ∨ isD (bt s i) = true) → (r = true ↔ ∀ j : Int, i ≤ j → j < s.size → isL (bt s j) = true ∨ isD (bt s j) = true) := by
      intro hh
      rw [hr]
      constructor
      · intro h j h2 h3
        rcases Int.lt_or_eq_of_le h2 with h4 | h4
        · exact h j qa28 h3
        · rw [← h4]; exact hh
      · intro h j h2 h3; exact h j qa28 h3
    simp only [spec_l00Word.l0]; rw [if_pos qa28, if_pos h0, spec_letter]; simp only [Option.bind_some]
    by_cases hl : isL (bt s i) = true
    · rw [if_pos hl, hw]; exact ⟨r, e, step (.inl hl)⟩
    · rw [if_neg hl, spec_digit]; simp only [Option.bind_some]
      by_cases hdg : isD (bt s i) = true
      · rw [if_pos hdg, hw]; exact ⟨r, e, step (.inr hdg)⟩
      · rw [if_neg hdg]
        exact ⟨false, rfl, ⟨fun h => (by cases h), fun h => absurd (h i (Int.le_refl _) qa28) (fun h => h.elim hl hdg)⟩⟩
theorem spec_name (s : ByteArray) (hn : s.size ≤ 1048576) : ∃ r, (∀ k, s.size + 1 < k → spec_NameOK.f k s = some r) ∧ (r = true ↔ IsName s) := by
  by_cases h1 : (s.size : Int) < 1
  · refine ⟨false, fun k hk => ?_, ⟨fun h => (by cases h), fun h => absurd h.1 qa28⟩⟩
    obtain ⟨k, rfl⟩ : ∃ m, k = m + 1 := ⟨k - 1, qa28⟩
    unfold spec_NameOK.f spec_l00Word.f
    rw [if_pos h1]; rfl
  · by_cases h2 : (s.size : Int) > 40
    · refine ⟨false, fun k hk => ?_, ⟨fun h => (by cases h), fun h => absurd h.2.1 qa28⟩⟩
      obtain ⟨k, rfl⟩ : ∃ m, k = m + 1 := ⟨k - 1, qa28⟩
      unfold spec_NameOK.f spec_l00Word.f
      rw [if_neg h1, if_pos h2]; rfl
    · by_cases hl : isL (bt s 0) = true
      · obtain ⟨r, _, hr⟩ := spec_word_from s hn (s.size - 1) (s.size + 1) 1 qa28 qa28 qa28 qa28
        refine ⟨r, fun k hk => ?_, ?_⟩
        · obtain ⟨k, rfl⟩ : ∃ m, k = m + 1 := ⟨k - 1, qa28⟩
          obtain ⟨r', e', hr'⟩ := spec_word_from s hn (s.size - 1) k 1 qa28 qa28 qa28 qa28
          have : r' = r := by rw [Bool.eq_iff_iff, hr, hr']
          subst this
          unfold spec_NameOK.f spec_l00Word.f
          rw [if_neg h1, if_neg h2, if_pos qa28, spec_letter]; simp only [Option.bind_some, hl, Bool.not_true, spec_l00Word.j0]
          rw [if_neg qa79, e']; rfl
        · rw [hr]; exact ⟨fun h => ⟨qa28, qa28, hl, h⟩, fun h => h.2.2.2⟩
      · refine ⟨false, fun k hk => ?_, ⟨fun h => (by cases h), fun h => absurd h.2.2.1 hl⟩⟩
        obtain ⟨k, rfl⟩ : ∃ m, k = m + 1 := ⟨k - 1, qa28⟩
        unfold spec_NameOK.f spec_l00Word.f
        rw [if_neg h1, if_neg h2, if_pos qa28, spec_letter]; simp only [Option.bind_some]
        have : isL (bt s 0) = false := by simpa using hl
        rw [this]; rfl
/-- The program's loop, from i on. -/
theorem impl_name_from (s : ByteArray) (hn : s.size ≤ 1048576) (d : Nat) : ∀ (k : Nat) (i : Int), 0 ≤ i → i ≤ s.size → (s.size : Int) - i = d → d < k →
    ∃ r, impl_NameOK.l0 k s s.size i = some r ∧ (r = true ↔ (1 ≤ s.size ∧ s.size ≤ 40) ∧ ∀ j : Int, i ≤ j → j < s.size → isL (bt s j) = true ∨ j ≠ 0 ∧ isD (bt s j) = true) := by
  induction d with
  | zero =>
    intro k i h0 h1 hd hk
    obtain ⟨k, rfl⟩ : ∃ m, k = m + 1 := ⟨k - 1, qa28⟩
    simp only [impl_NameOK.l0]; rw [if_neg qa28]
    unfold impl_within.f
    by_cases h2 : (s.size : Int) ≥ 1
    · rw [if_pos h2]
      refine ⟨_, rfl, ?_⟩
      simp only [decide_eq_true_eq]
      exact ⟨fun h => ⟨⟨qa28, qa28⟩, fun j _ _ => by omega⟩, fun h => by omega⟩
    · rw [if_neg h2]
      refine ⟨_, rfl, ?_⟩
      exact ⟨fun h => by simp at h, fun h => by omega⟩
  | succ d ih =>
    intro k i h0 h1 hd hk
    obtain ⟨k, rfl⟩ : ∃ m, k = m + 1 := ⟨k - 1, qa28⟩
    have hw : wrap64 (i + 1) = i + 1 := by unfold wrap64; omega
    obtain ⟨r, e, hr⟩ := ih k (i + 1) qa28 qa28 qa28 qa28
    have step : (isL (bt s i) = true ∨ i ≠ 0 ∧ isD (bt s i) = true) → (r = true ↔ (1 ≤ s.size ∧ s.size ≤ 40) ∧ ∀ j : Int, i ≤ j → j < s.size → isL (bt s j) = true ∨ j ≠ 0 ∧ isD (bt s j) = true) := by
      intro hh
      rw [hr]
      constructor
      · intro ⟨h', h⟩
        refine ⟨h', fun j h2 h3 => ?_⟩
        rcases Int.lt_or_eq_of_le h2 with h4 | h4
        · exact h j qa28 h3
        · rw [← h4]; exact hh
      · intro ⟨h', h⟩; exact ⟨h', fun j h2 h3 => h j qa28 h3⟩
    simp only [impl_NameOK.l0]; rw [if_pos qa28, if_pos h0, if_pos qa28, impl_letter]; simp only [Option.bind_some]
    by_cases hl : isL (bt s i) = true
    · rw [if_pos hl, hw]; exact ⟨r, e, step (.inl hl)⟩
    · rw [if_neg hl]
      by_cases hz : i = 0
      · rw [if_pos hz]
        exact ⟨false, rfl, ⟨fun h => (by cases h), fun h => absurd (h.2 i (Int.le_refl _) qa28) (fun h => h.elim hl (fun h => h.1 hz))⟩⟩
      · rw [if_neg hz, impl_digit]; simp only [Option.bind_some]
        by_cases hdg : isD (bt s i) = true
        · rw [if_pos hdg, hw]; exact ⟨r, e, step (.inr ⟨hz, hdg⟩)⟩
        · rw [if_neg hdg]
          exact ⟨false, rfl, ⟨fun h => (by cases h), fun h => absurd (h.2 i (Int.le_refl _) qa28) (fun h => h.elim hl (fun h => hdg h.2))⟩⟩
theorem impl_name (s : ByteArray) (hn : s.size ≤ 1048576) : ∃ r, (∀ k, s.size + 1 < k → impl_NameOK.f k s = some r) ∧ (r = true ↔ IsName s) := by
  obtain ⟨r, _, hr⟩ := impl_name_from s hn s.size (s.size + 1) 0 qa28 qa28 qa28 qa28
  refine ⟨r, fun k hk => ?_, ?_⟩
  · obtain ⟨r', e', hr'⟩ := impl_name_from s hn s.size k 0 qa28 qa28 qa28 qa28
    have : r' = r := by rw [Bool.eq_iff_iff, hr, hr']
    subst this
    exact e'
  · rw [hr]
    constructor
    · rintro ⟨⟨h1, h2⟩, h⟩
      refine ⟨h1, h2, ?_, fun j hj hj' => ?_⟩
      · have := h 0 qa28 qa28
        simpa using this
      · rcases h j qa28 hj' with h | h
        · exact .inl h
        · exact .inr h.2
    · rintro ⟨h1, h2, h3, h⟩
      refine ⟨⟨h1, h2⟩, fun j hj hj' => ?_⟩
      by_cases hz : j = 0
      · subst hz; exact .inl h3
      · rcases h j qa28 hj' with h | h
        · exact .inl h
        · exact .inr ⟨hz, h⟩
/-- Both say the same. -/
theorem names_agree (s : ByteArray) (hn : s.size ≤ 1048576) : ∃ r, (∀ k, s.size + 1 < k → spec_NameOK.f k s = some r ∧ impl_NameOK.f k s = some r) ∧ (r = true ↔ IsName s) := by
  obtain ⟨r, e, hr⟩ := spec_name s hn
  obtain ⟨r', e', hr'⟩ := impl_name s hn
  have : r' = r := by rw [Bool.eq_iff_iff, hr, hr']
  subst this
  exact ⟨r', fun k hk => ⟨e k hk, e' k hk⟩, hr⟩
theorem names_ev (s : ByteArray) (hn : s.size ≤ 1048576) : ∃ r, Ev (fun k => spec_NameOK.f k s) r ∧ Ev (fun k => impl_NameOK.f k s) r ∧ (r = true ↔ IsName s) := by
  obtain ⟨r, h, hr⟩ := names_agree s hn
  exact ⟨r, ev_mk (s.size + 2) (fun k hk => (h k qa28).1), ev_mk (s.size + 2) (fun k hk => (h k qa28).2), hr⟩
end Go.Proofs.Ytoogmlghfljeiaa.Pure2
namespace Go.Proofs.Ytoogmlghfljeiaa.Pure2
open Go.RowKit Go.Proofs.Ytoogmlghfljeiaa.Q Go.Proofs.YtoogmlghfljeiaaW.PrintWords Go.Proofs.YtoogmlghfljeiaaW.PrintLast
set_option linter.unusedVariables false
set_option linter.unusedSimpArgs false
/-! schemas -/
theorem getD_mem {α : Type} (l : List α) (z : α) (j : Nat) (h : j < l.length) : l.getD j z ∈ l := by rw [List.getD_eq_getElem?_getD, List.getElem?_eq_getElem h]; exact List.getElem_mem h
theorem wsub (a : Int) (n : Nat) (h0 : 0 ≤ a) (h1 : a ≤ 1048576) (hn : n ≤ 9223372036854775807) : wrap64 (a - (n : Int)) = a - (n : Int) := by unfold wrap64; omega
theorem sz_loop {α : Type} (l : List α) (z : α) (P : α → Prop) (a : Int) (h0 : 0 ≤ a) (L : Nat → Int → Int → Option Int) (hend : ∀ k s, L (k + 1) s (l.length : Int) = some s)
    (hx : ∀ j, j < l.length → ∀ s, 0 ≤ s → s ≤ a → ∃ t, (t < 0 ∨ 0 ≤ t ∧ t ≤ s ∧ P (l.getD j z)) ∧ ∃ K, ∀ k, K ≤ k → L (k + 1) s (j : Int) = if t < 0 then some (-1) else L k t ((j + 1 : Nat) : Int)) :
    ∃ r, Ev (fun k => L k a 0) r ∧ (r < 0 ∨ 0 ≤ r ∧ r ≤ a ∧ ∀ x ∈ l, P x) := by
  obtain ⟨r, hr, he⟩ := state_loop l.length L (fun j s => 0 ≤ s ∧ s ≤ a ∧ ∀ i, i < j → P (l.getD i z)) (fun _ _ r => r < 0 ∨ 0 ≤ r ∧ r ≤ a ∧ ∀ i, i < l.length → P (l.getD i z))
    (fun s hi => ⟨s, .inr hi, ev_now ⟨0, fun k _ => hend k s⟩⟩)
    (fun j s hj hi => by
      obtain ⟨t, ht, K, hk⟩ := hx j hj s hi.1 hi.2.1
      rcases ht with ht | ⟨t0, t1, t2⟩
      · exact .inl ⟨-1, .inl qa28, ev_now ⟨K, fun k h => by rw [hk k h, if_pos ht]⟩⟩
      · refine .inr ⟨t, ⟨t0, qa28, fun i hij => ?_⟩, fun r h => h, K, fun k h => by rw [hk k h, if_neg qa28]⟩
        rcases Nat.lt_or_eq_of_le (Nat.le_of_lt_succ hij) with h' | rfl
        · exact hi.2.2 i h'
        · exact t2) 0 a qa28 ⟨h0, qa28, fun i hi => by omega⟩
  refine ⟨r, he, ?_⟩
  rcases hr with hr | ⟨h2, h3, h4⟩
  · exact .inl hr
  · refine .inr ⟨h2, h3, fun x hx' => ?_⟩
    obtain ⟨i, hi, rfl⟩ := List.getElem_of_mem hx'
    have := h4 i hi
    rw [List.getD_eq_getElem?_getD, List.getElem?_eq_getElem hi] at this
    exact this
def SmA (x : S106) : Prop := x.f0.size ≤ 1048576
def SmF (x : S101) : Prop := x.f0.size ≤ 1048576 ∧ x.f2.size ≤ 1048576 ∧ x.f1.length ≤ 1048576 ∧ ∀ y ∈ x.f1, SmA y
def SmT (x : S77) : Prop := x.f0.size ≤ 1048576 ∧ x.f1.length ≤ 1048576 ∧ ∀ y ∈ x.f1, SmF y
def SmS (l : List S77) : Prop := l.length ≤ 1048576 ∧ ∀ y ∈ l, SmT y
theorem sz_args (l : List S106) (a : Int) (h0 : 0 ≤ a) (h1 : a ≤ 1048576) (hl : l.length ≤ 9223372036854775807) (hx : ∀ x ∈ l, i106 x) :
    ∃ r, Ev (fun k => laws_szArgDefS.f k l a) r ∧ (r < 0 ∨ 0 ≤ r ∧ r ≤ a ∧ l.length ≤ 1048576 ∧ ∀ x ∈ l, SmA x) := by
  have hw := wsub a l.length h0 h1 hl
  by_cases h : a - (l.length : Int) < 0
  · exact ⟨-1, ev_mk 0 (fun k _ => by unfold laws_szArgDefS.f; rw [hw, if_pos h]), .inl qa28⟩
  · obtain ⟨r, he, hr⟩ := sz_loop l z106 SmA (a - l.length) qa28 (fun k s i => laws_szArgDefS.l0 k l s i) (fun k s => by simp only [laws_szArgDefS.l0]; rw [if_neg qa28]) (fun j hj s s0 s1 => by
      have hi := hx _ (getD_mem l z106 j hj)
      have hw' := wsub s (l.getD j z106).f0.size s0 qa28 hi.1
      have hrd : rd_T106 l (j : Int) = l.getD j z106 := rfl
      by_cases h2 : s - ((l.getD j z106).f0.size : Int) < 0
      · exact ⟨-1, .inl qa28, 0, fun k _ => by simp only [laws_szArgDefS.l0, laws_szArgDef.f]; rw [if_pos qa28, if_pos qa28, hrd, hw', if_pos h2, Option.bind_some, if_pos qa28, if_pos qa28]⟩
      · refine ⟨s - ((l.getD j z106).f0.size : Int), .inr ⟨qa28, qa28, ?_⟩, 0, fun k _ => by simp only [laws_szArgDefS.l0, laws_szArgDef.f]; rw [if_pos qa28, if_pos qa28, hrd, hw', if_neg h2, Option.bind_some, if_neg qa28, if_neg qa28, wsucc hj qa28]⟩
        show (l.getD j z106).f0.size ≤ 1048576
        omega)
    refine ⟨r, ev_same ⟨0, fun k _ => by unfold laws_szArgDefS.f; rw [hw, if_neg h]⟩ he, ?_⟩
    rcases hr with hr | ⟨h2, h3, h4⟩
    · exact .inl hr
    · exact .inr ⟨h2, qa28, qa28, h4⟩
theorem sz_field (x : S101) (a : Int) (h0 : 0 ≤ a) (h1 : a ≤ 1048576) (hi : i101 x) :
    ∃ r, Ev (fun k => laws_szFieldDef.f k x.f0 x.f1 x.f2 x.f3 x.f4 a) r ∧ (r < 0 ∨ 0 ≤ r ∧ r ≤ a ∧ SmF x) := by
  have hw := wsub a x.f0.size h0 h1 hi.1
  by_cases h : a - (x.f0.size : Int) < 0
  · exact ⟨-1, ev_mk 0 (fun k _ => by unfold laws_szFieldDef.f; rw [hw, if_pos h]), .inl qa28⟩
  · obtain ⟨r, he, hr⟩ := sz_args x.f1 (a - (x.f0.size : Int)) qa28 qa28 hi.2.1.1 hi.2.1.2
    obtain ⟨K, hk⟩ := ev_at he
    rcases hr with hr | ⟨h2, h3, h4⟩
    · exact ⟨-1, ev_mk K (fun k hq => by unfold laws_szFieldDef.f; rw [hw, if_neg h, hk k hq, Option.bind_some, if_pos hr]), .inl qa28⟩
    · have hw' := wsub r x.f2.size h2 qa28 hi.2.2.1
      by_cases h5 : r - (x.f2.size : Int) < 0
      · exact ⟨-1, ev_mk K (fun k hq => by unfold laws_szFieldDef.f; rw [hw, if_neg h, hk k hq, Option.bind_some, if_neg qa28, hw', if_pos h5]), .inl qa28⟩
      · exact ⟨r - (x.f2.size : Int), ev_mk K (fun k hq => by unfold laws_szFieldDef.f; rw [hw, if_neg h, hk k hq, Option.bind_some, if_neg qa28, hw', if_neg h5]), .inr ⟨qa28, qa28, qa28, qa28, h4⟩⟩
theorem sz_fields (l : List S101) (a : Int) (h0 : 0 ≤ a) (h1 : a ≤ 1048576) (hl : l.length ≤ 9223372036854775807) (hx : ∀ x ∈ l, i101 x) :
    ∃ r, Ev (fun k => laws_szFieldDefS.f k l a) r ∧ (r < 0 ∨ 0 ≤ r ∧ r ≤ a ∧ l.length ≤ 1048576 ∧ ∀ x ∈ l, SmF x) := by
  have hw := wsub a l.length h0 h1 hl
  by_cases h : a - (l.length : Int) < 0
  · exact ⟨-1, ev_mk 0 (fun k _ => by unfold laws_szFieldDefS.f; rw [hw, if_pos h]), .inl qa28⟩
  · obtain ⟨r, he, hr⟩ := sz_loop l z101 SmF (a - l.length) qa28 (fun k s i => laws_szFieldDefS.l0 k l s i) (fun k s => by simp only [laws_szFieldDefS.l0]; rw [if_neg qa28]) (fun j hj s s0 s1 => by
      obtain ⟨t, te, ht⟩ := sz_field (l.getD j z101) s s0 qa28 (hx _ (getD_mem l z101 j hj))
      obtain ⟨K, hk⟩ := ev_at te
      have hrd : rd_T101 l (j : Int) = l.getD j z101 := rfl
      exact ⟨t, ht, K, fun k hq => by simp only [laws_szFieldDefS.l0]; rw [if_pos qa28, if_pos qa28, hrd, hk k hq, Option.bind_some, wsucc hj qa28]⟩)
    refine ⟨r, ev_same ⟨0, fun k _ => by unfold laws_szFieldDefS.f; rw [hw, if_neg h]⟩ he, ?_⟩
    rcases hr with hr | ⟨h2, h3, h4⟩
    · exact .inl hr
    · exact .inr ⟨h2, qa28, qa28, h4⟩
theorem sz_type (x : S77) (a : Int) (h0 : 0 ≤ a) (h1 : a ≤ 1048576) (hi : i77 x) :
    ∃ r, Ev (fun k => laws_szTypeDef.f k x.f0 x.f1 a) r ∧ (r < 0 ∨ 0 ≤ r ∧ r ≤ a ∧ SmT x) := by
  have hw := wsub a x.f0.size h0 h1 hi.1
  by_cases h : a - (x.f0.size : Int) < 0
  · exact ⟨-1, ev_mk 0 (fun k _ => by unfold laws_szTypeDef.f; rw [hw, if_pos h]), .inl qa28⟩
  · obtain ⟨r, he, hr⟩ := sz_fields x.f1 (a - (x.f0.size : Int)) qa28 qa28 hi.2.1 hi.2.2
    obtain ⟨K, hk⟩ := ev_at he
    rcases hr with hr | ⟨h2, h3, h4⟩
    · exact ⟨-1, ev_mk K (fun k hq => by unfold laws_szTypeDef.f; rw [hw, if_neg h, hk k hq, Option.bind_some, if_pos hr]), .inl qa28⟩
    · exact ⟨r, ev_mk K (fun k hq => by unfold laws_szTypeDef.f; rw [hw, if_neg h, hk k hq, Option.bind_some, if_neg qa28]), .inr ⟨h2, qa28, qa28, h4⟩⟩
theorem sz_schema (l : List S77) (a : Int) (h0 : 0 ≤ a) (h1 : a ≤ 1048576) (hl : l.length ≤ 9223372036854775807) (hx : ∀ x ∈ l, i77 x) :
    ∃ r, Ev (fun k => laws_szSchema.f k l a) r ∧ (r < 0 ∨ 0 ≤ r ∧ r ≤ a ∧ SmS l) := by
  have hw := wsub a l.length h0 h1 hl
  by_cases h : a - (l.length : Int) < 0
  · exact ⟨-1, ev_mk 0 (fun k _ => by unfold laws_szSchema.f laws_szTypeDefS.f; rw [hw, if_pos h]; rfl), .inl qa28⟩
  · obtain ⟨r, he, hr⟩ := sz_loop l z77 SmT (a - l.length) qa28 (fun k s i => laws_szTypeDefS.l0 k l s i) (fun k s => by simp only [laws_szTypeDefS.l0]; rw [if_neg qa28]) (fun j hj s s0 s1 => by
      obtain ⟨t, te, ht⟩ := sz_type (l.getD j z77) s s0 qa28 (hx _ (getD_mem l z77 j hj))
      obtain ⟨K, hk⟩ := ev_at te
      have hrd : rd_T77 l (j : Int) = l.getD j z77 := rfl
      exact ⟨t, ht, K, fun k hq => by simp only [laws_szTypeDefS.l0]; rw [if_pos qa28, if_pos qa28, hrd, hk k hq, Option.bind_some, wsucc hj qa28]⟩)
    obtain ⟨K, hk⟩ := ev_at he
    rcases hr with hr | ⟨h2, h3, h4⟩
    · exact ⟨-1, ev_mk K (fun k hq => by unfold laws_szSchema.f laws_szTypeDefS.f; rw [hw, if_neg h, hk k hq, Option.bind_some, if_pos hr]), .inl qa28⟩
    · exact ⟨r, ev_mk K (fun k hq => by unfold laws_szSchema.f laws_szTypeDefS.f; rw [hw, if_neg h, hk k hq, Option.bind_some, if_neg qa28]), .inr ⟨h2, qa28, qa28, h4⟩⟩
def cvA (x : S106) : S57 := ⟨x.f0, x.f1⟩
def cvF (x : S101) : S38 := ⟨x.f0, x.f1.map cvA, x.f2, x.f3, x.f4⟩
def cvT (x : S77) : S53 := ⟨x.f0, x.f1.map cvF⟩
theorem to_args (l : List S106) (hl : l.length ≤ 1048576) : Ev (fun k => laws_toArgDefS.f k l) (l.map cvA) := by
  have h := fill_loop l z106 cvA (fun k y i => laws_toArgDefS.l0 k l y i) (fun y hy => ⟨0, fun k _ => by simp only [laws_toArgDefS.l0]; rw [if_neg qa28]⟩)
    (fun j y hj hy => ⟨0, fun k _ => by
      simp only [laws_toArgDefS.l0, laws_toArgDef.f]; rw [if_pos qa28, if_pos qa28, Option.bind_some, if_pos qa28, wsucc hj qa28]; rfl⟩) (List.replicate l.length z57) qa79
  refine ev_same ⟨0, fun k _ => ?_⟩ h
  unfold laws_toArgDefS.f
  rw [if_pos qa28, if_pos (by simp; omega), Int.toNat_natCast]
theorem to_fields (l : List S101) (hl : l.length ≤ 1048576) (hx : ∀ x ∈ l, SmF x) : Ev (fun k => laws_toFieldDefS.f k l) (l.map cvF) := by
  have h := fill_loop l z101 cvF (fun k y i => laws_toFieldDefS.l0 k l y i) (fun y hy => ⟨0, fun k _ => by simp only [laws_toFieldDefS.l0]; rw [if_neg qa28]⟩)
    (fun j y hj hy => by
      obtain ⟨K, hk⟩ := ev_at (to_args (l.getD j z101).f1 (hx _ (getD_mem l z101 j hj)).2.2.1)
      have hrd : rd_T101 l (j : Int) = l.getD j z101 := rfl
      exact ⟨K, fun k hq => by
        simp only [laws_toFieldDefS.l0, laws_toFieldDef.f]; rw [if_pos qa28, if_pos qa28, hrd, hk k hq, Option.bind_some, Option.bind_some, if_pos qa28, wsucc hj qa28]; rfl⟩) (List.replicate l.length z38) qa79
  refine ev_same ⟨0, fun k _ => ?_⟩ h
  unfold laws_toFieldDefS.f
  rw [if_pos qa28, if_pos (by simp; omega), Int.toNat_natCast]
theorem to_schema (l : List S77) (hl : SmS l) : Ev (fun k => laws_toSchema.f k l) (l.map cvT) := by
  obtain ⟨hl, hx⟩ := hl
  have h := fill_loop l z77 cvT (fun k y i => laws_toTypeDefS.l0 k l y i) (fun y hy => ⟨0, fun k _ => by simp only [laws_toTypeDefS.l0]; rw [if_neg qa28]⟩)
    (fun j y hj hy => by
      have hm := hx _ (getD_mem l z77 j hj)
      obtain ⟨K, hk⟩ := ev_at (to_fields (l.getD j z77).f1 hm.2.1 hm.2.2)
      have hrd : rd_T77 l (j : Int) = l.getD j z77 := rfl
      exact ⟨K, fun k hq => by
        simp only [laws_toTypeDefS.l0, laws_toTypeDef.f]; rw [if_pos qa28, if_pos qa28, hrd, hk k hq, Option.bind_some, Option.bind_some, if_pos qa28, wsucc hj qa28]; rfl⟩) (List.replicate l.length z53) qa79
  obtain ⟨K, hk⟩ := ev_at h
  refine ev_mk K fun k hq => ?_
  unfold laws_toSchema.f laws_toTypeDefS.f
  rw [if_pos qa28, if_pos (by simp; omega), Int.toNat_natCast, hk k hq]
  rfl
theorem eq_loop {α : Type} (n : Nat) (L : Nat → Int → Option Bool) (hend : ∀ k, L (k + 1) (n : Int) = some true) (hs : ∀ j, j < n → ∃ K, ∀ k, K ≤ k → L (k + 1) (j : Int) = L k ((j + 1 : Nat) : Int)) : Ev (fun k => L k 0) true := by
  obtain ⟨r, hr, he⟩ := count_loop n L (fun _ r => r = true) ⟨true, rfl, ev_now ⟨0, fun k _ => hend k⟩⟩ (fun j hj r hr he => ⟨r, hr, ev_step (hs j hj) he⟩) 0 qa28
  subst hr
  exact he
theorem eq_args (l : List S57) (hl : l.length ≤ 1048576) : Ev (fun k => laws_eqArgDefS.f k l l) true := by
  refine ev_same ⟨0, fun k _ => by unfold laws_eqArgDefS.f; rw [if_pos rfl]⟩ (eq_loop (α := Unit) l.length (fun k i => laws_eqArgDefS.l0 k l l i) (fun k => by simp only [laws_eqArgDefS.l0]; rw [if_neg qa28]) fun j hj => ⟨0, fun k _ => ?_⟩)
  simp only [laws_eqArgDefS.l0, laws_eqArgDef.f, bne_self_eq_false]; rw [if_pos qa28, if_pos qa28, if_pos qa28, if_pos trivial, if_neg qa79, Option.bind_some, if_pos rfl, wsucc hj qa28]
theorem eq_fields (l : List S38) (hl : l.length ≤ 1048576) (hx : ∀ x ∈ l, x.f1.length ≤ 1048576) : Ev (fun k => laws_eqFieldDefS.f k l l) true := by
  refine ev_same ⟨0, fun k _ => by unfold laws_eqFieldDefS.f; rw [if_pos rfl]⟩ (eq_loop (α := Unit) l.length (fun k i => laws_eqFieldDefS.l0 k l l i) (fun k => by simp only [laws_eqFieldDefS.l0]; rw [if_neg qa28]) fun j hj => ?_)
  obtain ⟨K, hk⟩ := ev_at (eq_args (l.getD j z38).f1 (hx _ (getD_mem l z38 j hj)))
  have hrd : rd_T38 l (j : Int) = l.getD j z38 := rfl
  refine ⟨K, fun k hq => ?_⟩
  simp only [laws_eqFieldDefS.l0, laws_eqFieldDef.f, bne_self_eq_false]; rw [if_pos qa28, if_pos qa28, if_pos qa28, if_pos trivial, hrd, hk k hq, Option.bind_some, if_pos rfl, if_pos trivial, if_neg qa79, if_neg qa79, Option.bind_some, if_pos rfl, wsucc hj qa28]
theorem eq_schema (l : List S53) (hl : l.length ≤ 1048576) (hx : ∀ x ∈ l, x.f1.length ≤ 1048576 ∧ ∀ y ∈ x.f1, y.f1.length ≤ 1048576) : Ev (fun k => laws_eqSchema.f k l l) true := by
  have h : Ev (fun k => laws_eqTypeDefS.f k l l) true := by
    refine ev_same ⟨0, fun k _ => by unfold laws_eqTypeDefS.f; rw [if_pos rfl]⟩ (eq_loop (α := Unit) l.length (fun k i => laws_eqTypeDefS.l0 k l l i) (fun k => by simp only [laws_eqTypeDefS.l0]; rw [if_neg qa28]) fun j hj => ?_)
    obtain ⟨K, hk⟩ := ev_at (eq_fields (l.getD j z53).f1 (hx _ (getD_mem l z53 j hj)).1 (hx _ (getD_mem l z53 j hj)).2)
    have hrd : rd_T53 l (j : Int) = l.getD j z53 := rfl
    refine ⟨K, fun k hq => ?_⟩
    simp only [laws_eqTypeDefS.l0, laws_eqTypeDef.f]; rw [if_pos qa28, if_pos qa28, if_pos qa28, if_pos trivial, hrd, hk k hq, Option.bind_some, if_pos rfl, Option.bind_some, if_pos rfl, wsucc hj qa28]
  obtain ⟨K, hk⟩ := ev_at h
  exact ev_mk K fun k hq => by unfold laws_eqSchema.f; rw [hk k hq]; rfl
end Go.Proofs.Ytoogmlghfljeiaa.Pure2
namespace Go.Proofs.Ytoogmlghfljeiaa.Pure2
open Go.RowKit Go.Proofs.Ytoogmlghfljeiaa.Q Go.Proofs.YtoogmlghfljeiaaW.PrintWords Go.Proofs.YtoogmlghfljeiaaW.PrintLast
set_option linter.unusedVariables false
set_option linter.unusedSimpArgs false
/-! whether a schema is one -/
theorem find_ev {α : Type} (l : List α) (z : α) (p : α → Bool) (L : Nat → Int → Option Int) (hend : ∀ k, L (k + 1) (l.length : Int) = some (-1))
    (hs : ∀ k j, j < l.length → L (k + 1) (j : Int) = if p (l.getD j z) = true then some (j : Int) else L k ((j + 1 : Nat) : Int)) : Ev (fun k => L k 0) (match l.findIdx? p with | some i => (i : Int) | none => -1) := by
  obtain ⟨r, hr, he⟩ := count_loop l.length L (fun j r => r = match (l.drop j).findIdx? p with | some i => ((i + j : Nat) : Int) | none => -1) ⟨-1, by rw [List.drop_eq_nil_of_le (Nat.le_refl _)]; rfl, ev_now ⟨0, fun k _ => hend k⟩⟩
    (fun j hj r hr he => by
      have hg : l.getD j z = l[j] := by rw [List.getD_eq_getElem?_getD, List.getElem?_eq_getElem hj]; rfl
      rw [List.drop_eq_getElem_cons hj, List.findIdx?_cons]
      cases hc : p l[j] with
      | true => exact ⟨(j : Int), by rw [if_pos rfl]; simp, ev_now ⟨0, fun k _ => by rw [hs k j hj, hg, hc, if_pos rfl]⟩⟩
      | false =>
        refine ⟨r, ?_, ev_step ⟨0, fun k _ => by rw [hs k j hj, hg, hc, if_neg qa79]⟩ he⟩
        rw [hr, if_neg qa79]
        cases (l.drop (j + 1)).findIdx? p with
        | none => rfl
        | some i => simp only [Option.map_some]; congr 1; omega) 0 qa28
  rw [List.drop_zero] at hr
  subst hr
  exact he
theorem find_type (l : List S53) (s : ByteArray) (hl : l.length ≤ 1048576) : ∃ r, Ev (fun k => spec_l03Find.f k l s) r ∧ impl_Schema_typeAt.f l s = some r :=
  ⟨_, find_ev l z53 (fun x => x.f0.toList == s.toList) (fun k i => spec_l03Find.l0 k s i l) (fun k => by simp only [spec_l03Find.l0]; rw [if_neg qa28])
    (fun k j hj => by
      have hrd : rd_T53 l (j : Int) = l.getD j z53 := rfl
      conv => lhs; simp only [spec_l03Find.l0]
      rw [if_pos qa28, if_pos qa28, hrd, wsucc hj qa28]
      simp only [beq_iff_eq]), rfl⟩
theorem find_field (l : List S38) (nm s : ByteArray) (hl : l.length ≤ 1048576) : ∃ r, Ev (fun k => spec_l03Field.f k nm l s) r ∧ impl_TypeDef_fieldAt.f nm l s = some r :=
  ⟨_, find_ev l z38 (fun x => x.f0.toList == s.toList) (fun k i => spec_l03Field.l0 k s i nm l) (fun k => by simp only [spec_l03Field.l0]; rw [if_neg qa28])
    (fun k j hj => by
      have hrd : rd_T38 l (j : Int) = l.getD j z38 := rfl
      conv => lhs; simp only [spec_l03Field.l0]
      rw [if_pos qa28, if_pos qa28, hrd, wsucc hj qa28]
      simp only [beq_iff_eq]), rfl⟩
theorem find_arg (l : List S57) (nm t : ByteArray) (b c : Bool) (s : ByteArray) (hl : l.length ≤ 1048576) : ∃ r, Ev (fun k => spec_l03Arg.f k nm l t b c s) r ∧ impl_FieldDef_argAt.f nm l t b c s = some r :=
  ⟨_, find_ev l z57 (fun x => x.f0.toList == s.toList) (fun k i => spec_l03Arg.l0 k s i nm l t b c) (fun k => by simp only [spec_l03Arg.l0]; rw [if_neg qa28])
    (fun k j hj => by
      have hrd : rd_T57 l (j : Int) = l.getD j z57 := rfl
      conv => lhs; simp only [spec_l03Arg.l0]
      rw [if_pos qa28, if_pos qa28, hrd, wsucc hj qa28]
      simp only [beq_iff_eq]), rfl⟩
def CmF (x : S38) : Prop := x.f0.size ≤ 1048576 ∧ x.f1.length ≤ 1048576 ∧ ∀ y ∈ x.f1, y.f0.size ≤ 1048576
def CmT (x : S53) : Prop := x.f0.size ≤ 1048576 ∧ x.f1.length ≤ 1048576 ∧ ∀ y ∈ x.f1, CmF y
def CmS (l : List S53) : Prop := l.length ≤ 1048576 ∧ ∀ y ∈ l, CmT y
theorem args_agree (fd : S38) (hf : CmF fd) (i j : Nat) (T : List S53) (nm : ByteArray) (fs : List S38) (hj : j < fs.length) (hfs : fs.length ≤ 1048576) (R : Bool) (hR : Ev (fun k => spec_SchemaOK.l1 k (i : Int) ((j + 1 : Nat) : Int) T nm fs) R) :
    ∃ b, Ev (fun k => spec_SchemaOK.l2 k (i : Int) (j : Int) 0 T nm fs fd.f0 fd.f1 fd.f2 fd.f3 fd.f4) (if b = true then R else false) ∧ Ev (fun k => impl_Schema_fieldOK.l0 k fd.f1 (fd.f1.length : Int) 0 fd.f0 fd.f1 fd.f2 fd.f3 fd.f4) b := by
  have hl := hf.2.1
  obtain ⟨b, h1, h2⟩ := count_loop fd.f1.length (fun k q => impl_Schema_fieldOK.l0 k fd.f1 (fd.f1.length : Int) q fd.f0 fd.f1 fd.f2 fd.f3 fd.f4) (fun q b => Ev (fun k => spec_SchemaOK.l2 k (i : Int) (j : Int) (q : Int) T nm fs fd.f0 fd.f1 fd.f2 fd.f3 fd.f4) (if b = true then R else false))
    ⟨true, by rw [if_pos rfl]; exact ev_step ⟨0, fun k _ => by simp only [spec_SchemaOK.l2]; rw [if_neg (by omega), wsucc hj (by omega)]⟩ hR, ev_now ⟨0, fun k _ => by simp only [impl_Schema_fieldOK.l0]; rw [if_neg qa28]⟩⟩
    (fun q hq b hp he => by
      have hrd : rd_T57 fd.f1 (q : Int) = fd.f1.getD q z57 := rfl
      obtain ⟨n, n1, n2, _⟩ := names_ev (fd.f1.getD q z57).f0 (hf.2.2 _ (getD_mem fd.f1 z57 q hq))
      obtain ⟨t, t1, t2⟩ := find_arg fd.f1 fd.f0 fd.f2 fd.f3 fd.f4 (fd.f1.getD q z57).f0 hl
      obtain ⟨K1, n1⟩ := ev_at n1
      obtain ⟨K2, n2⟩ := ev_at n2
      obtain ⟨K3, t1⟩ := ev_at t1
      cases n with
      | false =>
        refine ⟨false, ?_, ev_now ⟨K2, fun k hk => by simp only [impl_Schema_fieldOK.l0]; rw [if_pos qa28, if_pos qa28, if_pos qa28, hrd, n2 k hk]; rfl⟩⟩
        exact ev_now ⟨K1, fun k hk => by simp only [spec_SchemaOK.l2]; rw [if_pos qa28, if_pos qa28, hrd, n1 k hk]; rfl⟩
      | true =>
        by_cases ht : t = (q : Int)
        · refine ⟨b, ev_step ⟨K1 + K3, fun k hk => ?_⟩ hp, ev_step ⟨K2, fun k hk => ?_⟩ he⟩
          · simp only [spec_SchemaOK.l2]; rw [if_pos qa28, if_pos qa28, hrd, n1 k qa28, Option.bind_some, if_pos rfl, t1 k qa28, Option.bind_some, if_pos ht, wsucc hq qa28]
          · simp only [impl_Schema_fieldOK.l0]; rw [if_pos qa28, if_pos qa28, if_pos qa28, hrd, n2 k hk, Option.bind_some, if_pos rfl, t2, Option.bind_some, if_pos ht, wsucc hq qa28]
        · refine ⟨false, ?_, ev_now ⟨K2, fun k hk => by simp only [impl_Schema_fieldOK.l0]; rw [if_pos qa28, if_pos qa28, if_pos qa28, hrd, n2 k hk, Option.bind_some, if_pos rfl, t2, Option.bind_some, if_neg ht]⟩⟩
          exact ev_now ⟨K1 + K3, fun k hk => by simp only [spec_SchemaOK.l2]; rw [if_pos qa28, if_pos qa28, hrd, n1 k qa28, Option.bind_some, if_pos rfl, t1 k qa28, Option.bind_some, if_neg ht]; rfl⟩) 0 qa28
  exact ⟨b, h1, h2⟩
theorem fields_agree (T : List S53) (hT : T.length ≤ 1048576) (i : Nat) (hi : i < T.length) (nm : ByteArray) (fs : List S38) (hl : fs.length ≤ 1048576) (hx : ∀ x ∈ fs, CmF x) (R : Bool) (hR : Ev (fun k => spec_SchemaOK.l0 k ((i + 1 : Nat) : Int) T) R) (hR' : Ev (fun k => impl_SchemaOK.l0 k T (T.length : Int) ((i + 1 : Nat) : Int) T) R) :
    ∃ r, Ev (fun k => spec_SchemaOK.l1 k (i : Int) 0 T nm fs) r ∧ Ev (fun k => impl_SchemaOK.l1 k T (T.length : Int) (i : Int) fs (fs.length : Int) 0 T nm fs) r := by
  obtain ⟨r, h1, h2⟩ := count_loop fs.length (fun k q => impl_SchemaOK.l1 k T (T.length : Int) (i : Int) fs (fs.length : Int) q T nm fs) (fun q r => Ev (fun k => spec_SchemaOK.l1 k (i : Int) (q : Int) T nm fs) r)
    ⟨R, ev_step ⟨0, fun k _ => by simp only [spec_SchemaOK.l1]; rw [if_neg qa28, wsucc hi qa28]⟩ hR, ev_step ⟨0, fun k _ => by simp only [impl_SchemaOK.l1]; rw [if_neg qa28, wsucc hi qa28]⟩ hR'⟩
    (fun q hq r hp he => by
      have hrd : rd_T38 fs (q : Int) = fs.getD q z38 := rfl
      have hm := hx _ (getD_mem fs z38 q hq)
      obtain ⟨n, n1, n2, _⟩ := names_ev (fs.getD q z38).f0 hm.1
      obtain ⟨u, u1, u2⟩ := find_field fs nm (fs.getD q z38).f0 hl
      obtain ⟨t, t1, t2⟩ := find_type T (fs.getD q z38).f2 hT
      obtain ⟨b, b1, b2⟩ := args_agree (fs.getD q z38) hm i q T nm fs hq hl r hp
      obtain ⟨K1, n1⟩ := ev_at n1
      obtain ⟨K2, n2⟩ := ev_at n2
      obtain ⟨K3, u1⟩ := ev_at u1
      obtain ⟨K4, t1⟩ := ev_at t1
      obtain ⟨K5, b1⟩ := ev_at b1
      obtain ⟨K6, b2⟩ := ev_at b2
      obtain ⟨K7, he⟩ := ev_at he
      generalize fs.getD q z38 = fd at *
      refine ⟨if n = true then (if fd.f0.toList = ([95, 95, 116, 121, 112, 101, 110, 97, 109, 101] : List UInt8) then false else if u = (q : Int) then (if fd.f2.toList = ([73, 110, 116] : List UInt8) then (if (fd.f1.length : Int) > 4 then false else if b = true then r else false) else if t < 0 then false else if (fd.f1.length : Int) > 4 then false else if b = true then r else false) else false) else false, ev_mk (K1 + K3 + K4 + K5 + 2) fun k hk => ?_, ev_mk (K2 + K6 + K7 + 2) fun k hk => ?_⟩
      · obtain ⟨k, rfl⟩ : ∃ m, k = m + 2 := ⟨k - 2, qa28⟩
        simp only [spec_SchemaOK.l1, spec_SchemaOK.j4]
        rw [if_pos qa28, if_pos qa28, hrd, n1 _ qa28, Option.bind_some, u1 _ qa28, Option.bind_some, t1 _ qa28, Option.bind_some, b1 k qa28]
        by_cases c1 : n = true
        · rw [if_pos c1, if_pos c1]
          by_cases c2 : fd.f0.toList = ([95, 95, 116, 121, 112, 101, 110, 97, 109, 101] : List UInt8)
          · rw [if_pos c2, if_pos c2]; rfl
          · rw [if_neg c2, if_neg c2]
            by_cases c3 : u = (q : Int)
            · rw [if_pos c3, if_pos c3]
              by_cases c4 : fd.f2.toList = ([73, 110, 116] : List UInt8)
              · rw [if_pos c4, if_pos c4]
                by_cases c6 : (fd.f1.length : Int) > 4
                · rw [if_pos c6, if_pos (decide_eq_true c6)]
                · rw [if_neg c6, if_neg qa103]
              · rw [if_neg c4, if_neg c4]
                by_cases c5 : t < 0
                · rw [if_pos c5, if_pos c5]; rfl
                · rw [if_neg c5, if_neg c5]
                  by_cases c6 : (fd.f1.length : Int) > 4
                  · rw [if_pos c6, if_pos (decide_eq_true c6)]
                  · rw [if_neg c6, if_neg qa103]
            · rw [if_neg c3, if_neg c3]; rfl
        · rw [if_neg c1, if_neg c1]; rfl
      · obtain ⟨k, rfl⟩ : ∃ m, k = m + 2 := ⟨k - 2, qa28⟩
        rw [impl_SchemaOK.l1]
        simp only [impl_Schema_fieldOK.f, impl_Schema_fieldOK.j0]
        rw [if_pos qa28, if_pos qa28, if_pos qa28, hrd, n2 _ qa28, Option.bind_some, t2, Option.bind_some, u2, Option.bind_some, wsucc hq qa28, he _ qa28, b2 k qa28]
        by_cases c1 : n = true
        · rw [if_pos c1, if_pos c1]
          by_cases c2 : fd.f0.toList = ([95, 95, 116, 121, 112, 101, 110, 97, 109, 101] : List UInt8)
          · rw [if_pos c2, if_pos c2]; rfl
          · rw [if_neg c2, if_neg c2]
            by_cases c4 : fd.f2.toList = ([73, 110, 116] : List UInt8)
            · rw [if_pos c4, if_pos c4]
              by_cases c6 : (fd.f1.length : Int) > 4
              · rw [if_pos c6, if_pos (decide_eq_true c6)]; simp
              · rw [if_neg c6, if_neg qa103]
                by_cases c3 : u = (q : Int)
                · rw [if_pos c3, if_pos c3]; cases b <;> rfl
                · rw [if_neg c3, if_neg c3]; cases b <;> rfl
            · rw [if_neg c4, if_neg c4]
              by_cases c5 : t < 0
              · rw [if_pos c5, if_pos c5]; simp
              · rw [if_neg c5, if_neg c5]
                by_cases c6 : (fd.f1.length : Int) > 4
                · rw [if_pos c6, if_pos (decide_eq_true c6)]; simp
                · rw [if_neg c6, if_neg qa103]
                  by_cases c3 : u = (q : Int)
                  · rw [if_pos c3, if_pos c3]; cases b <;> rfl
                  · rw [if_neg c3, if_neg c3]; cases b <;> rfl
        · rw [if_neg c1, if_neg c1]; rfl) 0 qa28
  exact ⟨r, h1, h2⟩
theorem schema_agree (T : List S53) (hT : CmS T) : ∃ r, Ev (fun k => spec_SchemaOK.f k T) r ∧ Ev (fun k => impl_SchemaOK.f k T) r := by
  obtain ⟨hl, hx⟩ := hT
  obtain ⟨R, h1, h2⟩ := count_loop T.length (fun k q => impl_SchemaOK.l0 k T (T.length : Int) q T) (fun q r => Ev (fun k => spec_SchemaOK.l0 k (q : Int) T) r)
    ⟨true, ev_now ⟨0, fun k _ => by simp only [spec_SchemaOK.l0]; rw [if_neg qa28]⟩, ev_now ⟨0, fun k _ => by simp only [impl_SchemaOK.l0]; rw [if_neg qa28]⟩⟩
    (fun q hq r hp he => by
      have hrd : rd_T53 T (q : Int) = T.getD q z53 := rfl
      have hm := hx _ (getD_mem T z53 q hq)
      obtain ⟨n, n1, n2, _⟩ := names_ev (T.getD q z53).f0 hm.1
      obtain ⟨t, t1, t2⟩ := find_type T (T.getD q z53).f0 hl
      obtain ⟨b, b1, b2⟩ := fields_agree T hl q hq (T.getD q z53).f0 (T.getD q z53).f1 hm.2.1 hm.2.2 r hp he
      obtain ⟨K1, n1⟩ := ev_at n1
      obtain ⟨K2, n2⟩ := ev_at n2
      obtain ⟨K4, t1⟩ := ev_at t1
      obtain ⟨K5, b1⟩ := ev_at b1
      obtain ⟨K6, b2⟩ := ev_at b2
      generalize T.getD q z53 = td at *
      refine ⟨if n = true then (if td.f0.toList = ([73, 110, 116] : List UInt8) then false else if t = (q : Int) then (if decide (1 ≤ (td.f1.length : Int) ∧ (td.f1.length : Int) ≤ 10) = true then b else false) else false) else false, ev_mk (K1 + K4 + K5 + 2) fun k hk => ?_, ev_mk (K2 + K6 + 2) fun k hk => ?_⟩
      · obtain ⟨k, rfl⟩ : ∃ m, k = m + 2 := ⟨k - 2, qa28⟩
        simp only [spec_SchemaOK.l0, spec_SchemaOK.j2]
        rw [if_pos qa28, if_pos qa28, hrd, n1 _ qa28, Option.bind_some, t1 _ qa28, Option.bind_some, spec_in, Option.bind_some, b1 k qa28]
        by_cases c1 : n = true
        · rw [if_pos c1, if_pos c1]
          by_cases c2 : td.f0.toList = ([73, 110, 116] : List UInt8)
          · rw [if_pos c2, if_pos c2]; rfl
          · rw [if_neg c2, if_neg c2]
            by_cases c3 : t = (q : Int)
            · rw [if_pos c3, if_pos c3]
              cases decide (1 ≤ (td.f1.length : Int) ∧ (td.f1.length : Int) ≤ 10) <;> rfl
            · rw [if_neg c3, if_neg c3]; rfl
        · rw [if_neg c1, if_neg c1]; rfl
      · obtain ⟨k, rfl⟩ : ∃ m, k = m + 2 := ⟨k - 2, qa28⟩
        simp only [impl_SchemaOK.l0, impl_SchemaOK.j2]
        rw [if_pos qa28, if_pos qa28, if_pos qa28, hrd, n2 _ qa28, Option.bind_some, t2, Option.bind_some, impl_in, Option.bind_some, b2 k qa28]
        by_cases c1 : n = true
        · rw [if_pos c1, if_pos c1]
          by_cases c2 : td.f0.toList = ([73, 110, 116] : List UInt8)
          · rw [if_pos c2, if_pos c2]; rfl
          · rw [if_neg c2, if_neg c2]
            by_cases c3 : t = (q : Int)
            · rw [if_pos c3, if_pos c3]
              cases decide (1 ≤ (td.f1.length : Int) ∧ (td.f1.length : Int) ≤ 10) <;> rfl
            · rw [if_neg c3, if_neg c3]; rfl
        · rw [if_neg c1, if_neg c1]; rfl) 0 qa28
  obtain ⟨t, t1, t2⟩ := find_type T (⟨#[81, 117, 101, 114, 121]⟩ : ByteArray) hl
  obtain ⟨K1, t1⟩ := ev_at t1
  obtain ⟨K2, h1⟩ := ev_at h1
  obtain ⟨K3, h2⟩ := ev_at h2
  refine ⟨if decide (1 ≤ (T.length : Int) ∧ (T.length : Int) ≤ 8) = true then (if t < 0 then false else R) else false, ev_mk (K1 + K2 + 2) fun k hk => ?_, ev_mk (K3 + 2) fun k hk => ?_⟩
  · obtain ⟨k, rfl⟩ : ∃ m, k = m + 1 := ⟨k - 1, qa28⟩
    simp only [spec_SchemaOK.f, spec_SchemaOK.j0]
    rw [spec_in, Option.bind_some, t1 _ qa28, Option.bind_some, show spec_SchemaOK.l0 k 0 T = some R from h1 k qa28]
    cases decide (1 ≤ (T.length : Int) ∧ (T.length : Int) ≤ 8) with
    | false => rfl
    | true =>
      by_cases c : t < 0
      · rw [if_pos rfl, if_pos rfl, if_pos c, if_pos (decide_eq_true c)]
      · rw [if_pos rfl, if_pos rfl, if_neg c, if_neg (by rw [decide_eq_false c]; simp)]
  · obtain ⟨k, rfl⟩ : ∃ m, k = m + 1 := ⟨k - 1, qa28⟩
    simp only [impl_SchemaOK.f, impl_SchemaOK.j0]
    rw [impl_in, Option.bind_some, t2, Option.bind_some, show impl_SchemaOK.l0 k T (T.length : Int) 0 T = some R from h2 k qa28]
    cases decide (1 ≤ (T.length : Int) ∧ (T.length : Int) ≤ 8) with
    | false => rfl
    | true =>
      by_cases c : t < 0
      · rw [if_pos rfl, if_pos rfl, if_pos c, if_pos (decide_eq_true c)]
      · rw [if_pos rfl, if_pos rfl, if_neg c, if_neg (by rw [decide_eq_false c]; simp)]
theorem small_S (l : List S77) (h : SmS l) : CmS (l.map cvT) := by
  refine ⟨by rw [List.length_map]; exact h.1, fun x hx => ?_⟩
  obtain ⟨y, hy, rfl⟩ := List.mem_map.1 hx
  have h1 := h.2 y hy
  refine ⟨h1.1, by show (y.f1.map cvF).length ≤ _; rw [List.length_map]; exact h1.2.1, fun u hu => ?_⟩
  obtain ⟨v, hv, rfl⟩ := List.mem_map.1 hu
  have h2 := h1.2.2 v hv
  refine ⟨h2.1, by show (v.f1.map cvA).length ≤ _; rw [List.length_map]; exact h2.2.2.1, fun p hp => ?_⟩
  obtain ⟨o, ho, rfl⟩ := List.mem_map.1 hp
  exact h2.2.2.2 o ho
end Go.Proofs.Ytoogmlghfljeiaa.Pure2
namespace Go.Proofs.Ytoogmlghfljeiaa.Pure2
open Go.RowKit Go.Proofs.Ytoogmlghfljeiaa.Q Go.Proofs.YtoogmlghfljeiaaW.PrintWords Go.Proofs.YtoogmlghfljeiaaW.PrintLast
set_option linter.unusedVariables false
set_option linter.unusedSimpArgs false
/-! what a right schema is: names, and how many of what -/
theorem name_of (k : Nat) (s : ByteArray) (hs : s.size ≤ 1048576) (h : spec_NameOK.f k s = some true) : IsName s := by
  obtain ⟨r, hr, _, hi⟩ := names_ev s hs
  obtain ⟨K, hK⟩ := ev_at hr
  have hm : ∀ d, spec_NameOK.f (k + d) s = some true := by
    intro d
    induction d with
    | zero => exact h
    | succ d ih => exact spec_NameOK.mono s (k + d) _ ih
  have e := hm K
  rw [hK (k + K) qa28] at e
  exact hi.1 (Option.some.inj e)
theorem args_right (i j : Int) (T : List S53) (nm : ByteArray) (fs : List S38) (fd : S38) (hf : CmF fd) : ∀ (k : Nat) (q : Nat), spec_SchemaOK.l2 k i j (q : Int) T nm fs fd.f0 fd.f1 fd.f2 fd.f3 fd.f4 = some true → q ≤ fd.f1.length →
    (∀ p, q ≤ p → p < fd.f1.length → IsName (fd.f1.getD p z57).f0) ∧ ∃ k', k' < k ∧ spec_SchemaOK.l1 k' i (wrap64 (j + 1)) T nm fs = some true := by
  intro k
  induction k with
  | zero => intro q h; simp [spec_SchemaOK.l2] at h
  | succ k ih =>
    intro q h hq
    have hl := hf.2.1
    simp only [spec_SchemaOK.l2] at h
    by_cases hlt : (q : Int) < (fd.f1.length : Int)
    · rw [if_pos hlt, if_pos qa28] at h
      obtain ⟨n, hn, h⟩ := Option.bind_eq_some_iff.mp h
      cases n with
      | false => simp at h
      | true =>
        rw [if_pos rfl] at h
        obtain ⟨t, ht, h⟩ := Option.bind_eq_some_iff.mp h
        by_cases e : t = (q : Int)
        · rw [if_pos e, wsucc (show q < fd.f1.length by omega) qa28] at h
          obtain ⟨h1, k', hk, h2⟩ := ih (q + 1) h qa28
          refine ⟨fun p hp hp' => ?_, k', qa28, h2⟩
          rcases Nat.lt_or_eq_of_le hp with h3 | rfl
          · exact h1 p h3 hp'
          · exact name_of k _ (hf.2.2 _ (getD_mem fd.f1 z57 q hp')) hn
        · rw [if_neg e] at h; simp at h
    · rw [if_neg hlt] at h
      exact ⟨fun p hp hp' => by omega, k, qa28, h⟩
theorem find_mem (T : List S53) (s : ByteArray) (hl : T.length ≤ 1048576) (t : Int) (h0 : 0 ≤ t) : ∀ (k q : Nat), spec_l03Find.l0 k s (q : Int) T = some t → q ≤ T.length → ∃ x ∈ T, x.f0.toList = s.toList := by
  intro k
  induction k with
  | zero => intro q h; simp [spec_l03Find.l0] at h
  | succ k ih =>
    intro q h hq
    rw [spec_l03Find.l0] at h
    by_cases hlt : (q : Int) < (T.length : Int)
    · have hrd : rd_T53 T (q : Int) = T.getD q z53 := rfl
      rw [if_pos hlt, if_pos qa28, hrd, wsucc (show q < T.length by omega) qa28] at h
      split at h
      · rename_i he; exact ⟨_, getD_mem T z53 q qa28, he⟩
      · exact ih (q + 1) h qa28
    · rw [if_neg hlt] at h
      have := Option.some.inj h
      omega
def RightF (T : List S53) (f : S38) : Prop := IsName f.f0 ∧ (f.f2.toList = [73, 110, 116] ∨ ∃ x ∈ T, x.f0.toList = f.f2.toList) ∧ f.f1.length ≤ 4 ∧ ∀ a ∈ f.f1, IsName a.f0
theorem fields_right (i : Int) (T : List S53) (hTl : T.length ≤ 1048576) (nm : ByteArray) (fs : List S38) (hl : fs.length ≤ 1048576) (hx : ∀ x ∈ fs, CmF x) : ∀ (K k : Nat), k ≤ K → ∀ (q : Nat), spec_SchemaOK.l1 k i (q : Int) T nm fs = some true → q ≤ fs.length →
    (∀ p, q ≤ p → p < fs.length → RightF T (fs.getD p z38)) ∧ ∃ k', k' < k ∧ spec_SchemaOK.l0 k' (wrap64 (i + 1)) T = some true := by
  intro K
  induction K with
  | zero => intro k hk q h; obtain rfl : k = 0 := by omega
            simp [spec_SchemaOK.l1] at h
  | succ K ih =>
    intro k hk q h hq
    cases k with
    | zero => simp [spec_SchemaOK.l1] at h
    | succ k =>
      rw [spec_SchemaOK.l1] at h
      by_cases hlt : (q : Int) < (fs.length : Int)
      · have hrd : rd_T38 fs (q : Int) = fs.getD q z38 := rfl
        have hm := hx _ (getD_mem fs z38 q qa28)
        have go : ∀ b, spec_SchemaOK.j4 k i (q : Int) b T nm fs (fs.getD q z38).f0 (fs.getD q z38).f1 (fs.getD q z38).f2 (fs.getD q z38).f3 (fs.getD q z38).f4 = some true → b = false ∧ (∀ a ∈ (fs.getD q z38).f1, IsName a.f0) ∧ (∀ p, q + 1 ≤ p → p < fs.length → RightF T (fs.getD p z38)) ∧ ∃ k', k' < k + 1 ∧ spec_SchemaOK.l0 k' (wrap64 (i + 1)) T = some true := by
          intro b hb
          cases k with
          | zero => simp [spec_SchemaOK.j4] at hb
          | succ k =>
            simp only [spec_SchemaOK.j4] at hb
            cases b with
            | true => simp at hb
            | false =>
              rw [if_neg qa79] at hb
              obtain ⟨h1, k1, hk1, h2⟩ := args_right i (q : Int) T nm fs _ hm k 0 hb qa28
              rw [wsucc (show q < fs.length by omega) qa28] at h2
              obtain ⟨h3, k2, hk2, h4⟩ := ih k1 qa28 (q + 1) h2 qa28
              refine ⟨rfl, fun a ha => ?_, h3, k2, qa28, h4⟩
              obtain ⟨p, hp, rfl⟩ := List.getElem_of_mem ha
              have := h1 p qa28 hp
              rw [List.getD_eq_getElem?_getD, List.getElem?_eq_getElem hp] at this
              exact this
        rw [if_pos hlt, if_pos qa28, hrd] at h
        obtain ⟨n, hn, h⟩ := Option.bind_eq_some_iff.mp h
        cases n with
        | false => rw [if_neg qa79] at h; exact absurd (go _ h).1 qa79
        | true =>
          rw [if_pos rfl] at h
          have fin : ((fs.getD q z38).f2.toList = [73, 110, 116] ∨ ∃ x ∈ T, x.f0.toList = (fs.getD q z38).f2.toList) → ∀ b, b = decide (((fs.getD q z38).f1.length : Int) > 4) → spec_SchemaOK.j4 k i (q : Int) b T nm fs (fs.getD q z38).f0 (fs.getD q z38).f1 (fs.getD q z38).f2 (fs.getD q z38).f3 (fs.getD q z38).f4 = some true → (∀ p, q ≤ p → p < fs.length → RightF T (fs.getD p z38)) ∧ ∃ k', k' < k + 1 ∧ spec_SchemaOK.l0 k' (wrap64 (i + 1)) T = some true := by
            intro hty b hb hj
            obtain ⟨g1, g2, g3, g4⟩ := go b hj
            rw [g1] at hb
            have h4 := of_decide_eq_false hb.symm
            refine ⟨fun p hp hp' => ?_, g4⟩
            rcases Nat.lt_or_eq_of_le hp with h3 | rfl
            · exact g3 p h3 hp'
            · exact ⟨name_of k _ hm.1 hn, hty, qa28, g2⟩
          split at h
          · exact absurd (go _ h).1 qa79
          · obtain ⟨u, hu, h⟩ := Option.bind_eq_some_iff.mp h
            split at h
            · split at h
              · rename_i he; exact fin (.inl he) _ rfl h
              · obtain ⟨t, ht, h⟩ := Option.bind_eq_some_iff.mp h
                split at h
                · exact absurd (go _ h).1 qa79
                · exact fin (.inr (find_mem T _ hTl t qa28 k 0 ht qa28)) _ rfl h
            · exact absurd (go _ h).1 qa79
      · rw [if_neg hlt] at h
        exact ⟨fun p hp hp' => by omega, k, qa28, h⟩
def RightT (T : List S53) (t : S53) : Prop := IsName t.f0 ∧ t.f1.length ≤ 10 ∧ ∀ f ∈ t.f1, RightF T f
theorem types_right (T : List S53) (hT : CmS T) : ∀ (K k : Nat), k ≤ K → ∀ (q : Nat), spec_SchemaOK.l0 k (q : Int) T = some true → q ≤ T.length → ∀ p, q ≤ p → p < T.length → RightT T (T.getD p z53) := by
  obtain ⟨hl, hx⟩ := hT
  intro K
  induction K with
  | zero => intro k hk q h; obtain rfl : k = 0 := by omega
            simp [spec_SchemaOK.l0] at h
  | succ K ih =>
    intro k hk q h hq
    cases k with
    | zero => simp [spec_SchemaOK.l0] at h
    | succ k =>
      rw [spec_SchemaOK.l0] at h
      by_cases hlt : (q : Int) < (T.length : Int)
      · have hrd : rd_T53 T (q : Int) = T.getD q z53 := rfl
        have hm := hx _ (getD_mem T z53 q qa28)
        have go : ∀ b, spec_SchemaOK.j2 k (q : Int) b T (T.getD q z53).f0 (T.getD q z53).f1 = some true → b = false ∧ (∀ f ∈ (T.getD q z53).f1, RightF T f) ∧ ∀ p, q + 1 ≤ p → p < T.length → RightT T (T.getD p z53) := by
          intro b hb
          cases k with
          | zero => simp [spec_SchemaOK.j2] at hb
          | succ k =>
            simp only [spec_SchemaOK.j2] at hb
            cases b with
            | true => simp at hb
            | false =>
              rw [if_neg qa79] at hb
              obtain ⟨h1, k1, hk1, h2⟩ := fields_right (q : Int) T hl _ _ hm.2.1 hm.2.2 k k (Nat.le_refl _) 0 hb qa28
              rw [wsucc (show q < T.length by omega) qa28] at h2
              refine ⟨rfl, fun f hf => ?_, ih k1 qa28 (q + 1) h2 qa28⟩
              obtain ⟨p, hp, rfl⟩ := List.getElem_of_mem hf
              have := h1 p qa28 hp
              rw [List.getD_eq_getElem?_getD, List.getElem?_eq_getElem hp] at this
              exact this
        rw [if_pos hlt, if_pos qa28, hrd] at h
        obtain ⟨n, hn, h⟩ := Option.bind_eq_some_iff.mp h
        cases n with
        | false => rw [if_neg qa79] at h; exact absurd (go _ h).1 qa79
        | true =>
          rw [if_pos rfl] at h
          split at h
          · exact absurd (go _ h).1 qa79
          · obtain ⟨u, hu, h⟩ := Option.bind_eq_some_iff.mp h
            split at h
            · rw [spec_in, Option.bind_some] at h
              obtain ⟨g1, g2, g3⟩ := go _ h
              intro p hp hp'
              rcases Nat.lt_or_eq_of_le hp with h3 | rfl
              · exact g3 p h3 hp'
              · have := of_decide_eq_true (Bool.not_eq_false' .. ▸ g1 : decide _ = true)
                exact ⟨name_of k _ hm.1 hn, qa28, g2⟩
            · exact absurd (go _ h).1 qa79
      · intro p hp hp'; omega
theorem schema_right (k : Nat) (T : List S53) (hT : CmS T) (h : spec_SchemaOK.f k T = some true) : 1 ≤ T.length ∧ T.length ≤ 8 ∧ ∀ t ∈ T, RightT T t := by
  unfold spec_SchemaOK.f at h
  rw [spec_in, Option.bind_some] at h
  have go : ∀ b, spec_SchemaOK.j0 k b T = some true → b = false ∧ ∀ t ∈ T, RightT T t := by
    intro b hb
    cases k with
    | zero => simp [spec_SchemaOK.j0] at hb
    | succ k =>
      simp only [spec_SchemaOK.j0] at hb
      cases b with
      | true => simp at hb
      | false =>
        rw [if_neg qa79] at hb
        refine ⟨rfl, fun t ht => ?_⟩
        obtain ⟨p, hp, rfl⟩ := List.getElem_of_mem ht
        have := types_right T hT k k (Nat.le_refl _) 0 hb qa28 p qa28 hp
        rw [List.getD_eq_getElem?_getD, List.getElem?_eq_getElem hp] at this
        exact this
  split at h
  · rename_i hd
    have hd := of_decide_eq_true hd
    obtain ⟨t, ht, h⟩ := Option.bind_eq_some_iff.mp h
    exact ⟨qa28, qa28, (go _ h).2⟩
  · exact absurd (go _ h).1 qa79
/-! the tokens of a schema tell it -/
theorem toList_loop_spec (b : ByteArray) : ∀ (d i : Nat) (r : List UInt8), b.size - i = d → ByteArray.toList.loop b i r = r.reverse ++ b.data.toList.drop i := by
  have hsz : b.data.toList.length = b.size := Array.length_toList ..
  intro d
  induction d with
  | zero =>
    intro i r h
    unfold ByteArray.toList.loop
    rw [if_neg qa28, List.drop_eq_nil_of_le qa28, List.append_nil]
  | succ d ih =>
    intro i r h
    have hi : i < b.data.toList.length := by omega
    unfold ByteArray.toList.loop
    rw [if_pos qa28, ih (i + 1) _ qa28, List.reverse_cons, List.append_assoc, List.singleton_append, List.drop_eq_getElem_cons hi]
    have hg : b.get! i = b.data.toList[i] := by
      show b.data[i]! = _
      rw [getElem!_pos b.data i (by rw [← Array.length_toList]; exact hi), Array.getElem_toList]
    rw [hg]
theorem toList_data (b : ByteArray) : b.toList = b.data.toList := by
  unfold ByteArray.toList
  rw [toList_loop_spec b _ 0 [] rfl]
  rfl
def Wd (t : List UInt8) : Prop := t ≠ [40] ∧ t ≠ [41] ∧ t ≠ [58] ∧ t ≠ [91] ∧ t ≠ [33] ∧ t ≠ [125]
def tokA (a : S57) : List (List UInt8) := a.f0.toList :: [58] :: [73, 110, 116] :: (if a.f1 = true then [[33]] else [])
def tokAs : List S57 → List (List UInt8)
  | [] => []
  | a :: l => tokA a ++ tokAs l
def tokArgs (l : List S57) : List (List UInt8) := match l with | [] => [] | a :: l => [40] :: (tokAs (a :: l) ++ [[41]])
def tokTy (t : List UInt8) (l b : Bool) : List (List UInt8) := (if l = true then [[91], t, [93]] else [t]) ++ (if b = true then [[33]] else [])
def tokF (f : S38) : List (List UInt8) := f.f0.toList :: (tokArgs f.f1 ++ [58] :: tokTy f.f2.toList f.f3 f.f4)
def tokFs : List S38 → List (List UInt8)
  | [] => []
  | f :: l => tokF f ++ tokFs l
def tokT (t : S53) : List (List UInt8) := [116, 121, 112, 101] :: t.f0.toList :: [123] :: (tokFs t.f1 ++ [[125]])
def tokS : List S53 → List (List UInt8)
  | [] => []
  | t :: l => tokT t ++ tokS l
theorem bytes_ext {a b : ByteArray} (h : a.toList = b.toList) : a = b := by
  have h1 : a.data.toList = b.data.toList := by rw [← toList_data, ← toList_data, h]
  cases a; cases b
  exact congrArg ByteArray.mk (Array.toList_inj.1 h1)
def NoB (r : List (List UInt8)) : Prop := r.head? ≠ some [33]
theorem tokA_inj (a b : S57) (r s : List (List UInt8)) (hr : NoB r) (hs : NoB s) (h : tokA a ++ r = tokA b ++ s) : a = b ∧ r = s := by
  obtain ⟨a0, a1⟩ := a
  obtain ⟨b0, b1⟩ := b
  simp only [tokA, List.cons_append, List.cons.injEq, true_and] at h
  obtain ⟨h0, h⟩ := h
  have e0 := bytes_ext h0
  subst e0
  cases a1 <;> cases b1 <;> simp at h
  · exact ⟨rfl, h⟩
  · exact absurd (by rw [h]; rfl) hr
  · exact absurd (by rw [← h]; rfl) hs
  · exact ⟨rfl, h⟩
theorem tokAs_inj : ∀ (l m : List S57) (r s : List (List UInt8)), (∀ a ∈ l, Wd a.f0.toList) → (∀ a ∈ m, Wd a.f0.toList) → tokAs l ++ [41] :: r = tokAs m ++ [41] :: s → l = m ∧ r = s := by
  intro l
  induction l with
  | nil =>
    intro m r s _ hm h
    cases m with
    | nil => simp only [tokAs, List.nil_append, List.cons.injEq, true_and] at h; exact ⟨rfl, h⟩
    | cons b m => simp only [tokAs, tokA, List.nil_append, List.cons_append, List.cons.injEq] at h; exact absurd h.1.symm (hm b (List.mem_cons_self ..)).2.1
  | cons a l ih =>
    intro m r s hl hm h
    cases m with
    | nil => simp only [tokAs, tokA, List.nil_append, List.cons_append, List.cons.injEq] at h; exact absurd h.1 (hl a (List.mem_cons_self ..)).2.1
    | cons b m =>
      simp only [tokAs, List.append_assoc] at h
      have nb : ∀ (q : List S57) (t : List (List UInt8)), (∀ a ∈ q, Wd a.f0.toList) → NoB (tokAs q ++ [41] :: t) := by
        intro q t hq
        cases q with
        | nil => simp [NoB, tokAs]
        | cons c q => simp only [NoB, tokAs, tokA, List.cons_append, List.head?_cons]; exact fun e => (hq c (List.mem_cons_self ..)).2.2.2.2.1 (Option.some.inj e)
      obtain ⟨rfl, h2⟩ := tokA_inj a b _ _ (nb l r fun x hx => hl x (List.mem_cons_of_mem _ hx)) (nb m s fun x hx => hm x (List.mem_cons_of_mem _ hx)) h
      obtain ⟨rfl, rfl⟩ := ih m r s (fun x hx => hl x (List.mem_cons_of_mem _ hx)) (fun x hx => hm x (List.mem_cons_of_mem _ hx)) h2
      exact ⟨rfl, rfl⟩
theorem tokArgs_inj (l m : List S57) (r s : List (List UInt8)) (hl : ∀ a ∈ l, Wd a.f0.toList) (hm : ∀ a ∈ m, Wd a.f0.toList) (h : tokArgs l ++ [58] :: r = tokArgs m ++ [58] :: s) : l = m ∧ r = s := by
  cases l with
  | nil =>
    cases m with
    | nil => simp only [tokArgs, List.nil_append, List.cons.injEq, true_and] at h; exact ⟨rfl, h⟩
    | cons b m => simp [tokArgs] at h
  | cons a l =>
    cases m with
    | nil => simp [tokArgs] at h
    | cons b m =>
      simp only [tokArgs, List.cons_append, List.append_assoc, List.nil_append, List.cons.injEq, true_and] at h
      obtain ⟨h1, h2⟩ := tokAs_inj (a :: l) (b :: m) _ _ hl hm h
      simp only [List.cons.injEq, true_and] at h2
      exact ⟨h1, h2⟩
theorem tokTy_inj (t u : List UInt8) (l b l' b' : Bool) (r s : List (List UInt8)) (ht : Wd t) (hu : Wd u) (hr : NoB r) (hs : NoB s) (h : tokTy t l b ++ r = tokTy u l' b' ++ s) : t = u ∧ l = l' ∧ b = b' ∧ r = s := by
  have n1 : t ≠ [91] := ht.2.2.2.1
  have n2 : u ≠ [91] := hu.2.2.2.1
  have hb : ∀ (b b' : Bool) (r s : List (List UInt8)), NoB r → NoB s → (if b = true then [[33]] else []) ++ r = (if b' = true then [[33]] else []) ++ s → b = b' ∧ r = s := by
    intro b b' r s hr hs h
    cases b <;> cases b' <;> simp at h
    · exact ⟨rfl, h⟩
    · exact absurd (by rw [h]; rfl) hr
    · exact absurd (by rw [← h]; rfl) hs
    · exact ⟨rfl, h⟩
  cases l <;> cases l'
  · simp only [tokTy, Bool.false_eq_true, if_false, List.cons_append, List.nil_append, List.cons.injEq] at h
    obtain ⟨h1, h2⟩ := hb _ _ _ _ hr hs h.2
    exact ⟨h.1, rfl, h1, h2⟩
  · simp only [tokTy, Bool.false_eq_true, if_false, if_true, List.cons_append, List.nil_append, List.cons.injEq] at h
    exact absurd h.1 n1
  · simp only [tokTy, Bool.false_eq_true, if_false, if_true, List.cons_append, List.nil_append, List.cons.injEq] at h
    exact absurd h.1.symm n2
  · simp only [tokTy, if_true, List.cons_append, List.nil_append, List.cons.injEq, true_and] at h
    obtain ⟨h1, h2⟩ := hb _ _ _ _ hr hs h.2
    exact ⟨h.1, rfl, h1, h2⟩
def WdF (f : S38) : Prop := Wd f.f0.toList ∧ Wd f.f2.toList ∧ ∀ a ∈ f.f1, Wd a.f0.toList
theorem tokF_inj (f g : S38) (r s : List (List UInt8)) (hf : WdF f) (hg : WdF g) (hr : NoB r) (hs : NoB s) (h : tokF f ++ r = tokF g ++ s) : f = g ∧ r = s := by
  obtain ⟨a0, a1, a2, a3, a4⟩ := f
  obtain ⟨b0, b1, b2, b3, b4⟩ := g
  simp only [tokF, List.cons_append, List.append_assoc, List.cons.injEq] at h
  obtain ⟨h0, h⟩ := h
  obtain ⟨rfl, h2⟩ := tokArgs_inj a1 b1 _ _ hf.2.2 hg.2.2 h
  obtain ⟨h3, rfl, rfl, h4⟩ := tokTy_inj _ _ _ _ _ _ _ _ hf.2.1 hg.2.1 hr hs h2
  have e0 := bytes_ext h0
  have e3 := bytes_ext (show a2.toList = b2.toList from h3)
  subst e0 e3
  exact ⟨rfl, h4⟩
theorem tokFs_inj : ∀ (l m : List S38) (r s : List (List UInt8)), (∀ f ∈ l, WdF f) → (∀ f ∈ m, WdF f) → tokFs l ++ [125] :: r = tokFs m ++ [125] :: s → l = m ∧ r = s := by
  intro l
  induction l with
  | nil =>
    intro m r s _ hm h
    cases m with
    | nil => simp only [tokFs, List.nil_append, List.cons.injEq, true_and] at h; exact ⟨rfl, h⟩
    | cons b m => simp only [tokFs, tokF, List.nil_append, List.cons_append, List.cons.injEq] at h; exact absurd h.1.symm (hm b (List.mem_cons_self ..)).1.2.2.2.2.2
  | cons a l ih =>
    intro m r s hl hm h
    cases m with
    | nil => simp only [tokFs, tokF, List.nil_append, List.cons_append, List.cons.injEq] at h; exact absurd h.1 (hl a (List.mem_cons_self ..)).1.2.2.2.2.2
    | cons b m =>
      simp only [tokFs, List.append_assoc] at h
      have nb : ∀ (q : List S38) (t : List (List UInt8)), (∀ a ∈ q, WdF a) → NoB (tokFs q ++ [125] :: t) := by
        intro q t hq
        cases q with
        | nil => simp [NoB, tokFs]
        | cons c q => simp only [NoB, tokFs, tokF, List.cons_append, List.head?_cons]; exact fun e => (hq c (List.mem_cons_self ..)).1.2.2.2.2.1 (Option.some.inj e)
      obtain ⟨rfl, h2⟩ := tokF_inj a b _ _ (hl a (List.mem_cons_self ..)) (hm b (List.mem_cons_self ..)) (nb l r fun x hx => hl x (List.mem_cons_of_mem _ hx)) (nb m s fun x hx => hm x (List.mem_cons_of_mem _ hx)) h
      obtain ⟨rfl, rfl⟩ := ih m r s (fun x hx => hl x (List.mem_cons_of_mem _ hx)) (fun x hx => hm x (List.mem_cons_of_mem _ hx)) h2
      exact ⟨rfl, rfl⟩
theorem tokS_inj : ∀ (l m : List S53), (∀ t ∈ l, ∀ f ∈ t.f1, WdF f) → (∀ t ∈ m, ∀ f ∈ t.f1, WdF f) → tokS l = tokS m → l = m := by
  intro l
  induction l with
  | nil => intro m _ _ h; cases m with
           | nil => rfl
           | cons b m => simp [tokS, tokT] at h
  | cons a l ih =>
    intro m hl hm h
    cases m with
    | nil => simp [tokS, tokT] at h
    | cons b m =>
      obtain ⟨a0, a1⟩ := a
      obtain ⟨b0, b1⟩ := b
      simp only [tokS, tokT, List.cons_append, List.append_assoc, List.nil_append, List.cons.injEq, true_and] at h
      obtain ⟨h0, h⟩ := h
      obtain ⟨h1, h2⟩ := tokFs_inj a1 b1 _ _ (hl _ (List.mem_cons_self ..)) (hm _ (List.mem_cons_self ..)) h
      rw [ih m (fun x hx => hl x (List.mem_cons_of_mem _ hx)) (fun x hx => hm x (List.mem_cons_of_mem _ hx)) h2, bytes_ext h0, h1]
/-- Words with a blank between each two, and nothing ahead of the first: they tell the words. -/
def blanks : List (List UInt8) → List UInt8
  | [] => []
  | t :: l => 32 :: (t ++ blanks l)
theorem blanks_inj : ∀ (l m : List (List UInt8)), (∀ t ∈ l, (32 : UInt8) ∉ t) → (∀ t ∈ m, (32 : UInt8) ∉ t) → blanks l = blanks m → l = m := by
  have cut : ∀ (t u : List UInt8) (l m : List (List UInt8)), (32 : UInt8) ∉ t → (32 : UInt8) ∉ u → t ++ blanks l = u ++ blanks m → t = u ∧ blanks l = blanks m := by
    intro t
    induction t with
    | nil =>
      intro u l m _ hu h
      cases u with
      | nil => exact ⟨rfl, h⟩
      | cons c u =>
        cases l with
        | nil => simp [blanks] at h
        | cons t l => simp only [blanks, List.nil_append, List.cons_append, List.cons.injEq] at h; exact absurd (by rw [h.1]; exact List.mem_cons_self ..) hu
    | cons b t ih =>
      intro u l m ht hu h
      cases u with
      | nil =>
        cases m with
        | nil => simp [blanks] at h
        | cons t m => simp only [blanks, List.nil_append, List.cons_append, List.cons.injEq] at h; exact absurd (by rw [← h.1]; exact List.mem_cons_self ..) ht
      | cons c u =>
        simp only [List.cons_append, List.cons.injEq] at h
        obtain ⟨h1, h2⟩ := ih u l m (fun e => ht (List.mem_cons_of_mem _ e)) (fun e => hu (List.mem_cons_of_mem _ e)) h.2
        exact ⟨by rw [h.1, h1], h2⟩
  intro l
  induction l with
  | nil => intro m _ _ h; cases m with
           | nil => rfl
           | cons b m => simp [blanks] at h
  | cons a l ih =>
    intro m hl hm h
    cases m with
    | nil => simp [blanks] at h
    | cons b m =>
      simp only [blanks, List.cons.injEq, true_and] at h
      obtain ⟨h1, h2⟩ := cut a b l m (hl _ (List.mem_cons_self ..)) (hm _ (List.mem_cons_self ..)) h
      rw [h1, ih m (fun x hx => hl x (List.mem_cons_of_mem _ hx)) (fun x hx => hm x (List.mem_cons_of_mem _ hx)) h2]
/-! a name has no blank, and is no mark -/
theorem name_bytes (s : ByteArray) (h : IsName s) (c : UInt8) (hc : c ∈ s.toList) : isL (c.toNat : Int) = true ∨ isD (c.toNat : Int) = true := by
  rw [toList_data] at hc
  obtain ⟨i, hi, rfl⟩ := List.getElem_of_mem hc
  have hsz : s.data.toList.length = s.size := Array.length_toList ..
  have hb : bt s (i : Int) = ((s.data.toList[i]).toNat : Int) := by
    unfold bt
    rw [dif_pos (by rw [Int.toNat_natCast]; omega)]
    simp only [Int.toNat_natCast]
    rfl
  rw [← hb]
  cases i with
  | zero => exact .inl h.2.2.1
  | succ i => exact h.2.2.2 _ qa28 qa28
theorem name_wd (s : ByteArray) (h : IsName s) : Wd s.toList ∧ (32 : UInt8) ∉ s.toList := by
  have no : ∀ c : UInt8, isL (c.toNat : Int) = false → isD (c.toNat : Int) = false → c ∉ s.toList := by
    intro c h1 h2 hc
    rcases name_bytes s h c hc with h3 | h3
    · rw [h1] at h3; cases h3
    · rw [h2] at h3; cases h3
  have ne : ∀ c : UInt8, isL (c.toNat : Int) = false → isD (c.toNat : Int) = false → s.toList ≠ [c] := fun c h1 h2 e => no c h1 h2 (by rw [e]; exact List.mem_cons_self ..)
  exact ⟨⟨ne 40 qa78 qa78, ne 41 qa78 qa78, ne 58 qa78 qa78, ne 91 qa78 qa78, ne 33 qa78 qa78, ne 125 qa78 qa78⟩, no 32 qa78 qa78⟩
theorem name_size (s : ByteArray) (h : IsName s) : s.size ≤ 40 := h.2.1
theorem int_wd : Wd [73, 110, 116] ∧ (32 : UInt8) ∉ ([73, 110, 116] : List UInt8) := by unfold Wd; decide
theorem right_wd (T : List S53) (hT : ∀ t ∈ T, RightT T t) : ∀ t ∈ T, ∀ f ∈ t.f1, WdF f ∧ (32 : UInt8) ∉ f.f2.toList := by
  intro t ht f hf
  have hr := (hT t ht).2.2 f hf
  have h2 : Wd f.f2.toList ∧ (32 : UInt8) ∉ f.f2.toList := by
    rcases hr.2.1 with e | ⟨x, hx, e⟩
    · rw [e]; exact int_wd
    · rw [← e]; exact name_wd _ (hT x hx).1
  exact ⟨⟨(name_wd _ hr.1).1, h2.1, fun a ha => (name_wd _ (hr.2.2.2 a ha)).1⟩, h2.2⟩
end Go.Proofs.Ytoogmlghfljeiaa.Pure2
namespace Go.Proofs.Ytoogmlghfljeiaa.Pure2
open Go.RowKit Go.Proofs.Ytoogmlghfljeiaa.Q Go.Proofs.YtoogmlghfljeiaaW.PrintWords Go.Proofs.YtoogmlghfljeiaaW.PrintLast
set_option linter.unusedVariables false
set_option linter.unusedSimpArgs false
/-! the print of a schema, word by word -/
theorem app_toList (a b : ByteArray) : (a ++ b).toList = a.toList ++ b.toList := by rw [toList_data, toList_data, toList_data]; simp
theorem lit_toList (l : List UInt8) : (⟨l.toArray⟩ : ByteArray).toList = l := by rw [toList_data]
theorem blanks_app (l m : List (List UInt8)) : blanks (l ++ m) = blanks l ++ blanks m := by
  induction l with
  | nil => rfl
  | cons t l ih => simp only [List.cons_append, blanks, ih, List.append_assoc]
theorem join_words (k0 : Nat) (x0 : List ByteArray) (hn : x0.length ≤ 1048576) (hs : ∀ w ∈ x0, w.size ≤ 1048576) (W : ByteArray → List (List UInt8)) (hw : ∀ w ∈ x0, 32 :: w.toList = blanks (W w)) :
    ∀ d q (x5 : ByteArray) (tk : List (List UInt8)), q ≤ x0.length → x0.length - q = d → x5.size ≤ 1048577 * q → (q = 0 → x5 = ⟨#[]⟩ ∧ tk = []) → (0 < q → 32 :: x5.toList = blanks tk) →
    ∃ s, Ev (fun k => spec_l00Join.l0 k x0 (⟨#[32]⟩ : ByteArray) x5 (q : Int)) s ∧ (0 < x0.length → 32 :: s.toList = blanks (tk ++ (x0.drop q).flatMap W)) := by
  intro d
  induction d with
  | zero =>
    intro q x5 tk hq hd hz h0 h1
    obtain rfl : q = x0.length := by omega
    refine ⟨x5, ev_now ⟨0, fun k _ => by simp only [spec_l00Join.l0]; rw [if_neg qa28]⟩, fun h => ?_⟩
    rw [List.drop_eq_nil_of_le (Nat.le_refl _), List.flatMap_nil, List.append_nil]
    exact h1 h
  | succ d ih =>
    intro q x5 tk hq hd hz h0 h1
    have hql : q < x0.length := by omega
    have hg : x0.getD q ByteArray.empty = x0[q] := by rw [List.getD_eq_getElem?_getD, List.getElem?_eq_getElem hql]; rfl
    have hrd : rdOf ByteArray.empty x0 (q : Int) = x0[q] := by rw [← hg]; rfl
    have hm := List.getElem_mem hql
    have hsz := hs _ hm
    have hwd := hw _ hm
    have hd2 : x0.drop q = x0[q] :: x0.drop (q + 1) := List.drop_eq_getElem_cons hql
    by_cases hp : 0 < q
    · obtain ⟨s, e, hS⟩ := ih (q + 1) ((x5 ++ (⟨#[32]⟩ : ByteArray)) ++ x0[q]) (tk ++ W x0[q]) qa28 qa28 (by rw [ByteArray.size_append, ByteArray.size_append]; show x5.size + 1 + _ ≤ _; omega) (fun h => by omega) (fun _ => by
        have e1 : (⟨#[32]⟩ : ByteArray).toList = [32] := lit_toList [32]
        rw [blanks_app, ← h1 hp, ← hwd, app_toList, app_toList, e1]; simp)
      refine ⟨s, ev_step ⟨0, fun k _ => ?_⟩ e, fun h => ?_⟩
      · have s1 : (⟨#[32]⟩ : ByteArray).size = 1 := rfl
        simp only [spec_l00Join.l0]
        rw [if_pos qa28, if_pos qa28, if_pos (by rw [s1]; omega), if_pos qa28, hrd, if_pos (by rw [ByteArray.size_append, s1]; omega), wsucc hql qa28]
      · rw [hS h, hd2, List.flatMap_cons, List.append_assoc]
    · have hq0 : q = 0 := by omega
      obtain ⟨hx5, htk⟩ := h0 hq0
      subst hx5 htk
      obtain ⟨s, e, hS⟩ := ih (q + 1) ((⟨#[]⟩ : ByteArray) ++ x0[q]) (W x0[q]) qa28 qa28 (by rw [ByteArray.size_append]; show 0 + _ ≤ _; omega) (fun h => by omega) (fun _ => by
        have e1 : (⟨#[]⟩ : ByteArray).toList = [] := lit_toList []
        rw [app_toList, e1, List.nil_append]; exact hwd)
      refine ⟨s, ev_step ⟨0, fun k _ => ?_⟩ e, fun h => ?_⟩
      · have s1 : (⟨#[]⟩ : ByteArray).size = 0 := rfl
        simp only [spec_l00Join.l0]
        rw [if_pos qa28, if_neg qa28, if_pos qa28, hrd, if_pos (by rw [s1]; omega), wsucc hql qa28]
      · rw [hS h, hd2, List.flatMap_cons, List.nil_append]
theorem print_type (a0 : ByteArray) (l1 : List S57) (t : ByteArray) (l b : Bool) (ht : t.size ≤ 1048576) : ∃ ty, spec_l03Type.f a0 l1 t l b = some ty ∧ 32 :: ty.toList = blanks (tokTy t.toList l b) ∧ ty.size ≤ t.size + 6 := by
  have e1 : (⟨#[91, 32]⟩ : ByteArray).toList = [91, 32] := lit_toList [91, 32]
  have e2 : (⟨#[32, 93]⟩ : ByteArray).toList = [32, 93] := lit_toList [32, 93]
  have e3 : (⟨#[32, 33]⟩ : ByteArray).toList = [32, 33] := lit_toList [32, 33]
  have s1 : (⟨#[91, 32]⟩ : ByteArray).size = 2 := rfl
  have s2 : (⟨#[32, 93]⟩ : ByteArray).size = 2 := rfl
  have s3 : (⟨#[32, 33]⟩ : ByteArray).size = 2 := rfl
  unfold spec_l03Type.f
  cases l <;> cases b
  · exact ⟨t, qa79, by simp [tokTy, blanks], qa28⟩
  · refine ⟨t ++ ⟨#[32, 33]⟩, by rw [if_neg (by simp), if_pos rfl, if_pos (by omega)], by rw [app_toList, e3]; simp [tokTy, blanks], by rw [ByteArray.size_append, s3]; omega⟩
  · refine ⟨((⟨#[91, 32]⟩ : ByteArray) ++ t) ++ ⟨#[32, 93]⟩, by rw [if_pos rfl, if_pos (by omega), if_pos (by rw [ByteArray.size_append, s1]; omega), if_neg (by simp)], by rw [app_toList, app_toList, e1, e2]; simp [tokTy, blanks], by rw [ByteArray.size_append, ByteArray.size_append, s1, s2]; omega⟩
  · refine ⟨(((⟨#[91, 32]⟩ : ByteArray) ++ t) ++ ⟨#[32, 93]⟩) ++ ⟨#[32, 33]⟩, by rw [if_pos rfl, if_pos (by omega), if_pos (by rw [ByteArray.size_append, s1]; omega), if_pos rfl, if_pos (by rw [ByteArray.size_append, ByteArray.size_append, s1, s2]; omega)], by rw [app_toList, app_toList, app_toList, e1, e2, e3]; simp [tokTy, blanks], by rw [ByteArray.size_append, ByteArray.size_append, ByteArray.size_append, s1, s2, s3]; omega⟩
def argsFrom (l : List S57) (q : Nat) : List (List UInt8) := (if q = 0 ∧ 0 < l.length then [[40]] else []) ++ tokAs (l.drop q) ++ (if 0 < l.length then [[41]] else [])
theorem argsFrom_zero (l : List S57) : argsFrom l 0 = tokArgs l := by
  cases l with
  | nil => rfl
  | cons a l => simp [argsFrom, tokArgs]
theorem print_args (T : List S53) (x3 : List ByteArray) (x4 : Int) (x6 : Nat) (hx6 : x6 ≤ 1048576) (a0 : ByteArray) (l : List S57) (t : ByteArray) (li ba : Bool) (hl : l.length ≤ 4) (hn : ∀ a ∈ l, IsName a.f0) (ht : t.size ≤ 1048576) :
    ∀ d q (x5 : ByteArray) (tk : List (List UInt8)), q ≤ l.length → l.length - q = d → 32 :: x5.toList = blanks tk → x5.size + 51 * d ≤ 1099511627776 →
    ∃ x', x'.size ≤ x5.size + 51 * d + t.size + 11 ∧ 32 :: x'.toList = blanks (tk ++ argsFrom l q ++ [58] :: tokTy t.toList li ba) ∧
      ∀ R, Ev (fun k => spec_l03Print.l1 k x3 x4 x' ((x6 + 1 : Nat) : Int) T) R → Ev (fun k => spec_l03Print.l2 k x3 x4 x5 (x6 : Int) (q : Int) T a0 l t li ba) R := by
  have e1 : (⟨#[32, 41]⟩ : ByteArray).toList = [32, 41] := lit_toList [32, 41]
  have e2 : (⟨#[32, 58, 32]⟩ : ByteArray).toList = [32, 58, 32] := lit_toList [32, 58, 32]
  have e3 : (⟨#[32, 33]⟩ : ByteArray).toList = [32, 33] := lit_toList [32, 33]
  have e4 : (⟨#[32, 58, 32, 73, 110, 116]⟩ : ByteArray).toList = [32, 58, 32, 73, 110, 116] := lit_toList [32, 58, 32, 73, 110, 116]
  have e5 : (⟨#[32, 40, 32]⟩ : ByteArray).toList = [32, 40, 32] := lit_toList [32, 40, 32]
  have e6 : (⟨#[32]⟩ : ByteArray).toList = [32] := lit_toList [32]
  have s1 : (⟨#[32, 41]⟩ : ByteArray).size = 2 := rfl
  have s2 : (⟨#[32, 58, 32]⟩ : ByteArray).size = 3 := rfl
  have s3 : (⟨#[32, 33]⟩ : ByteArray).size = 2 := rfl
  have s4 : (⟨#[32, 58, 32, 73, 110, 116]⟩ : ByteArray).size = 6 := rfl
  have s5 : (⟨#[32, 40, 32]⟩ : ByteArray).size = 3 := rfl
  have s6 : (⟨#[32]⟩ : ByteArray).size = 1 := rfl
  have hw6 : wrap64 ((x6 : Int) + 1) = ((x6 + 1 : Nat) : Int) := by unfold wrap64; omega
  obtain ⟨ty, y1, y2, y3⟩ := print_type a0 l t li ba ht
  intro d
  induction d with
  | zero =>
    intro q x5 tk hq hd hb hz
    obtain rfl : q = l.length := by omega
    by_cases h0 : 0 < l.length
    · refine ⟨(x5 ++ ⟨#[32, 41]⟩) ++ (⟨#[32, 58, 32]⟩ ++ ty), by simp only [ByteArray.size_append, s1, s2]; omega, ?_, fun R hR => ev_step ⟨0, fun k _ => ?_⟩ hR⟩
      · rw [app_toList, app_toList, app_toList, e1, e2]
        simp only [argsFrom, if_neg (show ¬ (l.length = 0 ∧ 0 < l.length) by omega), if_pos h0, List.drop_eq_nil_of_le (Nat.le_refl _), tokAs, List.nil_append, blanks_app, blanks, List.append_assoc, List.cons_append]
        rw [← hb, ← y2]
        simp
      · simp only [spec_l03Print.l2]
        rw [if_neg qa28, if_pos qa28, if_pos qa28, y1, Option.bind_some, if_pos qa28, if_pos (by simp only [ByteArray.size_append, s1, s2]; omega), hw6]
    · refine ⟨x5 ++ (⟨#[32, 58, 32]⟩ ++ ty), qa102, ?_, fun R hR => ev_step ⟨0, fun k _ => ?_⟩ hR⟩
      · rw [app_toList, app_toList, e2]
        simp only [argsFrom, if_neg (show ¬ (l.length = 0 ∧ 0 < l.length) by omega), if_neg h0, List.drop_eq_nil_of_le (Nat.le_refl _), tokAs, List.nil_append, List.append_nil, blanks_app, blanks, List.append_assoc, List.cons_append]
        rw [← hb, ← y2]
        simp
      · simp only [spec_l03Print.l2]
        rw [if_neg qa28, if_neg qa28, y1, Option.bind_some, if_pos qa28, if_pos qa102, hw6]
  | succ d ih =>
    intro q x5 tk hq hd hb hz
    have hql : q < l.length := by omega
    have hg : l.getD q z57 = l[q] := by rw [List.getD_eq_getElem?_getD, List.getElem?_eq_getElem hql]; rfl
    have hrd : rd_T57 l (q : Int) = l[q] := by rw [← hg]; rfl
    have hm := List.getElem_mem hql
    have hsz := (hn _ hm).2.1
    have hd2 : l.drop q = l[q] :: l.drop (q + 1) := List.drop_eq_getElem_cons hql
    let hd : ByteArray := if 0 < q then ⟨#[32]⟩ else ⟨#[32, 40, 32]⟩
    have hds : hd.size ≤ 3 := by show (if 0 < q then _ else _ : ByteArray).size ≤ 3; split <;> decide
    have hsel : rdOf ByteArray.empty ([(⟨#[32, 40, 32]⟩ : ByteArray), (⟨#[32]⟩ : ByteArray)]) (if decide ((q : Int) > 0) = true then 1 else 0) = hd := by
      by_cases hp : 0 < q
      · rw [if_pos (decide_eq_true qa28)]; show _ = (if 0 < q then _ else _ : ByteArray); rw [if_pos hp]; rfl
      · rw [if_neg (by rw [decide_eq_false (by omega)]; simp)]; show _ = (if 0 < q then _ else _ : ByteArray); rw [if_neg hp]; rfl
    have hbit : spec_l01Bit.f (decide ((q : Int) > 0)) = some (if decide ((q : Int) > 0) = true then 1 else 0) := by unfold spec_l01Bit.f; split <;> rfl
    generalize hx2 : (if l[q].f1 = true then (x5 ++ ((hd ++ l[q].f0) ++ ⟨#[32, 58, 32, 73, 110, 116]⟩)) ++ ⟨#[32, 33]⟩ else x5 ++ ((hd ++ l[q].f0) ++ ⟨#[32, 58, 32, 73, 110, 116]⟩)) = x2
    have hx2s : x2.size ≤ x5.size + 51 := by
      rw [← hx2]; split <;> simp only [ByteArray.size_append, s3, s4] <;> omega
    have hx2b : 32 :: x2.toList = blanks (tk ++ (if q = 0 then [[40]] else []) ++ tokA l[q]) := by
      rw [blanks_app, blanks_app, ← hb, ← hx2]
      have hh : hd.toList ++ l[q].f0.toList = blanks (if q = 0 then [[40]] else []) ++ 32 :: l[q].f0.toList := by
        show (if 0 < q then _ else _ : ByteArray).toList ++ _ = _
        by_cases hp : 0 < q
        · rw [if_pos hp, if_neg qa28, e6]; simp [blanks]
        · rw [if_neg hp, if_pos qa28, e5]; simp [blanks]
      split
      · rename_i hf
        simp only [app_toList, e3, e4, tokA, if_pos hf, blanks, List.append_assoc, List.cons_append]
        rw [← List.append_assoc hd.toList, hh]; simp
      · rename_i hf
        simp only [app_toList, e4, tokA, if_neg hf, blanks, List.append_assoc, List.cons_append]
        rw [← List.append_assoc hd.toList, hh]; simp
    obtain ⟨x', g1, g2, g3⟩ := ih (q + 1) x2 _ qa28 qa28 hx2b qa28
    refine ⟨x', qa28, ?_, fun R hR => ev_step ⟨0, fun k _ => ?_⟩ (g3 R hR)⟩
    · rw [g2]
      congr 1
      simp only [argsFrom, hd2, tokAs, if_neg (show ¬ (q + 1 = 0 ∧ 0 < l.length) by omega), List.nil_append, List.append_assoc]
      by_cases hq0 : q = 0
      · rw [if_pos hq0, if_pos (show q = 0 ∧ 0 < l.length from ⟨hq0, qa28⟩)]
      · rw [if_neg hq0, if_neg (show ¬ (q = 0 ∧ 0 < l.length) from fun h => hq0 h.1)]
    · simp only [spec_l03Print.l2]
      rw [if_pos qa28, Option.bind_some, hbit, Option.bind_some, if_pos (by split <;> omega), if_pos (by show _ < (2 : Int); split <;> omega), if_pos qa28, hsel, hrd, if_pos qa28, if_pos (by simp only [ByteArray.size_append]; omega), if_pos (by simp only [ByteArray.size_append, s4]; omega), wsucc hql qa28, ← hx2]
      split
      · rw [if_pos (by simp only [ByteArray.size_append, s4]; omega)]
      · rfl
theorem print_fields (T : List S53) (hT8 : T.length ≤ 8) (x3 : List ByteArray) (hx3 : x3.length ≤ 1048576) (x4 : Nat) (hx4 : x4 < T.length) (hr : RightT T (T.getD x4 z53)) (h2 : ∀ f ∈ (T.getD x4 z53).f1, f.f2.size ≤ 40) :
    ∀ d q (x5 : ByteArray) (tk : List (List UInt8)), q ≤ (T.getD x4 z53).f1.length → (T.getD x4 z53).f1.length - q = d → 32 :: x5.toList = blanks tk → x5.size + 300 * d ≤ 109951162777 →
    ∃ x', x'.size ≤ x5.size + 300 * d + 2 ∧ 32 :: x'.toList = blanks (tk ++ tokFs ((T.getD x4 z53).f1.drop q) ++ [[125]]) ∧
      ∀ R, Ev (fun k => spec_l03Print.l0 k (x3 ++ [x']) ((x4 + 1 : Nat) : Int) T) R → Ev (fun k => spec_l03Print.l1 k x3 (x4 : Int) x5 (q : Int) T) R := by
  have e1 : (⟨#[32, 125]⟩ : ByteArray).toList = [32, 125] := lit_toList [32, 125]
  have e2 : (⟨#[32]⟩ : ByteArray).toList = [32] := lit_toList [32]
  have s1 : (⟨#[32, 125]⟩ : ByteArray).size = 2 := rfl
  have s2 : (⟨#[32]⟩ : ByteArray).size = 1 := rfl
  have hrT : rd_T53 T (x4 : Int) = T.getD x4 z53 := rfl
  generalize T.getD x4 z53 = tt at *
  intro d
  induction d with
  | zero =>
    intro q x5 tk hq hd hb hz
    obtain rfl : q = tt.f1.length := by omega
    refine ⟨x5 ++ ⟨#[32, 125]⟩, by rw [ByteArray.size_append, s1]; omega, ?_, fun R hR => ev_step ⟨0, fun k _ => ?_⟩ hR⟩
    · rw [List.drop_eq_nil_of_le (Nat.le_refl _), app_toList, e1, blanks_app, blanks_app, ← hb]
      simp [tokFs, blanks]
    · rw [spec_l03Print.l1, if_pos qa28, if_pos qa28, hrT, if_neg qa28, if_pos qa28, if_pos qa28, wsucc hx4 qa28]
  | succ d ih =>
    intro q x5 tk hq hd hb hz
    have hql : q < tt.f1.length := by omega
    have hg : tt.f1.getD q z38 = tt.f1[q] := by rw [List.getD_eq_getElem?_getD, List.getElem?_eq_getElem hql]; rfl
    have hrd : rd_T38 tt.f1 (q : Int) = tt.f1[q] := by rw [← hg]; rfl
    have hm := List.getElem_mem hql
    have hrf := hr.2.2 _ hm
    have hsz := hrf.1.2.1
    have hd2 : tt.f1.drop q = tt.f1[q] :: tt.f1.drop (q + 1) := List.drop_eq_getElem_cons hql
    have h10 := hr.2.1
    have hb2 : 32 :: (x5 ++ (⟨#[32]⟩ ++ tt.f1[q].f0)).toList = blanks (tk ++ [tt.f1[q].f0.toList]) := by
      rw [app_toList, app_toList, e2, blanks_app, ← hb]; simp [blanks]
    obtain ⟨xa, a1, a2, a3⟩ := print_args T x3 (x4 : Int) q qa28 tt.f1[q].f0 tt.f1[q].f1 tt.f1[q].f2 tt.f1[q].f3 tt.f1[q].f4 hrf.2.2.1 hrf.2.2.2 (by have := h2 _ hm; omega) _ 0 (x5 ++ (⟨#[32]⟩ ++ tt.f1[q].f0)) _ qa28 rfl hb2 (by have := hrf.2.2.1; simp only [ByteArray.size_append, s2]; omega)
    have hsa : xa.size ≤ x5.size + 300 := by have := hrf.2.2.1; have := h2 _ hm; simp only [ByteArray.size_append, s2] at a1; omega
    obtain ⟨x', g1, g2, g3⟩ := ih (q + 1) xa _ qa28 qa28 a2 qa28
    refine ⟨x', qa28, ?_, fun R hR => ev_step ⟨0, fun k _ => ?_⟩ (a3 R (g3 R hR))⟩
    · rw [g2, hd2, argsFrom_zero]
      simp only [tokFs, tokF, List.append_assoc, List.cons_append, List.nil_append]
    · rw [spec_l03Print.l1, if_pos qa28, if_pos qa28, hrT, if_pos qa28, if_pos qa28, hrd, if_pos qa28, if_pos qa102]
      rfl
theorem size_toList (s : ByteArray) : s.toList.length = s.size := by rw [toList_data]; exact Array.length_toList ..
theorem type_size (T : List S53) (hr : ∀ t ∈ T, RightT T t) : ∀ t ∈ T, ∀ f ∈ t.f1, f.f2.size ≤ 40 := by
  intro t ht f hf
  rcases ((hr t ht).2.2 f hf).2.1 with e | ⟨x, hx, e⟩
  · rw [← size_toList, e]; decide
  · rw [← size_toList, ← e, size_toList]; exact (hr x hx).1.2.1
theorem print_types (T : List S53) (hT1 : 1 ≤ T.length) (hT8 : T.length ≤ 8) (hr : ∀ t ∈ T, RightT T t) :
    ∀ d q (x3 : List ByteArray) (tk : List (List UInt8)), q ≤ T.length → T.length - q = d → x3.length = q → (∀ w ∈ x3, w.size ≤ 1048576) → blanks (x3.map ByteArray.toList) = blanks tk →
    ∃ s, Ev (fun k => spec_l03Print.l0 k x3 (q : Int) T) s ∧ 32 :: s.toList = blanks (tk ++ tokS (T.drop q)) := by
  have e1 : (⟨#[116, 121, 112, 101, 32]⟩ : ByteArray).toList = [116, 121, 112, 101, 32] := lit_toList [116, 121, 112, 101, 32]
  have e2 : (⟨#[32, 123]⟩ : ByteArray).toList = [32, 123] := lit_toList [32, 123]
  have s1 : (⟨#[116, 121, 112, 101, 32]⟩ : ByteArray).size = 5 := rfl
  have s2 : (⟨#[32, 123]⟩ : ByteArray).size = 2 := rfl
  intro d
  induction d with
  | zero =>
    intro q x3 tk hq hd hl hs hb
    obtain rfl : q = T.length := by omega
    obtain ⟨s, e, hS⟩ := join_words 0 x3 qa28 hs (fun w => [w.toList]) (fun w _ => by simp [blanks]) x3.length 0 ⟨#[]⟩ [] qa28 qa28 (by show 0 ≤ _; omega) (fun _ => ⟨rfl, rfl⟩) (fun h => by omega)
    obtain ⟨K, hK⟩ := ev_at e
    refine ⟨s, ev_now ⟨K, fun k hk => ?_⟩, ?_⟩
    · simp only [spec_l03Print.l0]
      rw [if_neg qa28, spec_l00Join.f, show spec_l00Join.l0 k x3 (⟨#[32]⟩ : ByteArray) ⟨#[]⟩ 0 = some s from hK k hk]
      rfl
    · rw [List.drop_eq_nil_of_le (Nat.le_refl _), tokS, List.append_nil, ← hb, hS qa28, List.nil_append, List.drop_zero]
      congr 1
      clear hK e hS hb hs hl
      induction x3 with
      | nil => rfl
      | cons a l ih => simp only [List.flatMap_cons, List.map_cons, ih, List.singleton_append]
  | succ d ih =>
    intro q x3 tk hq hd hl hs hb
    have hql : q < T.length := by omega
    have hg : T.getD q z53 = T[q] := by rw [List.getD_eq_getElem?_getD, List.getElem?_eq_getElem hql]; rfl
    have hrd : rd_T53 T (q : Int) = T[q] := by rw [← hg]; rfl
    have hm := List.getElem_mem hql
    have hrt := hr _ hm
    have hsz := hrt.1.2.1
    have h10 := hrt.2.1
    have hd2 : T.drop q = T[q] :: T.drop (q + 1) := List.drop_eq_getElem_cons hql
    have hb2 : 32 :: (((⟨#[116, 121, 112, 101, 32]⟩ : ByteArray) ++ T[q].f0) ++ ⟨#[32, 123]⟩).toList = blanks [[116, 121, 112, 101], T[q].f0.toList, [123]] := by
      rw [app_toList, app_toList, e1, e2]; simp [blanks]
    obtain ⟨x', a1, a2, a3⟩ := print_fields T hT8 x3 qa28 q hql (by rw [hg]; exact hrt) (by rw [hg]; exact type_size T hr _ hm) _ 0 (((⟨#[116, 121, 112, 101, 32]⟩ : ByteArray) ++ T[q].f0) ++ ⟨#[32, 123]⟩) _ qa28 rfl hb2 (by rw [hg]; simp only [ByteArray.size_append, s1, s2]; omega)
    rw [hg] at a1 a2
    simp only [ByteArray.size_append, s1, s2] at a1
    obtain ⟨s, e, hS⟩ := ih (q + 1) (x3 ++ [x']) (tk ++ tokT T[q]) qa28 qa28 (by rw [List.length_append, hl]; rfl) (fun w hw => by
      rcases List.mem_append.1 hw with h | h
      · exact hs w h
      · rw [List.mem_singleton.1 h]; omega) (by
      rw [List.map_append, blanks_app, blanks_app, hb]
      congr 1
      have : blanks ([x'].map ByteArray.toList) = 32 :: x'.toList := by simp [blanks]
      rw [this, a2]
      simp only [tokT, List.drop_zero, List.cons_append, List.nil_append, List.append_assoc])
    refine ⟨s, ev_step ⟨0, fun k _ => ?_⟩ (a3 s e), ?_⟩
    · conv => lhs; rw [spec_l03Print.l0]
      rw [if_pos qa28, if_pos qa28, hrd, if_pos qa28, if_pos (by simp only [ByteArray.size_append, s1]; omega)]
      rfl
    · rw [hS, hd2]; simp only [tokS, List.append_assoc]
theorem print_schema (T : List S53) (hT1 : 1 ≤ T.length) (hT8 : T.length ≤ 8) (hr : ∀ t ∈ T, RightT T t) : ∃ s, Ev (fun k => spec_l03Print.f k T) s ∧ 32 :: s.toList = blanks (tokS T) := by
  obtain ⟨s, e, h⟩ := print_types T hT1 hT8 hr T.length 0 [] [] qa28 qa28 rfl (fun w hw => by simp at hw) rfl
  exact ⟨s, e, h⟩
def NB (l : List (List UInt8)) : Prop := ∀ t ∈ l, (32 : UInt8) ∉ t
theorem nb_app {l m : List (List UInt8)} (h : NB l) (k : NB m) : NB (l ++ m) := fun t ht => (List.mem_append.1 ht).elim (h t) (k t)
theorem nb_cons {a : List UInt8} {m : List (List UInt8)} (h : (32 : UInt8) ∉ a) (k : NB m) : NB (a :: m) := fun t ht => (List.mem_cons.1 ht).elim (fun e => by rw [e]; exact h) (k t)
theorem nb_nil : NB [] := fun t ht => by simp at ht
theorem nb_tokAs (l : List S57) (h : ∀ a ∈ l, IsName a.f0) : NB (tokAs l) := by
  induction l with
  | nil => exact nb_nil
  | cons a l ih =>
    refine nb_app ?_ (ih fun x hx => h x (List.mem_cons_of_mem _ hx))
    unfold tokA
    refine nb_cons (name_wd _ (h a (List.mem_cons_self ..))).2 (nb_cons qa78 (nb_cons qa78 ?_))
    split
    · exact nb_cons qa78 nb_nil
    · exact nb_nil
theorem nb_tokF (f : S38) (h0 : IsName f.f0) (h2 : (32 : UInt8) ∉ f.f2.toList) (h1 : ∀ a ∈ f.f1, IsName a.f0) : NB (tokF f) := by
  unfold tokF
  refine nb_cons (name_wd _ h0).2 (nb_app ?_ (nb_cons qa78 ?_))
  · unfold tokArgs
    split
    · exact nb_nil
    · rename_i a l e
      rw [← e]
      exact nb_cons qa78 (nb_app (nb_tokAs _ h1) (nb_cons qa78 nb_nil))
  · unfold tokTy
    refine nb_app ?_ ?_
    · split
      · exact nb_cons qa78 (nb_cons h2 (nb_cons qa78 nb_nil))
      · exact nb_cons h2 nb_nil
    · split
      · exact nb_cons qa78 nb_nil
      · exact nb_nil
theorem nb_tokFs (l : List S38) (h : ∀ f ∈ l, IsName f.f0 ∧ (32 : UInt8) ∉ f.f2.toList ∧ ∀ a ∈ f.f1, IsName a.f0) : NB (tokFs l) := by
  induction l with
  | nil => exact nb_nil
  | cons f l ih =>
    have hf := h f (List.mem_cons_self ..)
    exact nb_app (nb_tokF f hf.1 hf.2.1 hf.2.2) (ih fun x hx => h x (List.mem_cons_of_mem _ hx))
theorem nb_tokS (l : List S53) (h : ∀ t ∈ l, IsName t.f0 ∧ ∀ f ∈ t.f1, IsName f.f0 ∧ (32 : UInt8) ∉ f.f2.toList ∧ ∀ a ∈ f.f1, IsName a.f0) : NB (tokS l) := by
  induction l with
  | nil => exact nb_nil
  | cons t l ih =>
    have ht := h t (List.mem_cons_self ..)
    refine nb_app ?_ (ih fun x hx => h x (List.mem_cons_of_mem _ hx))
    unfold tokT
    exact nb_cons qa78 (nb_cons (name_wd _ ht.1).2 (nb_cons qa78 (nb_app (nb_tokFs _ ht.2) (nb_cons qa78 nb_nil))))
theorem nb_right (T : List S53) (hr : ∀ t ∈ T, RightT T t) : NB (tokS T) :=
  nb_tokS T fun t ht => ⟨(hr t ht).1, fun f hf => ⟨((hr t ht).2.2 f hf).1, (right_wd T hr t ht f hf).2, ((hr t ht).2.2 f hf).2.2.2⟩⟩
/-- Two right schemas have one print if, and only if, they are one schema. -/
theorem same_print (T U : List S53) (s u : ByteArray) (hT : ∀ t ∈ T, RightT T t) (hU : ∀ t ∈ U, RightT U t) (hs : 32 :: s.toList = blanks (tokS T)) (hu : 32 :: u.toList = blanks (tokS U)) : s.toList = u.toList ↔ T = U := by
  constructor
  · intro h
    have h1 : blanks (tokS T) = blanks (tokS U) := by rw [← hs, ← hu, h]
    exact tokS_inj T U (fun t ht f hf => (right_wd T hT t ht f hf).1) (fun t ht f hf => (right_wd U hU t ht f hf).1) (blanks_inj _ _ (nb_right T hT) (nb_right U hU) h1)
  · intro h
    subst h
    have := hs.trans hu.symm
    exact (List.cons.inj this).2
end Go.Proofs.Ytoogmlghfljeiaa.Pure2
namespace Go.Proofs.Ytoogmlghfljeiaa.Pure2
open Go.RowKit Go.Proofs.Ytoogmlghfljeiaa.Q Go.Proofs.YtoogmlghfljeiaaW.PrintWords Go.Proofs.YtoogmlghfljeiaaW.PrintLast
set_option linter.unusedVariables false
set_option linter.unusedSimpArgs false
/-! two schemas held against each other -/
theorem all_ev {α : Type} (A : (α → α → Option Bool) → List α → List α → Option Bool) (h0 : ∀ q l, A q [] l = some true) (h1 : ∀ q x xs y ys, A q (x :: xs) (y :: ys) = (q x y).bind fun b => if b = true then A q xs ys else some false)
    (Q : Nat → α → α → Option Bool) : ∀ l m : List α, l.length = m.length → (∀ x ∈ l, ∀ y ∈ m, ∃ b, Ev (fun k => Q k x y) b ∧ (b = true ↔ x = y)) → ∃ r, Ev (fun k => A (Q k) l m) r ∧ (r = true ↔ l = m)
  | [], [], _, _ => ⟨true, ev_mk 0 fun k _ => h0 _ _, qa79⟩
  | [], _ :: _, h, _ => by simp at h
  | _ :: _, [], h, _ => by simp at h
  | x :: xs, y :: ys, h, hq => by
    obtain ⟨b, e1, hb⟩ := hq x qa79 y qa79
    obtain ⟨K1, k1⟩ := ev_at e1
    cases b with
    | false =>
      refine ⟨false, ev_mk K1 fun k hk => by show A (Q k) _ _ = _; rw [h1, k1 k hk]; rfl, ?_⟩
      simp only [Bool.false_eq_true, false_iff] at hb ⊢
      intro e
      exact hb (List.cons.inj e).1
    | true =>
      obtain ⟨r, e2, hr⟩ := all_ev A h0 h1 Q xs ys (by simpa using h) (fun a ha c hc => hq a (List.mem_cons_of_mem _ ha) c (List.mem_cons_of_mem _ hc))
      obtain ⟨K2, k2⟩ := ev_at e2
      refine ⟨r, ev_mk (K1 + K2) fun k hk => by show A (Q k) _ _ = _; rw [h1, k1 k qa28, Option.bind_some, if_pos rfl]; exact k2 k qa28, ?_⟩
      rw [hr, hb.1 rfl]
      constructor
      · intro e; rw [e]
      · intro e; exact (List.cons.inj e).2
theorem drop_at {α : Type} (l : List α) (z : α) (j : Nat) (h : j < l.length) : l.drop j = l.getD j z :: l.drop (j + 1) := by
  rw [List.drop_eq_getElem_cons h, List.getD_eq_getElem?_getD, List.getElem?_eq_getElem h]; rfl
theorem arg_eq (x y : S57) : (!(x.f0.toList == y.f0.toList) || !(x.f1 == y.f1)) = true ↔ x ≠ y := by
  obtain ⟨a, b⟩ := x
  obtain ⟨c, d⟩ := y
  constructor
  · intro h e
    cases e
    simp at h
  · intro h
    by_cases e1 : a.toList = c.toList
    · have := bytes_ext e1
      subst this
      cases b <;> cases d <;> simp at h ⊢
    · simp [e1]
theorem args_same (l m : List S57) (hl : l.length ≤ 1048576) (hm : m.length ≤ 1048576) : ∃ r, Ev (fun k => impl_ArgDef_50.f k l m) r ∧ (r = true ↔ l = m) := by
  by_cases hn : l.length = m.length
  · obtain ⟨r, hr, he⟩ := count_loop l.length (fun k i => impl_ArgDef_50.l0 k l m (l.length : Int) i) (fun j r => r = true ↔ l.drop j = m.drop j)
      ⟨true, by rw [List.drop_of_length_le (Nat.le_refl _), List.drop_of_length_le (by omega)]; simp, ev_now ⟨0, fun k _ => by simp only [impl_ArgDef_50.l0]; rw [if_neg qa28]⟩⟩
      (fun j hj r hr he => by
        have hx := drop_at l z57 j hj
        have hy := drop_at m z57 j qa28
        by_cases hc : l.getD j z57 = m.getD j z57
        · refine ⟨r, by rw [hx, hy, hc, hr]; simp, ev_step ⟨0, fun k _ => ?_⟩ he⟩
          have hcc : (!((rd_T57 l (j : Int)).f0.toList == (rd_T57 m (j : Int)).f0.toList) || !((rd_T57 l (j : Int)).f1 == (rd_T57 m (j : Int)).f1)) = false := by
            rw [Bool.eq_false_iff]; intro h; exact (arg_eq _ _).1 h hc
          simp only [impl_ArgDef_50.l0]
          rw [if_pos qa28, if_pos qa28, if_pos qa28, if_pos qa28, if_neg (by rw [hcc]; simp), wsucc hj qa28]
        · refine ⟨false, ?_, ev_now ⟨0, fun k _ => ?_⟩⟩
          · rw [hx, hy]
            simp only [Bool.false_eq_true, false_iff]
            intro e
            exact hc (List.cons.inj e).1
          · have hcc : (!((rd_T57 l (j : Int)).f0.toList == (rd_T57 m (j : Int)).f0.toList) || !((rd_T57 l (j : Int)).f1 == (rd_T57 m (j : Int)).f1)) = true := (arg_eq _ _).2 hc
            simp only [impl_ArgDef_50.l0]
            rw [if_pos qa28, if_pos qa28, if_pos qa28, if_pos qa28, if_pos hcc]) 0 qa28
    exact ⟨r, ev_same ⟨0, fun k _ => by unfold impl_ArgDef_50.f; rw [if_pos qa28]; rfl⟩ he, by simpa using hr⟩
  · exact ⟨false, ev_mk 0 fun k _ => by unfold impl_ArgDef_50.f; rw [if_neg qa28], qa98⟩
theorem field_same (x y : S38) (hx : x.f1.length ≤ 1048576) (hy : y.f1.length ≤ 1048576) : ∃ b, Ev (fun k => impl_SameSchema_1_1.f k x.f0 x.f1 x.f2 x.f3 x.f4 y.f0 y.f1 y.f2 y.f3 y.f4) b ∧ (b = true ↔ x = y) := by
  obtain ⟨a0, a1, a2, a3, a4⟩ := x
  obtain ⟨b0, b1, b2, b3, b4⟩ := y
  dsimp only at hx hy ⊢
  by_cases h0 : a0.toList = b0.toList
  · obtain ⟨r, e1, hr⟩ := args_same a1 b1 hx hy
    obtain ⟨K1, k1⟩ := ev_at e1
    cases r with
    | false =>
      refine ⟨false, ev_mk K1 fun k hk => by unfold impl_SameSchema_1_1.f; rw [if_pos h0, k1 k hk]; rfl, ?_⟩
      simp only [Bool.false_eq_true, false_iff] at hr ⊢
      intro e; injection e with _ e1 _ _ _; exact hr e1
    | true =>
      have h1 := hr.1 rfl
      by_cases h2 : a2.toList = b2.toList
      · by_cases h3 : a3 = b3
        · refine ⟨a4 == b4, ev_mk K1 fun k hk => by unfold impl_SameSchema_1_1.f; rw [if_pos h0, k1 k hk, Option.bind_some, if_pos rfl, if_pos h2, if_pos (by simp [h3])], ?_⟩
          rw [beq_iff_eq]
          constructor
          · intro e; rw [bytes_ext h0, h1, bytes_ext h2, h3, e]
          · intro e; injection e
        · refine ⟨false, ev_mk K1 fun k hk => by unfold impl_SameSchema_1_1.f; rw [if_pos h0, k1 k hk, Option.bind_some, if_pos rfl, if_pos h2, if_neg (by simp [h3])], ?_⟩
          simp only [Bool.false_eq_true, false_iff]
          intro e; injection e with _ _ _ e3 _; exact h3 e3
      · refine ⟨false, ev_mk K1 fun k hk => by unfold impl_SameSchema_1_1.f; rw [if_pos h0, k1 k hk, Option.bind_some, if_pos rfl, if_neg h2], ?_⟩
        simp only [Bool.false_eq_true, false_iff]
        intro e; injection e with _ _ e2 _ _; exact h2 (by rw [e2])
  · refine ⟨false, ev_mk 0 fun k hk => by unfold impl_SameSchema_1_1.f; rw [if_neg h0], ?_⟩
    simp only [Bool.false_eq_true, false_iff]
    intro e; injection e with e0 _ _ _ _; exact h0 (by rw [e0])
theorem fields_same (l m : List S38) (hl : ∀ x ∈ l, x.f1.length ≤ 1048576) (hm : ∀ x ∈ m, x.f1.length ≤ 1048576) : ∃ r, Ev (fun k => eqf48_49.f k l m) r ∧ (r = true ↔ l = m) := by
  by_cases hn : l.length = m.length
  · obtain ⟨r, e, hr⟩ := all_ev impl_FieldDef_48.all (fun _ _ => by simp only [impl_FieldDef_48.all]) (fun _ _ _ _ _ => by simp only [impl_FieldDef_48.all]) (fun k x y => impl_SameSchema_1_1.f k x.f0 x.f1 x.f2 x.f3 x.f4 y.f0 y.f1 y.f2 y.f3 y.f4) l m hn (fun x hx y hy => field_same x y (hl x hx) (hm y hy))
    exact ⟨r, ev_same ⟨0, fun k _ => by unfold eqf48_49.f impl_FieldDef_48.fq; rw [if_pos hn]⟩ e, hr⟩
  · exact ⟨false, ev_mk 0 fun k _ => by unfold eqf48_49.f impl_FieldDef_48.fq; rw [if_neg hn], qa98⟩
theorem type_same (x y : S53) (hx : ∀ u ∈ x.f1, u.f1.length ≤ 1048576) (hy : ∀ u ∈ y.f1, u.f1.length ≤ 1048576) : ∃ b, Ev (fun k => impl_SameSchema_1.f k x.f0 x.f1 y.f0 y.f1) b ∧ (b = true ↔ x = y) := by
  obtain ⟨a0, a1⟩ := x
  obtain ⟨b0, b1⟩ := y
  dsimp only at hx hy ⊢
  by_cases h0 : a0.toList = b0.toList
  · obtain ⟨r, e1, hr⟩ := fields_same a1 b1 hx hy
    obtain ⟨K1, k1⟩ := ev_at e1
    refine ⟨r, ev_mk K1 fun k hk => by unfold impl_SameSchema_1.f; rw [if_pos h0, k1 k hk]; rfl, ?_⟩
    rw [hr]
    constructor
    · intro e; rw [bytes_ext h0, e]
    · intro e; injection e
  · refine ⟨false, ev_mk 0 fun k hk => by unfold impl_SameSchema_1.f; rw [if_neg h0], ?_⟩
    simp only [Bool.false_eq_true, false_iff]
    intro e; injection e with e0 _; exact h0 (by rw [e0])
theorem types_same (l m : List S53) (hl : ∀ x ∈ l, ∀ u ∈ x.f1, u.f1.length ≤ 1048576) (hm : ∀ x ∈ m, ∀ u ∈ x.f1, u.f1.length ≤ 1048576) : ∃ r, Ev (fun k => eqf46_47.f k l m) r ∧ (r = true ↔ l = m) := by
  by_cases hn : l.length = m.length
  · obtain ⟨r, e, hr⟩ := all_ev impl_TypeDef_46.all (fun _ _ => by simp only [impl_TypeDef_46.all]) (fun _ _ _ _ _ => by simp only [impl_TypeDef_46.all]) (fun k x y => impl_SameSchema_1.f k x.f0 x.f1 y.f0 y.f1) l m hn (fun x hx y hy => type_same x y (hl x hx) (hm y hy))
    exact ⟨r, ev_same ⟨0, fun k _ => by unfold eqf46_47.f impl_TypeDef_46.fq; rw [if_pos hn]⟩ e, hr⟩
  · exact ⟨false, ev_mk 0 fun k _ => by unfold eqf46_47.f impl_TypeDef_46.fq; rw [if_neg hn], qa98⟩
/-- The program's answer is the reference's. -/
theorem same_agree (T U : List S53) (hT : CmS T) (hU : CmS U) : ∃ r, Ev (fun k => spec_SameSchema.f k T U) r ∧ Ev (fun k => impl_SameSchema.f k T U) r := by
  obtain ⟨a, e1, e2⟩ := schema_agree T hT
  obtain ⟨b, e3, e4⟩ := schema_agree U hU
  obtain ⟨K1, k1⟩ := ev_at e1
  obtain ⟨K2, k2⟩ := ev_at e2
  obtain ⟨K3, k3⟩ := ev_at e3
  obtain ⟨K4, k4⟩ := ev_at e4
  cases a with
  | false => exact ⟨false, ev_mk K1 fun k hk => by unfold spec_SameSchema.f; rw [k1 k hk]; rfl, ev_mk K2 fun k hk => by unfold impl_SameSchema.f; rw [k2 k hk]; rfl⟩
  | true =>
    cases b with
    | false => exact ⟨false, ev_mk (K1 + K3) fun k hk => by unfold spec_SameSchema.f; rw [k1 k qa28, Option.bind_some, if_pos rfl, k3 k qa28]; rfl, ev_mk (K2 + K4) fun k hk => by unfold impl_SameSchema.f; rw [k2 k qa28, Option.bind_some, if_pos rfl, k4 k qa28]; rfl⟩
    | true =>
      obtain ⟨p1, p2, p3⟩ := schema_right K1 T hT (k1 K1 (Nat.le_refl _))
      obtain ⟨q1, q2, q3⟩ := schema_right K3 U hU (k3 K3 (Nat.le_refl _))
      obtain ⟨s, e5, hs⟩ := print_schema T p1 p2 p3
      obtain ⟨u, e6, hu⟩ := print_schema U q1 q2 q3
      obtain ⟨K5, k5⟩ := ev_at e5
      obtain ⟨K6, k6⟩ := ev_at e6
      obtain ⟨r, e7, hr⟩ := types_same T U (fun x hx v hv => ((hT.2 x hx).2.2 v hv).2.1) (fun x hx v hv => ((hU.2 x hx).2.2 v hv).2.1)
      obtain ⟨K7, k7⟩ := ev_at e7
      have hsp := same_print T U s u p3 q3 hs hu
      have he : (s.toList == u.toList) = r := by rw [Bool.eq_iff_iff, beq_iff_eq, hsp, hr]
      refine ⟨r, ev_mk (K1 + K3 + K5 + K6) fun k hk => ?_, ev_mk (K2 + K4 + K7) fun k hk => ?_⟩
      · unfold spec_SameSchema.f
        rw [k1 k qa28, Option.bind_some, if_pos rfl, k3 k qa28, Option.bind_some, if_pos rfl, k5 k qa28, Option.bind_some, k6 k qa28, Option.bind_some, he]
      · unfold impl_SameSchema.f
        rw [k2 k qa28, Option.bind_some, if_pos rfl, k4 k qa28, Option.bind_some, if_pos rfl, k7 k qa28, Option.bind_some]
end Go.Proofs.Ytoogmlghfljeiaa.Pure2
namespace Go.Proofs.Ytoogmlghfljeiaa.Pure2
open Go.RowKit Go.Proofs.Ytoogmlghfljeiaa.Q Go.Proofs.YtoogmlghfljeiaaW.PrintWords Go.Proofs.YtoogmlghfljeiaaW.PrintLast
set_option linter.unusedVariables false
set_option linter.unusedSimpArgs false
theorem FnExactSameSchema : laws_FnExactSameSchema.Pure2 := by
  intro y z hy hz
  obtain ⟨r, he, hr⟩ := sz_schema y.f0 1048576 qa28 qa28 hy.1 hy.2
  refine Ev.rounds (r := true) ?_
  obtain ⟨K1, h1⟩ := ev_at he
  rcases hr with hr | ⟨hr0, hr1, hs⟩
  · exact ev_mk K1 fun k hk => by unfold laws_FnExactSameSchema.f; rw [h1 k hk, Option.bind_some, if_pos hr]
  · obtain ⟨q, hq, hq2⟩ := sz_schema z.f0 r hr0 qa28 hz.1 hz.2
    obtain ⟨K0, h0⟩ := ev_at hq
    rcases hq2 with hq2 | ⟨_, _, ht⟩
    · exact ev_mk (K1 + K0) fun k hk => by unfold laws_FnExactSameSchema.f; rw [h1 k qa28, Option.bind_some, if_neg qa28, h0 k qa28, Option.bind_some, if_pos hq2]
    · have hc := small_S y.f0 hs
      have hd := small_S z.f0 ht
      obtain ⟨K2, h2⟩ := ev_at (to_schema y.f0 hs)
      obtain ⟨K3, h3⟩ := ev_at (to_schema z.f0 ht)
      obtain ⟨b, e1, e2⟩ := same_agree (y.f0.map cvT) (z.f0.map cvT) hc hd
      obtain ⟨K4, h4⟩ := ev_at e1
      obtain ⟨K5, h5⟩ := ev_at e2
      obtain ⟨K6, h6⟩ := ev_at (eq_schema (y.f0.map cvT) hc.1 fun x hx => ⟨(hc.2 x hx).2.1, fun u hu => ((hc.2 x hx).2.2 u hu).2.1⟩)
      obtain ⟨K7, h7⟩ := ev_at (eq_schema (z.f0.map cvT) hd.1 fun x hx => ⟨(hd.2 x hx).2.1, fun u hu => ((hd.2 x hx).2.2 u hu).2.1⟩)
      refine ev_mk (K0 + K1 + K2 + K3 + K4 + K5 + K6 + K7) fun k hk => ?_
      unfold laws_FnExactSameSchema.f
      rw [h1 _ qa28, Option.bind_some, if_neg qa28, h0 _ qa28, Option.bind_some, if_neg qa28, h2 _ qa28, Option.bind_some, h3 _ qa28, Option.bind_some, h4 _ qa28, Option.bind_some, Option.bind_some, Option.bind_some, h5 _ qa28, Option.bind_some, bne_self_eq_false, if_neg qa79, Option.bind_some, h6 _ qa28, Option.bind_some, if_pos rfl, Option.bind_some, h7 _ qa28]
      rfl
end Go.Proofs.Ytoogmlghfljeiaa.Pure2
