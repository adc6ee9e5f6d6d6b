/- Texts of the claim on FnExactFieldAt, gathered by a program of this session: what the program's functions compute (proved by walks), and the plain part. -/
import Derived.Test.YtoogmlghfljeiaaKFnExactFieldAtc
import Derived.Test.YtoogmlghfljeiaaKFnExactFieldAtOpens
import Derived.KernelRfl
namespace Go.Proofs.Ytoogmlghfljeiaa.Q
open Go.RowKit Go.Proofs.YtoogmlghfljeiaaW.PrintWords Go.Proofs.YtoogmlghfljeiaaW.PrintLast Go.Proofs.YtoogmlghfljeiaaW.PrintMore
attribute [local go_sem] max2_int min2_int max_two min_two max_three min_three max_four min_four
set_option linter.unusedVariables false
set_option linter.unusedSimpArgs false

theorem lw5_hxr {w wf W W' : World} {P : Nat → Prop} (hx : Below wf.heap.size wf W) (hB : Below w.heap.size w W) (hb : Below w.heap.size w W') (hk : Kept W W' P) (hP : ∀ k, P k → wf.heap.size ≤ k) : Below wf.heap.size wf W' :=
 ⟨hb.os.trans (hB.os.symm.trans hx.os), hb.tape.trans (hB.tape.symm.trans hx.tape), hb.output.trans (hB.output.symm.trans hx.output), Nat.le_trans hx.size hk.1, fun k hlt => (hk.2 k (Nat.lt_of_lt_of_le hlt hx.size) (fun hp => absurd (hP k hp) (Nat.not_le_of_lt hlt))).trans (hx.block k hlt)⟩
theorem lw5_iv {W W' : World} {n : Nat} (hn : n ≤ W.heap.size) (hb : W.heap.size ≤ W'.heap.size) : ∃ lo hi, lo = W.heap.size ∧ hi = W'.heap.size ∧ (n ≤ lo ∧ lo ≤ hi) := ⟨_, _, rfl, rfl, hn, hb⟩
theorem lw5_need {α : Type} {p : Prop} [Decidable p] {X : Option α} {r : α} (h : (if p then X else none) = some r) : p ∧ X = some r := by
 by_cases c : p
 ·rw [if_pos c] at h; exact ⟨c, h⟩
 ·rw [if_neg c] at h; cases h
def lw5_sets (g : Nat) : Nat → List Value → World → World
 | _, [], w => w
 | j, v :: vs, w => lw5_sets g (j + 1) vs (w.setCell ⟨g, j, none⟩ v)
def lw5_all : Nat → List Value → Array Value → Array Value
 | _, [], cs => cs
 | j, v :: vs, cs => lw5_all (j + 1) vs (cs.setIfInBounds j v)
theorem lw5_sets_heap {g t : Nat} : ∀ (vs : List Value) (j : Nat) (cs : Array Value) (w : World), w.heap[g]? = some (.cells cs t (0, 0)) → (lw5_sets g j vs w).heap[g]? = some (.cells (lw5_all j vs cs) t (0, 0))
 | [], _, _, _, h => h
 | v :: vs, j, cs, w, h => lw5_sets_heap vs (j + 1) _ _ (blk_set h j v)
theorem lw5_sets_kept {g : Nat} : ∀ (vs : List Value) (j : Nat) (w : World), Kept w (lw5_sets g j vs w) (fun k_ => g ≤ k_ ∧ k_ < g + 1)
 | [], _, w => Kept.refl w _
 | v :: vs, j, w => Kept.then_ (Kept.setCell (Kept.refl w _) (.inl (show g ≤ g ∧ g < g + 1 from ⟨Nat.le_refl _, Nat.lt_succ_self _⟩)) v) (lw5_sets_kept vs (j + 1) _) (fun _ h => .inl h)
theorem lw5_sets_below {g : Nat} {w0 : World} (hg : w0.heap.size ≤ g) : ∀ (vs : List Value) (j : Nat) (w : World), Below w0.heap.size w0 w → Below w0.heap.size w0 (lw5_sets g j vs w)
 | [], _, _, h => h
 | v :: vs, j, w, h => lw5_sets_below hg vs (j + 1) _ (qbS h hg)
theorem lw5_store {P : Program} {ops : Array Oper} {o : Oper} {a : Act} {Q : Exit → Act → World → Prop} {Kc : Act → World → Prop} {w0 W : World} (g t : Nat) (vs : List Value) (cs : Array Value) (hw : Region.wanted o (yielded ops a.tmps) = true) (hN : o.dst = none)
  (hrun : (execOp a.eval o).run P W = .ok .skip (lw5_sets g 0 vs W)) (hg : w0.heap.size ≤ g) (HB : Below w0.heap.size w0 W) (hb : W.heap[g]? = some (.cells cs t (0, 0)))
  (h : ∀ w1, w1.heap[g]? = some (.cells (lw5_all 0 vs cs) t (0, 0)) → Kept W w1 (fun k_ => g ≤ k_ ∧ k_ < g + 1) → Below w0.heap.size w0 w1 → Kc a w1) : if Region.wanted o (yielded ops a.tmps) = true then Oper.wp P o a W Kc Q else Kc (a.put none undef) W := by
 rw [if_pos hw]
 unfold Oper.wp
 rw [hrun]
 show Kc (a.put o.dst undef) _
 rw [hN]
 exact h _ (lw5_sets_heap vs 0 cs W hb) (lw5_sets_kept vs 0 W) (lw5_sets_below hg vs 0 W HB)
theorem lw5_no {lo hi a b k : Nat} (h1 : lo ≤ k ∧ k < hi) (h2 : a ≤ k ∧ k < b) (h : hi ≤ a ∨ b ≤ lo) : False := by omega
theorem lw5_no2 {lo hi a b c d k : Nat} (h1 : lo ≤ k ∧ k < hi) (h2 : (a ≤ k ∧ k < b) ∨ (c ≤ k ∧ k < d)) (h : (hi ≤ a ∨ b ≤ lo) ∧ (hi ≤ c ∨ d ≤ lo)) : False := by omega
theorem lw5_no3 {lo hi a b c d x y k : Nat} (h1 : lo ≤ k ∧ k < hi) (h2 : (a ≤ k ∧ k < b) ∨ (c ≤ k ∧ k < d) ∨ (x ≤ k ∧ k < y)) (h : (hi ≤ a ∨ b ≤ lo) ∧ (hi ≤ c ∨ d ≤ lo) ∧ (hi ≤ x ∨ y ≤ lo)) : False := by omega
theorem lw5_on {lo hi c d a b k : Nat} (h1 : (lo ≤ k ∧ k < hi) ∨ (c ≤ k ∧ k < d)) (h2 : a ≤ k ∧ k < b) (h : (hi ≤ a ∨ b ≤ lo) ∧ (d ≤ a ∨ b ≤ c)) : False := by omega
theorem lw5_on2 {lo hi c d a b x y k : Nat} (h1 : (lo ≤ k ∧ k < hi) ∨ (c ≤ k ∧ k < d)) (h2 : (a ≤ k ∧ k < b) ∨ (x ≤ k ∧ k < y)) (h : ((hi ≤ a ∨ b ≤ lo) ∧ (d ≤ a ∨ b ≤ c)) ∧ ((hi ≤ x ∨ y ≤ lo) ∧ (d ≤ x ∨ y ≤ c))) : False := by omega
theorem lw5_ivk {W W' : World} {S : Nat → Prop} {n : Nat} (hk : Kept W W' S) (hn : n ≤ W.heap.size) : ∃ lo hi, lo = W.heap.size ∧ hi = W'.heap.size ∧ (n ≤ lo ∧ lo ≤ hi) := ⟨_, _, rfl, rfl, hn, hk.1⟩
theorem lw5_hx {w0 W wn : World} (_hb : Below W.heap.size W wn) (hx : Below w0.heap.size w0 W) : Below w0.heap.size w0 W := hx
theorem lw5_bind {α β : Type} {X : Option α} {f : α → Option β} {r : β} (h : X.bind f = some r) : ∃ x, X = some x ∧ f x = some r := Option.bind_eq_some_iff.mp h
theorem lw5_draw {P : Program} {Q : Exit → Act → World → Prop} {id : Nat} {ops : Array Oper} {a : Act} {W : World} (h : ∀ w1, w1 = W → Below W.heap.size W w1 → (Code.region id ops true).wp P Q a w1) : (Code.region id ops true).wp P Q a W := h W rfl (Below.refl _ _)
theorem lw5_lt {W w' : World} {g : Nat} {o : Obj} (hb : Below W.heap.size W w') (h : W.heap[g]? = some o) : g + 1 ≤ W.heap.size ∧ w'.heap[g]? = some o := ⟨blk_lt h, blk_below h hb⟩
def laws_FnExactFieldAt.f (k : Nat) (l0_0 : List (S77)) (a1 : ByteArray) (a2 : ByteArray) : Option (Bool) := (if 1048576 < (a1.size : Int) then (some true) else (if 1048576 < (a2.size : Int) then (some true) else ((laws_szSchema.f k l0_0 1048576).bind fun b2_ => (if b2_ < 0 then (some true) else ((laws_toSchema.f k l0_0).bind fun b4_ => ((spec_FieldAt.f k b4_ a1 a2).bind fun b5_ => ((laws_toSchema.f k l0_0).bind fun b6_ => ((impl_FieldAt.f k b6_ a1 a2).bind fun b7_ => ((laws_eqFieldDef.f k b7_.1 b7_.2.1 b7_.2.2.1 b7_.2.2.2.1 b7_.2.2.2.2.1 b5_.1 b5_.2.1 b5_.2.2.1 b5_.2.2.2.1 b5_.2.2.2.2.1).bind fun b8_ => (if b8_ = true then (if b7_.2.2.2.2.2 = b5_.2.2.2.2.2 then ((laws_toSchema.f k l0_0).bind fun b11_ => ((laws_eqSchema.f k b6_ b11_).bind fun b12_ => (if b12_ = true then ((laws_markSchema.f k b6_ 1).bind fun b14_ => (if ¬ (b14_ < 0) then ((laws_eqFieldDef.f k b7_.1 b7_.2.1 b7_.2.2.1 b7_.2.2.2.1 b7_.2.2.2.2.1 b5_.1 b5_.2.1 b5_.2.2.1 b5_.2.2.2.1 b5_.2.2.2.2.1).bind fun b16_ => (if b16_ = true then ((laws_markFieldDef.f k b7_.1 b7_.2.1 b7_.2.2.1 b7_.2.2.2.1 b7_.2.2.2.2.1 1).bind fun b18_ => ((laws_heldFieldDef.f k b7_.1 b18_.2 b7_.2.2.1 b7_.2.2.2.1 b7_.2.2.2.2.1 1).bind fun b19_ => (if ¬ (b19_ < 0) then (if b19_ = b18_.1 then ((laws_toSchema.f k l0_0).bind fun b22_ => ((impl_FieldAt.f k b22_ a1 a2).bind fun b23_ => ((laws_eqFieldDef.f k b23_.1 b23_.2.1 b23_.2.2.1 b23_.2.2.2.1 b23_.2.2.2.2.1 b5_.1 b5_.2.1 b5_.2.2.1 b5_.2.2.2.1 b5_.2.2.2.2.1).bind fun b24_ => (if b24_ = true then (if b23_.2.2.2.2.2 = b5_.2.2.2.2.2 then ((laws_heldFieldDef.f k b7_.1 b18_.2 b7_.2.2.1 b7_.2.2.2.1 b7_.2.2.2.2.1 1).bind fun b27_ => (if ¬ (b27_ < 0) then (if b27_ = b18_.1 then (some true) else (none)) else (none))) else (none)) else (none))))) else (none)) else (none)))) else (none))) else (none))) else (none)))) else (none)) else (none)))))))))))
set_option maxHeartbeats 8000000 in
set_option maxRecDepth 100000 in
theorem laws_FnExactFieldAt.calls (k : Nat) (A0_0 : Option Addr) (c0_0 : Nat) (l0_0 : List (S77)) (a1 : ByteArray) (a2 : ByteArray) (r : Bool) (w : World) (hr0_0 : Kd.C k77 w A0_0 l0_0.length l0_0) (hc0_0 : l0_0.length ≤ c0_0) (h : laws_FnExactFieldAt.f k l0_0 a1 a2 = some r) :
  Calls Try.prog 5 #[.agg #[.slice A0_0 l0_0.length c0_0], .string a1, .string a2] w fun e w' => e = .returned (.bool r) ∧ Below w.heap.size w w' := by
 have hu24 := Try.underlying24; have hu38 := Try.underlying38; have hu29 := Try.underlying29; have HR0_0 := qO hr0_0; have HC0_0 := qO hc0_0; clear hr0_0 hc0_0; have HB := qO (Below.refl w.heap.size w); have HX := qO (Below.refl w.heap.size w); have HN := qO (Nat.le_refl w.heap.size); have H : (if 1048576 < (a1.size : Int) then (some true) else (if 1048576 < (a2.size : Int) then (some true) else ((laws_szSchema.f k l0_0 1048576).bind fun b2_ => (if b2_ < 0 then (some true) else ((laws_toSchema.f k l0_0).bind fun b4_ => ((spec_FieldAt.f k b4_ a1 a2).bind fun b5_ => ((laws_toSchema.f k l0_0).bind fun b6_ => ((impl_FieldAt.f k b6_ a1 a2).bind fun b7_ => ((laws_eqFieldDef.f k b7_.1 b7_.2.1 b7_.2.2.1 b7_.2.2.2.1 b7_.2.2.2.2.1 b5_.1 b5_.2.1 b5_.2.2.1 b5_.2.2.2.1 b5_.2.2.2.2.1).bind fun b8_ => (if b8_ = true then (if b7_.2.2.2.2.2 = b5_.2.2.2.2.2 then ((laws_toSchema.f k l0_0).bind fun b11_ => ((laws_eqSchema.f k b6_ b11_).bind fun b12_ => (if b12_ = true then ((laws_markSchema.f k b6_ 1).bind fun b14_ => (if ¬ (b14_ < 0) then ((laws_eqFieldDef.f k b7_.1 b7_.2.1 b7_.2.2.1 b7_.2.2.2.1 b7_.2.2.2.2.1 b5_.1 b5_.2.1 b5_.2.2.1 b5_.2.2.2.1 b5_.2.2.2.2.1).bind fun b16_ => (if b16_ = true then ((laws_markFieldDef.f k b7_.1 b7_.2.1 b7_.2.2.1 b7_.2.2.2.1 b7_.2.2.2.2.1 1).bind fun b18_ => ((laws_heldFieldDef.f k b7_.1 b18_.2 b7_.2.2.1 b7_.2.2.2.1 b7_.2.2.2.2.1 1).bind fun b19_ => (if ¬ (b19_ < 0) then (if b19_ = b18_.1 then ((laws_toSchema.f k l0_0).bind fun b22_ => ((impl_FieldAt.f k b22_ a1 a2).bind fun b23_ => ((laws_eqFieldDef.f k b23_.1 b23_.2.1 b23_.2.2.1 b23_.2.2.2.1 b23_.2.2.2.2.1 b5_.1 b5_.2.1 b5_.2.2.1 b5_.2.2.2.1 b5_.2.2.2.2.1).bind fun b24_ => (if b24_ = true then (if b23_.2.2.2.2.2 = b5_.2.2.2.2.2 then ((laws_heldFieldDef.f k b7_.1 b18_.2 b7_.2.2.1 b7_.2.2.2.1 b7_.2.2.2.2.1 1).bind fun b27_ => (if ¬ (b27_ < 0) then (if b27_ = b18_.1 then (some true) else (none)) else (none))) else (none)) else (none))))) else (none)) else (none)))) else (none))) else (none))) else (none)))) else (none)) else (none))))))))))) = some r := h; clear h
 by_cases c0 : 1048576 < (a1.size : Int)
 ·rw [if_pos c0] at H
  have c0b : decide (1048576 < (a1.size : Int)) = true := decide_eq_true c0; clear c0; obtain rfl := Option.some.inj H
  go_enter Try.func5, Try.ntmps5
  go_wp2_with (first | ((with_reducible refine gate_dst (N := 3) rfl ?_); refine box_event ?hg (N := 3) ?hd (cs := #[.slice A0_0 l0_0.length c0_0]) (t := 24) ?hr ?_; (case hd => rfl); (case hg => rfl); (case hr => exact qa18); intro gb1 hg w2 hbox hb; have hx_ := lw5_hx hb qa23; have hbt := below_step hx_ hb; obtain ⟨lo4, hi4, hl_, hh_, hc_⟩ := lw5_iv (Nat.le_trans HN.out (below_size hx_)) hb.size; have CHlo4 := qO (show w.heap.size ≤ lo4 ∧ lo4 ≤ hi4 from hc_); clear hc_; have BK3 := qO (hbox); replace HN := qO ((show hi4 ≤ w2.heap.size from Nat.le_of_eq hh_)); replace HB := qO (below_step HB.out hbt); replace HX := qO (Below.refl w2.heap.size w2); have IVgb1 := qO (show lo4 ≤ gb1 ∧ gb1 < hi4 from ⟨Nat.le_of_eq (hl_.trans hg.symm), qa115⟩); clear hb hbt hx_ hl_ hh_; clear hg hbox; have hcz0_0_BK3 : w2.cell? ⟨gb1, 0, none⟩ = some (.slice A0_0 l0_0.length c0_0) := (blk_cell BK3.out 0).trans rfl))
  go_ret
  exact ⟨qa114, below_step HB.out qa23⟩
 ·rw [if_neg c0] at H
  have c0b : decide (1048576 < (a1.size : Int)) = false := decide_eq_false c0; clear c0
  by_cases c1 : 1048576 < (a2.size : Int)
  ·rw [if_pos c1] at H
   have c1b : decide (1048576 < (a2.size : Int)) = true := decide_eq_true c1; clear c1; obtain rfl := Option.some.inj H
   go_enter Try.func5, Try.ntmps5
   go_wp2_with (first | ((with_reducible refine gate_dst (N := 3) rfl ?_); refine box_event ?hg (N := 3) ?hd (cs := #[.slice A0_0 l0_0.length c0_0]) (t := 24) ?hr ?_; (case hd => rfl); (case hg => rfl); (case hr => exact qa18); intro gb1 hg w2 hbox hb; have hx_ := lw5_hx hb qa23; have hbt := below_step hx_ hb; obtain ⟨lo4, hi4, hl_, hh_, hc_⟩ := lw5_iv (Nat.le_trans HN.out (below_size hx_)) hb.size; have CHlo4 := qO (show w.heap.size ≤ lo4 ∧ lo4 ≤ hi4 from hc_); clear hc_; have BK3 := qO (hbox); replace HN := qO ((show hi4 ≤ w2.heap.size from Nat.le_of_eq hh_)); replace HB := qO (below_step HB.out hbt); replace HX := qO (Below.refl w2.heap.size w2); have IVgb1 := qO (show lo4 ≤ gb1 ∧ gb1 < hi4 from ⟨Nat.le_of_eq (hl_.trans hg.symm), qa115⟩); clear hb hbt hx_ hl_ hh_; clear hg hbox; have hcz0_0_BK3 : w2.cell? ⟨gb1, 0, none⟩ = some (.slice A0_0 l0_0.length c0_0) := (blk_cell BK3.out 0).trans rfl))
   go_ret
   exact ⟨qa114, below_step HB.out qa23⟩
  ·rw [if_neg c1] at H
   have c1b : decide (1048576 < (a2.size : Int)) = false := decide_eq_false c1; clear c1; obtain ⟨t5, A0_, H⟩ := lw5_bind H; (try dsimp only at H); have A6 := qO A0_; clear A0_
   by_cases c3 : t5 < 0
   ·rw [if_pos c3] at H
    have c3b : decide (t5 < 0) = true := decide_eq_true c3; clear c3; obtain rfl := Option.some.inj H
    go_enter Try.func5, Try.ntmps5
    go_wp2_with (first | ((with_reducible refine gate_dst (N := 3) rfl ?_); refine box_event ?hg (N := 3) ?hd (cs := #[.slice A0_0 l0_0.length c0_0]) (t := 24) ?hr ?_; (case hd => rfl); (case hg => rfl); (case hr => exact qa18); intro gb1 hg w2 hbox hb; have hx_ := lw5_hx hb qa23; have hbt := below_step hx_ hb; obtain ⟨lo4, hi4, hl_, hh_, hc_⟩ := lw5_iv (Nat.le_trans HN.out (below_size hx_)) hb.size; have CHlo4 := qO (show w.heap.size ≤ lo4 ∧ lo4 ≤ hi4 from hc_); clear hc_; have BK3 := qO (hbox); replace HN := qO ((show hi4 ≤ w2.heap.size from Nat.le_of_eq hh_)); replace HB := qO (below_step HB.out hbt); replace HX := qO (Below.refl w2.heap.size w2); have IVgb1 := qO (show lo4 ≤ gb1 ∧ gb1 < hi4 from ⟨Nat.le_of_eq (hl_.trans hg.symm), qa115⟩); clear hb hbt hx_ hl_ hh_; clear hg hbox; have hcz0_0_BK3 : w2.cell? ⟨gb1, 0, none⟩ = some (.slice A0_0 l0_0.length c0_0) := (blk_cell BK3.out 0).trans rfl) | ((with_reducible refine gate_callee (f := 8) rfl ?_); refine goesL_ (some 26) rfl rfl Try.func8 qa17 rfl #[.agg #[.slice A0_0 l0_0.length c0_0], .int .i64 1048576] rfl qa32 ?_; (with_reducible refine (laws_szSchema.calls k _ _ l0_0 1048576 t5 _ ?side1 ?side2 A6.out).mono ?_); (case side1 => exact qa65); (case side2 => exact HC0_0.out); rintro e w7 ⟨rfl, hb⟩; refine ⟨_, rfl, ?_⟩; have hx_ := lw5_hx hb qa23; have hbt := below_step hx_ hb; replace BK3 := qO (blk_below (g := gb1) BK3.out hbt); replace HN := qO (Nat.le_trans (Nat.le_trans HN.out (below_size hx_)) hb.size); replace HB := qO (below_step HB.out hbt); replace HX := qO (Below.refl w7.heap.size w7); clear hb hbt hx_; have hcz1_0_BK3 : w7.cell? ⟨gb1, 0, none⟩ = some (.slice A0_0 l0_0.length c0_0) := (blk_cell BK3.out 0).trans rfl))
    go_ret
    exact ⟨qa114, below_step HB.out qa23⟩
   ·rw [if_neg c3] at H
    have c3b : decide (t5 < 0) = false := decide_eq_false c3; clear c3; obtain ⟨t9, A0_, H⟩ := lw5_bind H; (try dsimp only at H); have A10 := qO A0_; clear A0_; obtain ⟨⟨t15, t16, t17, t18, t19, t20⟩, A0_, H⟩ := lw5_bind H; (try dsimp only at H); have A21 := qO A0_; clear A0_; obtain ⟨t40, A0_, H⟩ := lw5_bind H; (try dsimp only at H); have A41 := qO A0_; clear A0_; obtain ⟨⟨t53, t54, t55, t56, t57, t58⟩, A0_, H⟩ := lw5_bind H; (try dsimp only at H); have A59 := qO A0_; clear A0_; obtain ⟨t80, A0_, H⟩ := lw5_bind H; (try dsimp only at H); have A81 := qO A0_; clear A0_; replace H := lw5_need H; obtain ⟨c9, H⟩ := H; subst c9; replace H := lw5_need H; obtain ⟨c10, H⟩ := H; have c10b0 : (t58 == t20) = true := beq_iff_eq.mpr c10; have c10b1 : (t58 != t20) = false := bne_eq_false_iff_eq.mpr c10; clear c10; obtain ⟨t85, A0_, H⟩ := lw5_bind H; (try dsimp only at H); have A86 := qO A0_; clear A0_; obtain ⟨t91, A0_, H⟩ := lw5_bind H; (try dsimp only at H); have A92 := qO A0_; clear A0_; replace H := lw5_need H; obtain ⟨c13, H⟩ := H; subst c13; obtain ⟨t95, A0_, H⟩ := lw5_bind H; (try dsimp only at H); have A96 := qO A0_; clear A0_; replace H := lw5_need H; obtain ⟨c15, H⟩ := H; have c15b0 : decide (t95 < 0) = false := decide_eq_false c15; clear c15; obtain ⟨t98, A0_, H⟩ := lw5_bind H; (try dsimp only at H); have A99 := qO A0_; clear A0_; replace H := lw5_need H; obtain ⟨c17, H⟩ := H; subst c17; obtain ⟨⟨t102, t103⟩, A0_, H⟩ := lw5_bind H; (try dsimp only at H); have A104 := qO A0_; clear A0_; obtain ⟨t108, A0_, H⟩ := lw5_bind H; (try dsimp only at H); have A109 := qO A0_; clear A0_; replace H := lw5_need H; obtain ⟨c20, H⟩ := H; have c20b0 : decide (t108 < 0) = false := decide_eq_false c20; clear c20; replace H := lw5_need H; obtain ⟨c21, H⟩ := H; have c21b0 : (t108 == t102) = true := beq_iff_eq.mpr c21; have c21b1 : (t108 != t102) = false := bne_eq_false_iff_eq.mpr c21; clear c21; obtain ⟨t112, A0_, H⟩ := lw5_bind H; (try dsimp only at H); have A113 := qO A0_; clear A0_; obtain ⟨⟨t118, t119, t120, t121, t122, t123⟩, A0_, H⟩ := lw5_bind H; (try dsimp only at H); have A124 := qO A0_; clear A0_; obtain ⟨t146, A0_, H⟩ := lw5_bind H; (try dsimp only at H); have A147 := qO A0_; clear A0_; replace H := lw5_need H; obtain ⟨c25, H⟩ := H; subst c25; replace H := lw5_need H; obtain ⟨c26, H⟩ := H; have c26b0 : (t123 == t20) = true := beq_iff_eq.mpr c26; have c26b1 : (t123 != t20) = false := bne_eq_false_iff_eq.mpr c26; clear c26; obtain ⟨t150, A0_, H⟩ := lw5_bind H; (try dsimp only at H); have A151 := qO A0_; clear A0_; replace H := lw5_need H; obtain ⟨c28, H⟩ := H; have c28b0 : decide (t150 < 0) = false := decide_eq_false c28; clear c28; replace H := lw5_need H; obtain ⟨c29, H⟩ := H; have c29b0 : (t150 == t102) = true := beq_iff_eq.mpr c29; have c29b1 : (t150 != t102) = false := bne_eq_false_iff_eq.mpr c29; clear c29; obtain rfl := Option.some.inj H
    go_enter Try.func5, Try.ntmps5
    go_wp2_with (first | ((with_reducible refine gate_dst (N := 3) rfl ?_); refine box_event ?hg (N := 3) ?hd (cs := #[.slice A0_0 l0_0.length c0_0]) (t := 24) ?hr ?_; (case hd => rfl); (case hg => rfl); (case hr => exact qa18); intro gb1 hg w2 hbox hb; have hx_ := lw5_hx hb qa23; have hbt := below_step hx_ hb; obtain ⟨lo4, hi4, hl_, hh_, hc_⟩ := lw5_iv (Nat.le_trans HN.out (below_size hx_)) hb.size; have CHlo4 := qO (show w.heap.size ≤ lo4 ∧ lo4 ≤ hi4 from hc_); clear hc_; have BK3 := qO (hbox); replace HN := qO ((show hi4 ≤ w2.heap.size from Nat.le_of_eq hh_)); replace HB := qO (below_step HB.out hbt); replace HX := qO (Below.refl w2.heap.size w2); have IVgb1 := qO (show lo4 ≤ gb1 ∧ gb1 < hi4 from ⟨Nat.le_of_eq (hl_.trans hg.symm), qa115⟩); clear hb hbt hx_ hl_ hh_; clear hg hbox; have hcz0_0_BK3 : w2.cell? ⟨gb1, 0, none⟩ = some (.slice A0_0 l0_0.length c0_0) := (blk_cell BK3.out 0).trans rfl) | ((with_reducible refine gate_callee (f := 8) rfl ?_); refine goesL_ (some 26) rfl rfl Try.func8 qa17 rfl #[.agg #[.slice A0_0 l0_0.length c0_0], .int .i64 1048576] rfl qa32 ?_; (with_reducible refine (laws_szSchema.calls k _ _ l0_0 1048576 t5 _ ?side1 ?side2 A6.out).mono ?_); (case side1 => exact qa65); (case side2 => exact HC0_0.out); rintro e w7 ⟨rfl, hb⟩; refine ⟨_, rfl, ?_⟩; have hx_ := lw5_hx hb qa23; have hbt := below_step hx_ hb; replace BK3 := qO (blk_below (g := gb1) BK3.out hbt); replace HN := qO (Nat.le_trans (Nat.le_trans HN.out (below_size hx_)) hb.size); replace HB := qO (below_step HB.out hbt); replace HX := qO (Below.refl w7.heap.size w7); clear hb hbt hx_; have hcz1_0_BK3 : w7.cell? ⟨gb1, 0, none⟩ = some (.slice A0_0 l0_0.length c0_0) := (blk_cell BK3.out 0).trans rfl) | ((with_reducible refine gate_callee (f := 10) rfl ?_); refine goesL_ (some 31) rfl rfl Try.func10 qa17 rfl #[.agg #[.slice A0_0 l0_0.length c0_0]] rfl qa32 ?_; (with_reducible refine (laws_toSchema.calls k _ _ l0_0 t9 _ ?side1 ?side2 A10.out).mono ?_); (case side1 => exact qa65); (case side2 => exact HC0_0.out); rintro e w11 ⟨vt9, rfl, ho0, hb⟩; refine ⟨_, rfl, ?_⟩; have hx_ := lw5_hx hb qa23; have hbt := below_step hx_ hb; obtain ⟨lo12, hi12, hl_, hh_, hc_⟩ := lw5_iv (Nat.le_trans HN.out (below_size hx_)) hb.size; have CHlo12 := qO (show hi4 ≤ lo12 ∧ lo12 ≤ hi12 from hc_); clear hc_; replace BK3 := qO (blk_below (g := gb1) BK3.out hbt); have HO13 := qO (Kd.R_mono (ok' := fun k_ => lo12 ≤ k_ ∧ k_ < hi12) (Kd.R_lower (Kd.R_bound ho0) (below_size (below_step HB.out hx_))) (fun k_ hk_ => ⟨qa111, qa107⟩)); replace HN := qO ((show hi12 ≤ w11.heap.size from Nat.le_of_eq hh_)); replace HB := qO (below_step HB.out hbt); replace HX := qO (Below.refl w11.heap.size w11); clear hb hbt hx_ hl_ hh_; (try clear ho0); obtain ⟨Aoo14, coo14, eoo14⟩ := Kd.R_slice HO13.out; (first | subst eoo14 | (injection eoo14 with f1_ f2_ f3_; have f4_ := f1_.symm; have f5_ := f3_.symm; clear f1_ f2_ f3_; subst f4_; subst f5_)); skip) | ((with_reducible refine gate_callee (f := 15) rfl ?_); refine goesL_ (some 34) rfl rfl Try.func15 qa17 rfl #[.agg #[.slice Aoo14 t9.length coo14], .string a1, .string a2] rfl qa32 ?_; (with_reducible refine (spec_FieldAt.calls k _ _ t9 a1 a2 t15 t16 t17 t18 t19 t20 _ ?side1 ?side2 A21.out).mono ?_); (case side1 => exact Kd.C_below (Kd.R_reads' HO13.out).2.2 (by repeat (first | (with_reducible first | exact HX.out | apply qbA | apply qbN | apply qbD) | exact HX.out))); (case side2 => have z_ := Kd.R_reads' HO13.out; have y_ := z_.1; have x_ := z_.2.1; omega); rintro e w22 ⟨vt16, rfl, ho0, hb⟩; refine ⟨_, rfl, ?_⟩; have hx_ := lw5_hx hb qa23; have hbt := below_step hx_ hb; obtain ⟨lo23, hi23, hl_, hh_, hc_⟩ := lw5_iv (Nat.le_trans HN.out (below_size hx_)) hb.size; have CHlo23 := qO (show hi12 ≤ lo23 ∧ lo23 ≤ hi23 from hc_); clear hc_; replace BK3 := qO (blk_below (g := gb1) BK3.out hbt); replace HO13 := qO (Kd.R_below HO13.out hbt); have HO24 := qO (Kd.R_mono (ok' := fun k_ => lo23 ≤ k_ ∧ k_ < hi23) (Kd.R_lower (Kd.R_bound ho0) (below_size (below_step HB.out hx_))) (fun k_ hk_ => ⟨qa111, qa107⟩)); replace HN := qO ((show hi23 ≤ w22.heap.size from Nat.le_of_eq hh_)); replace HB := qO (below_step HB.out hbt); replace HX := qO (Below.refl w22.heap.size w22); clear hb hbt hx_ hl_ hh_; (try clear ho0); obtain ⟨Aoo25, coo25, eoo25⟩ := Kd.R_slice HO24.out; (first | subst eoo25 | (injection eoo25 with f1_ f2_ f3_; have f4_ := f1_.symm; have f5_ := f3_.symm; clear f1_ f2_ f3_; subst f4_; subst f5_)); skip) | ((with_reducible refine gate_dst (N := 8) rfl ?_); refine box_event ?hg (N := 8) ?hd (cs := #[.string (⟨#[]⟩ : ByteArray), .slice none 0 0, .string (⟨#[]⟩ : ByteArray), .bool false, .bool false]) (t := 38) ?hr ?_; (case hd => rfl); (case hg => rfl); (case hr => exact qa18); intro gb26 hg w27 hbox hb; have GEgb26 := qO (qa70 : _ ≤ gb26); have BK28r := qO hbox; have n0_ := qO (below_step qa23 hb); have hnb29 : gb26 ≠ gb1 := (fun e_ => by have z1_ := GEgb26.out; have z2_ := blk_lt BK3.out; omega); have hnb29c : gb1 ≠ gb26 := fun e_ => hnb29 e_.symm; clear HX; have HX := n0_; clear n0_ hb hg; have hcz30 : w27.cell? ⟨gb26, 0, none⟩ = some (.string (⟨#[]⟩ : ByteArray)) := (blk_cell BK28r.out 0).trans rfl; have hfz31 := blk_frozen BK28r.out 0; have hcz32 : w27.cell? ⟨gb26, 1, none⟩ = some (.slice none 0 0) := (blk_cell BK28r.out 1).trans rfl; have hfz33 := blk_frozen BK28r.out 1; have hcz34 : w27.cell? ⟨gb26, 2, none⟩ = some (.string (⟨#[]⟩ : ByteArray)) := (blk_cell BK28r.out 2).trans rfl; have hfz35 := blk_frozen BK28r.out 2; have hcz36 : w27.cell? ⟨gb26, 3, none⟩ = some (.bool false) := (blk_cell BK28r.out 3).trans rfl; have hfz37 := blk_frozen BK28r.out 3; have hcz38 : w27.cell? ⟨gb26, 4, none⟩ = some (.bool false) := (blk_cell BK28r.out 4).trans rfl; have hfz39 := blk_frozen BK28r.out 4; have hcz4_0_BK3 : w27.cell? ⟨gb1, 0, none⟩ = some (.slice A0_0 l0_0.length c0_0) := (blk_cell (blk_below (g := gb1) BK3.out HX.out) 0).trans rfl; clear hbox) | ((with_reducible refine gate_callee (f := 10) rfl ?_); refine goesL_ (some 38) rfl rfl Try.func10 qa17 rfl #[.agg #[.slice A0_0 l0_0.length c0_0]] rfl qa32 ?_; (with_reducible refine (laws_toSchema.calls k _ _ l0_0 t40 _ ?side1 ?side2 A41.out).mono ?_); (case side1 => exact Kd.C_below HR0_0.out (below_step HB.out (by repeat (first | (with_reducible first | exact HX.out | apply qbA | apply qbN | apply qbD | refine qbS ?_ GEgb26.out) | exact HX.out)))); (case side2 => exact HC0_0.out); rintro e w42 ⟨vt40, rfl, ho0, hb⟩; refine ⟨_, rfl, ?_⟩; have hx_ := lw5_hx hb (by repeat (first | (with_reducible first | exact HX.out | apply qbA | apply qbN | apply qbD | refine qbS ?_ GEgb26.out) | exact HX.out)); have hp_ := lw5_lt (g := gb26) (o := .cells #[.string t15, .slice Aoo25 t16.length coo25, .string t17, .bool t18, .bool t19] 38 (0, 0)) hb (by (with_reducible repeat (first | refine qkN ?_ _ | refine qkD ?_ | refine qkA ?_ _)); refine blk_put (cs := #[.string t15, .slice Aoo25 t16.length coo25, .string t17, .bool t18, .bool false]) ?_ 4 _ rfl; (with_reducible repeat (first | refine qkN ?_ _ | refine qkD ?_ | refine qkA ?_ _)); refine blk_put (cs := #[.string t15, .slice Aoo25 t16.length coo25, .string t17, .bool false, .bool false]) ?_ 3 _ rfl; (with_reducible repeat (first | refine qkN ?_ _ | refine qkD ?_ | refine qkA ?_ _)); refine blk_put (cs := #[.string t15, .slice Aoo25 t16.length coo25, .string (⟨#[]⟩ : ByteArray), .bool false, .bool false]) ?_ 2 _ rfl; (with_reducible repeat (first | refine qkN ?_ _ | refine qkD ?_ | refine qkA ?_ _)); refine blk_put (cs := #[.string t15, .slice none 0 0, .string (⟨#[]⟩ : ByteArray), .bool false, .bool false]) ?_ 1 _ rfl; (with_reducible repeat (first | refine qkN ?_ _ | refine qkD ?_ | refine qkA ?_ _)); refine blk_put (cs := #[.string (⟨#[]⟩ : ByteArray), .slice none 0 0, .string (⟨#[]⟩ : ByteArray), .bool false, .bool false]) ?_ 0 _ rfl; (with_reducible repeat (first | refine qkN ?_ _ | refine qkD ?_ | refine qkA ?_ _)); exact BK28r.out); have CHgb26 := qO (show hi23 ≤ gb26 from Nat.le_trans HN.out GEgb26.out); have hbt := below_step hx_ hb; obtain ⟨lo43, hi43, hl_, hh_, hc_⟩ := lw5_iv (hp_.1) hb.size; have CHlo43 := qO (show gb26 + 1 ≤ lo43 ∧ lo43 ≤ hi43 from hc_); clear hc_; have BK28 := qO (hp_.2); replace BK3 := qO (blk_below (g := gb1) BK3.out hbt); replace HO13 := qO (Kd.R_below HO13.out hbt); replace HO24 := qO (Kd.R_below HO24.out hbt); have HO44 := qO (Kd.R_mono (ok' := fun k_ => lo43 ≤ k_ ∧ k_ < hi43) (Kd.R_lower (Kd.R_bound ho0) (below_size (below_step HB.out hx_))) (fun k_ hk_ => ⟨qa111, qa107⟩)); replace HN := qO ((show hi43 ≤ w42.heap.size from Nat.le_of_eq hh_)); replace HB := qO (below_step HB.out hbt); replace HX := qO (Below.refl w42.heap.size w42); have IVgb26 := qO (show gb26 ≤ gb26 ∧ gb26 < gb26 + 1 from ⟨Nat.le_refl _, Nat.lt_succ_self _⟩); clear hb hbt hx_ hp_ hl_ hh_; (try clear ho0); obtain ⟨Aoo45, coo45, eoo45⟩ := Kd.R_slice HO44.out; (first | subst eoo45 | (injection eoo45 with f1_ f2_ f3_; have f4_ := f1_.symm; have f5_ := f3_.symm; clear f1_ f2_ f3_; subst f4_; subst f5_)); skip) | ((with_reducible refine gate_dst (N := 10) rfl ?_); refine box_event ?hg (N := 10) ?hd (cs := #[.slice none 0 0]) (t := 29) ?hr ?_; (case hd => rfl); (case hg => rfl); (case hr => exact qa18); intro gb46 hg w47 hbox hb; have GEgb46 := qO (qa70 : _ ≤ gb46); have BK48r := qO hbox; have n0_ := qO (below_step qa23 hb); have hnb49 : gb46 ≠ gb1 := (fun e_ => by have z1_ := GEgb46.out; have z2_ := blk_lt BK3.out; omega); have hnb49c : gb1 ≠ gb46 := fun e_ => hnb49 e_.symm; have hnb50 : gb46 ≠ gb26 := (fun e_ => by have z1_ := GEgb46.out; have z2_ := blk_lt BK28.out; omega); have hnb50c : gb26 ≠ gb46 := fun e_ => hnb50 e_.symm; clear HX; have HX := n0_; clear n0_ hb hg; have hcz51 : w47.cell? ⟨gb46, 0, none⟩ = some (.slice none 0 0) := (blk_cell BK48r.out 0).trans rfl; have hfz52 := blk_frozen BK48r.out 0; skip; clear hbox) | ((with_reducible refine gate_callee (f := 16) rfl ?_); refine goesL_ (some 43) rfl rfl Try.func16 qa17 rfl #[.agg #[.slice Aoo45 t40.length coo45], .string a1, .string a2] rfl qa32 ?_; (with_reducible refine (impl_FieldAt.calls k _ _ t40 a1 a2 t53 t54 t55 t56 t57 t58 _ ?side1 ?side2 A59.out).mono ?_); (case side1 => exact Kd.C_below (Kd.R_reads' HO44.out).2.2 (by repeat (first | (with_reducible first | exact HX.out | apply qbA | apply qbN | apply qbD | refine qbS ?_ GEgb46.out) | exact HX.out))); (case side2 => have z_ := Kd.R_reads' HO44.out; have y_ := z_.1; have x_ := z_.2.1; omega); rintro e w60 ⟨vt54, rfl, ho0, hb⟩; refine ⟨_, rfl, ?_⟩; have hx_ := lw5_hx hb (by repeat (first | (with_reducible first | exact HX.out | apply qbA | apply qbN | apply qbD | refine qbS ?_ GEgb46.out) | exact HX.out)); have hp_ := lw5_lt (g := gb46) (o := .cells #[.slice Aoo45 t40.length coo45] 29 (0, 0)) hb (by (with_reducible repeat (first | refine qkN ?_ _ | refine qkD ?_ | refine qkA ?_ _)); refine blk_put (cs := #[.slice none 0 0]) ?_ 0 _ rfl; (with_reducible repeat (first | refine qkN ?_ _ | refine qkD ?_ | refine qkA ?_ _)); exact BK48r.out); have CHgb46 := qO (show hi43 ≤ gb46 from Nat.le_trans HN.out GEgb46.out); have hbt := below_step hx_ hb; obtain ⟨lo61, hi61, hl_, hh_, hc_⟩ := lw5_iv (hp_.1) hb.size; have CHlo61 := qO (show gb46 + 1 ≤ lo61 ∧ lo61 ≤ hi61 from hc_); clear hc_; have BK48 := qO (hp_.2); replace BK3 := qO (blk_below (g := gb1) BK3.out hbt); replace HO13 := qO (Kd.R_below HO13.out hbt); replace HO24 := qO (Kd.R_below HO24.out hbt); replace BK28 := qO (blk_below (g := gb26) BK28.out hbt); replace HO44 := qO (Kd.R_below HO44.out hbt); have HO62 := qO (Kd.R_mono (ok' := fun k_ => lo61 ≤ k_ ∧ k_ < hi61) (Kd.R_lower (Kd.R_bound ho0) (below_size (below_step HB.out hx_))) (fun k_ hk_ => ⟨qa111, qa107⟩)); replace HN := qO ((show hi61 ≤ w60.heap.size from Nat.le_of_eq hh_)); replace HB := qO (below_step HB.out hbt); replace HX := qO (Below.refl w60.heap.size w60); have IVgb46 := qO (show gb46 ≤ gb46 ∧ gb46 < gb46 + 1 from ⟨Nat.le_refl _, Nat.lt_succ_self _⟩); clear hb hbt hx_ hp_ hl_ hh_; (try clear ho0); obtain ⟨Aoo63, coo63, eoo63⟩ := Kd.R_slice HO62.out; (first | subst eoo63 | (injection eoo63 with f1_ f2_ f3_; have f4_ := f1_.symm; have f5_ := f3_.symm; clear f1_ f2_ f3_; subst f4_; subst f5_)); skip) | ((with_reducible refine gate_dst (N := 11) rfl ?_); refine box_event ?hg (N := 11) ?hd (cs := #[.string (⟨#[]⟩ : ByteArray), .slice none 0 0, .string (⟨#[]⟩ : ByteArray), .bool false, .bool false]) (t := 38) ?hr ?_; (case hd => rfl); (case hg => rfl); (case hr => exact qa18); intro gb64 hg w65 hbox hb; have GEgb64 := qO (qa70 : _ ≤ gb64); have BK66r := qO hbox; have n0_ := qO (below_step qa23 hb); have hnb67 : gb64 ≠ gb1 := (fun e_ => by have z1_ := GEgb64.out; have z2_ := blk_lt BK3.out; omega); have hnb67c : gb1 ≠ gb64 := fun e_ => hnb67 e_.symm; have hnb68 : gb64 ≠ gb26 := (fun e_ => by have z1_ := GEgb64.out; have z2_ := blk_lt BK28.out; omega); have hnb68c : gb26 ≠ gb64 := fun e_ => hnb68 e_.symm; have hnb69 : gb64 ≠ gb46 := (fun e_ => by have z1_ := GEgb64.out; have z2_ := blk_lt BK48.out; omega); have hnb69c : gb46 ≠ gb64 := fun e_ => hnb69 e_.symm; clear HX; have HX := n0_; clear n0_ hb hg; have hcz70 : w65.cell? ⟨gb64, 0, none⟩ = some (.string (⟨#[]⟩ : ByteArray)) := (blk_cell BK66r.out 0).trans rfl; have hfz71 := blk_frozen BK66r.out 0; have hcz72 : w65.cell? ⟨gb64, 1, none⟩ = some (.slice none 0 0) := (blk_cell BK66r.out 1).trans rfl; have hfz73 := blk_frozen BK66r.out 1; have hcz74 : w65.cell? ⟨gb64, 2, none⟩ = some (.string (⟨#[]⟩ : ByteArray)) := (blk_cell BK66r.out 2).trans rfl; have hfz75 := blk_frozen BK66r.out 2; have hcz76 : w65.cell? ⟨gb64, 3, none⟩ = some (.bool false) := (blk_cell BK66r.out 3).trans rfl; have hfz77 := blk_frozen BK66r.out 3; have hcz78 : w65.cell? ⟨gb64, 4, none⟩ = some (.bool false) := (blk_cell BK66r.out 4).trans rfl; have hfz79 := blk_frozen BK66r.out 4; have hcz8_0_BK28 : w65.cell? ⟨gb26, 0, none⟩ = some (.string t15) := (blk_cell (blk_below (g := gb26) BK28.out HX.out) 0).trans rfl; have hcz8_1_BK28 : w65.cell? ⟨gb26, 1, none⟩ = some (.slice Aoo25 t16.length coo25) := (blk_cell (blk_below (g := gb26) BK28.out HX.out) 1).trans rfl; have hcz8_2_BK28 : w65.cell? ⟨gb26, 2, none⟩ = some (.string t17) := (blk_cell (blk_below (g := gb26) BK28.out HX.out) 2).trans rfl; have hcz8_3_BK28 : w65.cell? ⟨gb26, 3, none⟩ = some (.bool t18) := (blk_cell (blk_below (g := gb26) BK28.out HX.out) 3).trans rfl; have hcz8_4_BK28 : w65.cell? ⟨gb26, 4, none⟩ = some (.bool t19) := (blk_cell (blk_below (g := gb26) BK28.out HX.out) 4).trans rfl; clear hbox) | ((with_reducible refine gate_callee (f := 17) rfl ?_); refine goesL_ (some 48) rfl rfl Try.func17 qa17 rfl #[.agg #[.string t53, .slice Aoo63 t54.length coo63, .string t55, .bool t56, .bool t57], .agg #[.string t15, .slice Aoo25 t16.length coo25, .string t17, .bool t18, .bool t19]] rfl qa32 ?_; (with_reducible refine (laws_eqFieldDef.calls k t53 _ _ t54 t55 t56 t57 t15 _ _ t16 t17 t18 t19 true _ ?side1 ?side2 ?side3 ?side4 A81.out).mono ?_); (case side1 => exact Kd.C_below (Kd.R_reads' HO62.out).2.2 (by repeat (first | (with_reducible first | exact HX.out | apply qbA | apply qbN | apply qbD | refine qbS ?_ GEgb64.out) | exact HX.out))); (case side2 => exact qa99); (case side3 => exact Kd.C_below (Kd.R_reads' HO24.out).2.2 (by repeat (first | (with_reducible first | exact HX.out | apply qbA | apply qbN | apply qbD | refine qbS ?_ GEgb64.out) | exact HX.out))); (case side4 => exact qa106); rintro e w82 ⟨rfl, hb⟩; refine ⟨_, rfl, ?_⟩; have hx_ := lw5_hx hb (by repeat (first | (with_reducible first | exact HX.out | apply qbA | apply qbN | apply qbD | refine qbS ?_ GEgb64.out) | exact HX.out)); have hp_ := lw5_lt (g := gb64) (o := .cells #[.string t53, .slice Aoo63 t54.length coo63, .string t55, .bool t56, .bool t57] 38 (0, 0)) hb (by (with_reducible repeat (first | refine qkN ?_ _ | refine qkD ?_ | refine qkA ?_ _)); refine blk_put (cs := #[.string t53, .slice Aoo63 t54.length coo63, .string t55, .bool t56, .bool false]) ?_ 4 _ rfl; (with_reducible repeat (first | refine qkN ?_ _ | refine qkD ?_ | refine qkA ?_ _)); refine blk_put (cs := #[.string t53, .slice Aoo63 t54.length coo63, .string t55, .bool false, .bool false]) ?_ 3 _ rfl; (with_reducible repeat (first | refine qkN ?_ _ | refine qkD ?_ | refine qkA ?_ _)); refine blk_put (cs := #[.string t53, .slice Aoo63 t54.length coo63, .string (⟨#[]⟩ : ByteArray), .bool false, .bool false]) ?_ 2 _ rfl; (with_reducible repeat (first | refine qkN ?_ _ | refine qkD ?_ | refine qkA ?_ _)); refine blk_put (cs := #[.string t53, .slice none 0 0, .string (⟨#[]⟩ : ByteArray), .bool false, .bool false]) ?_ 1 _ rfl; (with_reducible repeat (first | refine qkN ?_ _ | refine qkD ?_ | refine qkA ?_ _)); refine blk_put (cs := #[.string (⟨#[]⟩ : ByteArray), .slice none 0 0, .string (⟨#[]⟩ : ByteArray), .bool false, .bool false]) ?_ 0 _ rfl; (with_reducible repeat (first | refine qkN ?_ _ | refine qkD ?_ | refine qkA ?_ _)); exact BK66r.out); have CHgb64 := qO (show hi61 ≤ gb64 from Nat.le_trans HN.out GEgb64.out); have hbt := below_step hx_ hb; have BK66 := qO (hp_.2); replace BK3 := qO (blk_below (g := gb1) BK3.out hbt); replace HO13 := qO (Kd.R_below HO13.out hbt); replace HO24 := qO (Kd.R_below HO24.out hbt); replace BK28 := qO (blk_below (g := gb26) BK28.out hbt); replace HO44 := qO (Kd.R_below HO44.out hbt); replace BK48 := qO (blk_below (g := gb46) BK48.out hbt); replace HO62 := qO (Kd.R_below HO62.out hbt); replace HN := qO (Nat.le_trans (hp_.1) hb.size); replace HB := qO (below_step HB.out hbt); replace HX := qO (Below.refl w82.heap.size w82); have IVgb64 := qO (show gb64 ≤ gb64 ∧ gb64 < gb64 + 1 from ⟨Nat.le_refl _, Nat.lt_succ_self _⟩); clear hb hbt hx_ hp_; skip))
    try go_wp2
    have hdr_ := qO (qbD HX.out); refine start_ (n := 5) (S := fun w' => w'.cell? ⟨gb46, 0, none⟩ = some (.slice Aoo45 t40.length coo45) ∧ w'.cell? ⟨gb1, 0, none⟩ = some (.slice A0_0 l0_0.length c0_0)) (ds := []) #[false, false, false, false, false] qa17 rfl rfl ⟨(blk_cell (blk_below (g := gb46) BK48.out hdr_.out) 0).trans rfl, (blk_cell (blk_below (g := gb1) BK3.out hdr_.out) 0).trans rfl⟩ (fun hHeld => ?_); generalize w82.drew = w84 at hdr_ hHeld ⊢; clear HX; have HX := hdr_; clear hdr_; refine take_ (i := 0) (N := some 55) (v := ?_) (a' := ?_) #[true, false, false, false, false] rfl rfl qa17 (fun _ _ _ h => h) (Or.inl ⟨by rfl, ?_⟩) hHeld ?_ ?_; rotate_left; exact qa105; rotate_left; exact qa12; refine take_ (i := 1) (N := some 56) (v := ?_) (a' := ?_) #[true, true, false, false, false] rfl rfl qa17 (fun _ _ _ h => h) (Or.inl ⟨by rfl, ?_⟩) hHeld ?_ ?_; rotate_left; exact qa105; rotate_left; exact qa12; refine one_ (i := 2) (N := some 57) #[true, true, true, false, false] rfl rfl qa17 qa108 (fun K hK => ?_); refine goes_ Try.func10 qa17 rfl #[.agg #[.slice A0_0 l0_0.length c0_0]] (by rfl) rfl rfl qa32 ?_; (with_reducible refine (laws_toSchema.calls k _ _ l0_0 t85 _ ?side1 ?side2 A86.out).mono ?_); (case side1 => exact Kd.C_below HR0_0.out (below_step HB.out HX.out)); (case side2 => exact HC0_0.out); rintro e w87 ⟨vt85, rfl, ho0, hb⟩; refine ⟨_, rfl, ?_⟩; have hx_ := lw5_hx hb HX.out; have hbt := below_step hx_ hb; obtain ⟨lo88, hi88, hl_, hh_, hc_⟩ := lw5_iv (Nat.le_trans HN.out (below_size hx_)) hb.size; have CHlo88 := qO (show gb64 + 1 ≤ lo88 ∧ lo88 ≤ hi88 from hc_); clear hc_; replace BK3 := qO (blk_below (g := gb1) BK3.out hbt); replace HO13 := qO (Kd.R_below HO13.out hbt); replace HO24 := qO (Kd.R_below HO24.out hbt); replace BK28 := qO (blk_below (g := gb26) BK28.out hbt); replace HO44 := qO (Kd.R_below HO44.out hbt); replace BK48 := qO (blk_below (g := gb46) BK48.out hbt); replace HO62 := qO (Kd.R_below HO62.out hbt); replace BK66 := qO (blk_below (g := gb64) BK66.out hbt); have HO89 := qO (Kd.R_mono (ok' := fun k_ => lo88 ≤ k_ ∧ k_ < hi88) (Kd.R_lower (Kd.R_bound ho0) (below_size (below_step HB.out hx_))) (fun k_ hk_ => ⟨qa111, qa107⟩)); replace HN := qO ((show hi88 ≤ w87.heap.size from Nat.le_of_eq hh_)); replace HB := qO (below_step HB.out hbt); replace HX := qO (Below.refl w87.heap.size w87); clear hb hbt hx_ hl_ hh_; (try clear ho0); obtain ⟨Aoo90, coo90, eoo90⟩ := Kd.R_slice HO89.out; (first | subst eoo90 | (injection eoo90 with f1_ f2_ f3_; have f4_ := f1_.symm; have f5_ := f3_.symm; clear f1_ f2_ f3_; subst f4_; subst f5_)); refine hK.out _ _ ⟨(blk_cell BK48.out 0).trans rfl, (blk_cell BK3.out 0).trans rfl⟩ (fun hHeld => ?_); clear hK K; refine norm_ (a' := ?_) ?_ ?_; rotate_left
    ·exact qa33
    refine one_ (i := 3) (N := some 58) #[true, true, true, true, false] rfl rfl qa17 qa108 (fun K hK => ?_); refine goes_ Try.func12 qa17 rfl #[.agg #[.slice Aoo45 t40.length coo45], .agg #[.slice Aoo90 t85.length coo90]] (by rfl) rfl rfl qa32 ?_; (with_reducible refine (laws_eqSchema.calls k _ _ t40 _ _ t85 true _ ?side1 ?side2 ?side3 ?side4 A92.out).mono ?_); (case side1 => exact Kd.C_below (Kd.R_reads' HO44.out).2.2 HX.out); (case side2 => have z_ := Kd.R_reads' HO44.out; have y_ := z_.1; have x_ := z_.2.1; omega); (case side3 => exact Kd.C_below (Kd.R_reads' HO89.out).2.2 HX.out); (case side4 => have z_ := Kd.R_reads' HO89.out; have y_ := z_.1; have x_ := z_.2.1; omega); rintro e w93 ⟨rfl, hb⟩; refine ⟨_, rfl, ?_⟩; have hx_ := lw5_hx hb HX.out; have hbt := below_step hx_ hb; replace BK3 := qO (blk_below (g := gb1) BK3.out hbt); replace HO13 := qO (Kd.R_below HO13.out hbt); replace HO24 := qO (Kd.R_below HO24.out hbt); replace BK28 := qO (blk_below (g := gb26) BK28.out hbt); replace HO44 := qO (Kd.R_below HO44.out hbt); replace BK48 := qO (blk_below (g := gb46) BK48.out hbt); replace HO62 := qO (Kd.R_below HO62.out hbt); replace BK66 := qO (blk_below (g := gb64) BK66.out hbt); replace HO89 := qO (Kd.R_below HO89.out hbt); replace HN := qO (Nat.le_trans (Nat.le_trans HN.out (below_size hx_)) hb.size); replace HB := qO (below_step HB.out hbt); replace HX := qO (Below.refl w93.heap.size w93); clear hb hbt hx_; refine hK.out _ _ ⟨(blk_cell BK48.out 0).trans rfl, (blk_cell BK3.out 0).trans rfl⟩ (fun hHeld => ?_); clear hK K; refine norm_ (a' := ?_) ?_ ?_; rotate_left
    ·exact qa33
    refine pure_ (i := 4) (N := some 59) (v := ?_) (a' := ?_) #[true, true, true, true, true] rfl rfl qa17 (fun _ _ _ h => h) (Or.inl ⟨by rfl, ?_⟩) ?_ ?_; rotate_left; exact qa22; rotate_left; exact qa12; refine done_ qa17 ?_; have hcz10_0_BK48 : w93.cell? ⟨gb46, 0, none⟩ = some (.slice Aoo45 t40.length coo45) := (blk_cell BK48.out 0).trans rfl
    go_wp2_with (first | ((with_reducible refine gate_callee (f := 18) rfl ?_); refine goesL_ (some 62) rfl rfl Try.func18 qa17 rfl #[.agg #[.slice Aoo45 t40.length coo45], .int .i64 1] rfl qa32 ?_; (with_reducible refine (laws_markSchema.calls k (fun k_ => lo43 ≤ k_ ∧ k_ < hi43) _ t40 1 t95 w _ ?sB ?s0 A96.out).mono ?_); (case sB => exact qa100); (case s0 => exact Kd.R_below HO44.out (by repeat (first | (with_reducible first | exact HX.out | apply qbA | apply qbN | apply qbD) | exact HX.out))); rintro e w97 ⟨rfl, hb0, hkp⟩; refine ⟨_, rfl, ?_⟩; have hkt := Kept.then_ (Kept.of_below qa23 (fun k_ => (lo43 ≤ k_ ∧ k_ < hi43))) hkp (fun k_ h_ => .inl h_); have zz_ := And.intro CHlo4.out (And.intro CHlo12.out (And.intro CHlo23.out (And.intro CHgb26.out (And.intro CHlo43.out (And.intro CHgb46.out (And.intro CHlo61.out (And.intro CHgb64.out (CHlo88.out)))))))); replace BK3 := qO (blk_kept (g := gb1) BK3.out hkt (fun h2_ => lw5_no IVgb1.out h2_ qa27)); replace HO13 := qO (Kd.R_kept HO13.out hkt (fun _ h1_ h2_ => lw5_no h1_ h2_ qa27)); replace HO24 := qO (Kd.R_kept HO24.out hkt (fun _ h1_ h2_ => lw5_no h1_ h2_ qa27)); replace BK28 := qO (blk_kept (g := gb26) BK28.out hkt (fun h2_ => lw5_no IVgb26.out h2_ qa27)); replace BK48 := qO (blk_kept (g := gb46) BK48.out hkt (fun h2_ => lw5_no IVgb46.out h2_ qa27)); replace HO62 := qO (Kd.R_kept HO62.out hkt (fun _ h1_ h2_ => lw5_no h1_ h2_ qa27)); replace BK66 := qO (blk_kept (g := gb64) BK66.out hkt (fun h2_ => lw5_no IVgb64.out h2_ qa27)); replace HO89 := qO (Kd.R_kept HO89.out hkt (fun _ h1_ h2_ => lw5_no h1_ h2_ qa27)); replace HN := qO (Nat.le_trans HN.out hkt.1); replace HB := qO (hb0); replace HX := qO (Below.refl w97.heap.size w97); clear hkp hb0 hkt zz_; (try clear HO44); have hcz11_0_BK28 : w97.cell? ⟨gb26, 0, none⟩ = some (.string t15) := (blk_cell BK28.out 0).trans rfl; have hcz11_1_BK28 : w97.cell? ⟨gb26, 1, none⟩ = some (.slice Aoo25 t16.length coo25) := (blk_cell BK28.out 1).trans rfl; have hcz11_2_BK28 : w97.cell? ⟨gb26, 2, none⟩ = some (.string t17) := (blk_cell BK28.out 2).trans rfl; have hcz11_3_BK28 : w97.cell? ⟨gb26, 3, none⟩ = some (.bool t18) := (blk_cell BK28.out 3).trans rfl; have hcz11_4_BK28 : w97.cell? ⟨gb26, 4, none⟩ = some (.bool t19) := (blk_cell BK28.out 4).trans rfl; have hcz11_0_BK66 : w97.cell? ⟨gb64, 0, none⟩ = some (.string t53) := (blk_cell BK66.out 0).trans rfl; have hcz11_1_BK66 : w97.cell? ⟨gb64, 1, none⟩ = some (.slice Aoo63 t54.length coo63) := (blk_cell BK66.out 1).trans rfl; have hcz11_2_BK66 : w97.cell? ⟨gb64, 2, none⟩ = some (.string t55) := (blk_cell BK66.out 2).trans rfl; have hcz11_3_BK66 : w97.cell? ⟨gb64, 3, none⟩ = some (.bool t56) := (blk_cell BK66.out 3).trans rfl; have hcz11_4_BK66 : w97.cell? ⟨gb64, 4, none⟩ = some (.bool t57) := (blk_cell BK66.out 4).trans rfl) | (go_at_call 17; (with_reducible refine (laws_eqFieldDef.calls k t53 _ _ t54 t55 t56 t57 t15 _ _ t16 t17 t18 t19 true _ ?side1 ?side2 ?side3 ?side4 A99.out).mono ?_); (case side1 => exact qa81); (case side2 => exact qa99); (case side3 => exact Kd.C_below (Kd.R_reads' HO24.out).2.2 (by repeat (first | (with_reducible first | exact HX.out | apply qbA | apply qbN | apply qbD) | exact HX.out))); (case side4 => exact qa106); rintro e w100 ⟨rfl, hb⟩; have hx_ := lw5_hx hb qa23; have hbt := below_step hx_ hb; replace BK3 := qO (blk_below (g := gb1) BK3.out hbt); replace HO13 := qO (Kd.R_below HO13.out hbt); replace HO24 := qO (Kd.R_below HO24.out hbt); replace BK28 := qO (blk_below (g := gb26) BK28.out hbt); replace BK48 := qO (blk_below (g := gb46) BK48.out hbt); replace HO62 := qO (Kd.R_below HO62.out hbt); replace BK66 := qO (blk_below (g := gb64) BK66.out hbt); replace HO89 := qO (Kd.R_below HO89.out hbt); replace HN := qO (Nat.le_trans (Nat.le_trans HN.out (below_size hx_)) hb.size); replace HB := qO (below_step HB.out hbt); replace HX := qO (Below.refl w100.heap.size w100); clear hb hbt hx_; have hcz12_0_BK66 : w100.cell? ⟨gb64, 0, none⟩ = some (.string t53) := (blk_cell BK66.out 0).trans rfl; have hcz12_1_BK66 : w100.cell? ⟨gb64, 1, none⟩ = some (.slice Aoo63 t54.length coo63) := (blk_cell BK66.out 1).trans rfl; have hcz12_2_BK66 : w100.cell? ⟨gb64, 2, none⟩ = some (.string t55) := (blk_cell BK66.out 2).trans rfl; have hcz12_3_BK66 : w100.cell? ⟨gb64, 3, none⟩ = some (.bool t56) := (blk_cell BK66.out 3).trans rfl; have hcz12_4_BK66 : w100.cell? ⟨gb64, 4, none⟩ = some (.bool t57) := (blk_cell BK66.out 4).trans rfl) | ((with_reducible refine gate_callee (f := 19) rfl ?_); refine goesL_ (some 78) rfl rfl Try.func19 qa17 rfl #[.agg #[.string t53, .slice Aoo63 t54.length coo63, .string t55, .bool t56, .bool t57], .int .i64 1] rfl qa32 ?_; (with_reducible refine (laws_markFieldDef.calls k t53 (fun k_ => lo61 ≤ k_ ∧ k_ < hi61) _ t54 t55 t56 t57 1 t102 t103 w _ ?sB ?s0 A104.out).mono ?_); (case sB => exact qa100); (case s0 => exact Kd.R_below HO62.out (by repeat (first | (with_reducible first | exact HX.out | apply qbA | apply qbN | apply qbD) | exact HX.out))); rintro e w105 ⟨rfl, hy0, hb0, hkp⟩; refine ⟨_, rfl, ?_⟩; have hkt := Kept.then_ (Kept.of_below qa23 (fun k_ => (lo61 ≤ k_ ∧ k_ < hi61))) hkp (fun k_ h_ => .inl h_); have zz_ := And.intro CHlo4.out (And.intro CHlo12.out (And.intro CHlo23.out (And.intro CHgb26.out (And.intro CHlo43.out (And.intro CHgb46.out (And.intro CHlo61.out (And.intro CHgb64.out (CHlo88.out)))))))); obtain ⟨lo106, hi106, hl_, hh_, hc_⟩ := lw5_ivk hkp (Nat.le_trans HN.out (below_size qa23)); have CHlo106 := qO (show hi88 ≤ lo106 ∧ lo106 ≤ hi106 from hc_); clear hc_; replace BK3 := qO (blk_kept (g := gb1) BK3.out hkt (fun h2_ => lw5_no IVgb1.out h2_ qa27)); replace HO13 := qO (Kd.R_kept HO13.out hkt (fun _ h1_ h2_ => lw5_no h1_ h2_ qa27)); replace HO24 := qO (Kd.R_kept HO24.out hkt (fun _ h1_ h2_ => lw5_no h1_ h2_ qa27)); replace BK28 := qO (blk_kept (g := gb26) BK28.out hkt (fun h2_ => lw5_no IVgb26.out h2_ qa27)); replace BK48 := qO (blk_kept (g := gb46) BK48.out hkt (fun h2_ => lw5_no IVgb46.out h2_ qa27)); replace BK66 := qO (blk_kept (g := gb64) BK66.out hkt (fun h2_ => lw5_no IVgb64.out h2_ qa27)); replace HO89 := qO (Kd.R_kept HO89.out hkt (fun _ h1_ h2_ => lw5_no h1_ h2_ qa27)); replace HO62 := qO ((show Kd.R k57 57 w105 w.heap.size (fun k_ => (lo61 ≤ k_ ∧ k_ < hi61) ∨ (lo106 ≤ k_ ∧ k_ < hi106)) (.slice Aoo63 t54.length coo63) t103 from Kd.R_mono (Kd.R_bound hy0) (fun _ hk_ => hk_.1.elim (fun z_ => .inl z_) (fun z_ => .inr ⟨by rw [hl_]; exact z_, qa107⟩)))); replace HN := qO ((show hi106 ≤ w105.heap.size from Nat.le_of_eq hh_)); replace HB := qO (hb0); replace HX := qO (Below.refl w105.heap.size w105); clear hkp hb0 hkt zz_ hl_ hh_; (try clear hy0); have LEN107 := qO (Kd.R_reads' HO62.out).1; have hcz13_0_BK66 : w105.cell? ⟨gb64, 0, none⟩ = some (.string t53) := (blk_cell BK66.out 0).trans rfl; have hcz13_1_BK66 : w105.cell? ⟨gb64, 1, none⟩ = some (.slice Aoo63 t54.length coo63) := (blk_cell BK66.out 1).trans rfl; have hcz13_2_BK66 : w105.cell? ⟨gb64, 2, none⟩ = some (.string t55) := (blk_cell BK66.out 2).trans rfl; have hcz13_3_BK66 : w105.cell? ⟨gb64, 3, none⟩ = some (.bool t56) := (blk_cell BK66.out 3).trans rfl; have hcz13_4_BK66 : w105.cell? ⟨gb64, 4, none⟩ = some (.bool t57) := (blk_cell BK66.out 4).trans rfl) | ((with_reducible refine gate_callee (f := 20) rfl ?_); refine goesL_ (some 81) rfl rfl Try.func20 qa17 rfl #[.agg #[.string t53, .slice Aoo63 t103.length coo63, .string t55, .bool t56, .bool t57], .int .i64 1] rfl qa101 ?_; (with_reducible refine (laws_heldFieldDef.calls k t53 _ _ t103 t55 t56 t57 1 t108 _ ?side1 ?side2 A109.out).mono ?_); (case side1 => exact qa81); (case side2 => exact qa99); rintro e w110 ⟨rfl, hb⟩; refine ⟨_, rfl, ?_⟩; have hx_ := lw5_hx hb qa23; have hbt := below_step hx_ hb; replace BK3 := qO (blk_below (g := gb1) BK3.out hbt); replace HO13 := qO (Kd.R_below HO13.out hbt); replace HO24 := qO (Kd.R_below HO24.out hbt); replace BK28 := qO (blk_below (g := gb26) BK28.out hbt); replace BK48 := qO (blk_below (g := gb46) BK48.out hbt); replace HO62 := qO (Kd.R_below HO62.out hbt); replace BK66 := qO (blk_below (g := gb64) BK66.out hbt); replace HO89 := qO (Kd.R_below HO89.out hbt); replace HN := qO (Nat.le_trans (Nat.le_trans HN.out (below_size hx_)) hb.size); replace HB := qO (below_step HB.out hbt); replace HX := qO (Below.refl w110.heap.size w110); clear hb hbt hx_; have hcz14_0_BK3 : w110.cell? ⟨gb1, 0, none⟩ = some (.slice A0_0 l0_0.length c0_0) := (blk_cell BK3.out 0).trans rfl) | ((with_reducible refine gate_callee (f := 10) rfl ?_); refine goesL_ (some 89) rfl rfl Try.func10 qa17 rfl #[.agg #[.slice A0_0 l0_0.length c0_0]] rfl qa32 ?_; (with_reducible refine (laws_toSchema.calls k _ _ l0_0 t112 _ ?side1 ?side2 A113.out).mono ?_); (case side1 => exact qa65); (case side2 => exact HC0_0.out); rintro e w114 ⟨vt112, rfl, ho0, hb⟩; refine ⟨_, rfl, ?_⟩; have hx_ := lw5_hx hb qa23; have hbt := below_step hx_ hb; obtain ⟨lo115, hi115, hl_, hh_, hc_⟩ := lw5_iv (Nat.le_trans HN.out (below_size hx_)) hb.size; have CHlo115 := qO (show hi106 ≤ lo115 ∧ lo115 ≤ hi115 from hc_); clear hc_; replace BK3 := qO (blk_below (g := gb1) BK3.out hbt); replace HO13 := qO (Kd.R_below HO13.out hbt); replace HO24 := qO (Kd.R_below HO24.out hbt); replace BK28 := qO (blk_below (g := gb26) BK28.out hbt); replace BK48 := qO (blk_below (g := gb46) BK48.out hbt); replace HO62 := qO (Kd.R_below HO62.out hbt); replace BK66 := qO (blk_below (g := gb64) BK66.out hbt); replace HO89 := qO (Kd.R_below HO89.out hbt); have HO116 := qO (Kd.R_mono (ok' := fun k_ => lo115 ≤ k_ ∧ k_ < hi115) (Kd.R_lower (Kd.R_bound ho0) (below_size (below_step HB.out hx_))) (fun k_ hk_ => ⟨qa111, qa107⟩)); replace HN := qO ((show hi115 ≤ w114.heap.size from Nat.le_of_eq hh_)); replace HB := qO (below_step HB.out hbt); replace HX := qO (Below.refl w114.heap.size w114); clear hb hbt hx_ hl_ hh_; (try clear ho0); obtain ⟨Aoo117, coo117, eoo117⟩ := Kd.R_slice HO116.out; (first | subst eoo117 | (injection eoo117 with f1_ f2_ f3_; have f4_ := f1_.symm; have f5_ := f3_.symm; clear f1_ f2_ f3_; subst f4_; subst f5_)); skip) | ((with_reducible refine gate_callee (f := 16) rfl ?_); refine goesL_ (some 92) rfl rfl Try.func16 qa17 rfl #[.agg #[.slice Aoo117 t112.length coo117], .string a1, .string a2] rfl qa32 ?_; (with_reducible refine (impl_FieldAt.calls k _ _ t112 a1 a2 t118 t119 t120 t121 t122 t123 _ ?side1 ?side2 A124.out).mono ?_); (case side1 => exact Kd.C_below (Kd.R_reads' HO116.out).2.2 (by repeat (first | (with_reducible first | exact HX.out | apply qbA | apply qbN | apply qbD) | exact HX.out))); (case side2 => have z_ := Kd.R_reads' HO116.out; have y_ := z_.1; have x_ := z_.2.1; omega); rintro e w125 ⟨vt119, rfl, ho0, hb⟩; refine ⟨_, rfl, ?_⟩; have hx_ := lw5_hx hb qa23; have hbt := below_step hx_ hb; obtain ⟨lo126, hi126, hl_, hh_, hc_⟩ := lw5_iv (Nat.le_trans HN.out (below_size hx_)) hb.size; have CHlo126 := qO (show hi115 ≤ lo126 ∧ lo126 ≤ hi126 from hc_); clear hc_; replace BK3 := qO (blk_below (g := gb1) BK3.out hbt); replace HO13 := qO (Kd.R_below HO13.out hbt); replace HO24 := qO (Kd.R_below HO24.out hbt); replace BK28 := qO (blk_below (g := gb26) BK28.out hbt); replace BK48 := qO (blk_below (g := gb46) BK48.out hbt); replace HO62 := qO (Kd.R_below HO62.out hbt); replace BK66 := qO (blk_below (g := gb64) BK66.out hbt); replace HO89 := qO (Kd.R_below HO89.out hbt); replace HO116 := qO (Kd.R_below HO116.out hbt); have HO127 := qO (Kd.R_mono (ok' := fun k_ => lo126 ≤ k_ ∧ k_ < hi126) (Kd.R_lower (Kd.R_bound ho0) (below_size (below_step HB.out hx_))) (fun k_ hk_ => ⟨qa111, qa107⟩)); replace HN := qO ((show hi126 ≤ w125.heap.size from Nat.le_of_eq hh_)); replace HB := qO (below_step HB.out hbt); replace HX := qO (Below.refl w125.heap.size w125); clear hb hbt hx_ hl_ hh_; (try clear ho0); obtain ⟨Aoo128, coo128, eoo128⟩ := Kd.R_slice HO127.out; (first | subst eoo128 | (injection eoo128 with f1_ f2_ f3_; have f4_ := f1_.symm; have f5_ := f3_.symm; clear f1_ f2_ f3_; subst f4_; subst f5_)); skip) | ((with_reducible refine gate_dst (N := 16) rfl ?_); refine box_event ?hg (N := 16) ?hd (cs := #[.string (⟨#[]⟩ : ByteArray), .slice none 0 0, .string (⟨#[]⟩ : ByteArray), .bool false, .bool false]) (t := 38) ?hr ?_; (case hd => rfl); (case hg => rfl); (case hr => exact qa18); intro gb129 hg w130 hbox hb; have GEgb129 := qO (qa70 : _ ≤ gb129); have BK131r := qO hbox; have n0_ := qO (below_step qa23 hb); have hnb132 : gb129 ≠ gb1 := (fun e_ => by have z1_ := GEgb129.out; have z2_ := blk_lt BK3.out; omega); have hnb132c : gb1 ≠ gb129 := fun e_ => hnb132 e_.symm; have hnb133 : gb129 ≠ gb26 := (fun e_ => by have z1_ := GEgb129.out; have z2_ := blk_lt BK28.out; omega); have hnb133c : gb26 ≠ gb129 := fun e_ => hnb133 e_.symm; have hnb134 : gb129 ≠ gb46 := (fun e_ => by have z1_ := GEgb129.out; have z2_ := blk_lt BK48.out; omega); have hnb134c : gb46 ≠ gb129 := fun e_ => hnb134 e_.symm; have hnb135 : gb129 ≠ gb64 := (fun e_ => by have z1_ := GEgb129.out; have z2_ := blk_lt BK66.out; omega); have hnb135c : gb64 ≠ gb129 := fun e_ => hnb135 e_.symm; clear HX; have HX := n0_; clear n0_ hb hg; have hcz136 : w130.cell? ⟨gb129, 0, none⟩ = some (.string (⟨#[]⟩ : ByteArray)) := (blk_cell BK131r.out 0).trans rfl; have hfz137 := blk_frozen BK131r.out 0; have hcz138 : w130.cell? ⟨gb129, 1, none⟩ = some (.slice none 0 0) := (blk_cell BK131r.out 1).trans rfl; have hfz139 := blk_frozen BK131r.out 1; have hcz140 : w130.cell? ⟨gb129, 2, none⟩ = some (.string (⟨#[]⟩ : ByteArray)) := (blk_cell BK131r.out 2).trans rfl; have hfz141 := blk_frozen BK131r.out 2; have hcz142 : w130.cell? ⟨gb129, 3, none⟩ = some (.bool false) := (blk_cell BK131r.out 3).trans rfl; have hfz143 := blk_frozen BK131r.out 3; have hcz144 : w130.cell? ⟨gb129, 4, none⟩ = some (.bool false) := (blk_cell BK131r.out 4).trans rfl; have hfz145 := blk_frozen BK131r.out 4; have hcz17_0_BK28 : w130.cell? ⟨gb26, 0, none⟩ = some (.string t15) := (blk_cell (blk_below (g := gb26) BK28.out HX.out) 0).trans rfl; have hcz17_1_BK28 : w130.cell? ⟨gb26, 1, none⟩ = some (.slice Aoo25 t16.length coo25) := (blk_cell (blk_below (g := gb26) BK28.out HX.out) 1).trans rfl; have hcz17_2_BK28 : w130.cell? ⟨gb26, 2, none⟩ = some (.string t17) := (blk_cell (blk_below (g := gb26) BK28.out HX.out) 2).trans rfl; have hcz17_3_BK28 : w130.cell? ⟨gb26, 3, none⟩ = some (.bool t18) := (blk_cell (blk_below (g := gb26) BK28.out HX.out) 3).trans rfl; have hcz17_4_BK28 : w130.cell? ⟨gb26, 4, none⟩ = some (.bool t19) := (blk_cell (blk_below (g := gb26) BK28.out HX.out) 4).trans rfl; clear hbox) | ((with_reducible refine gate_callee (f := 17) rfl ?_); refine goesL_ (some 97) rfl rfl Try.func17 qa17 rfl #[.agg #[.string t118, .slice Aoo128 t119.length coo128, .string t120, .bool t121, .bool t122], .agg #[.string t15, .slice Aoo25 t16.length coo25, .string t17, .bool t18, .bool t19]] rfl qa32 ?_; (with_reducible refine (laws_eqFieldDef.calls k t118 _ _ t119 t120 t121 t122 t15 _ _ t16 t17 t18 t19 true _ ?side1 ?side2 ?side3 ?side4 A147.out).mono ?_); (case side1 => exact Kd.C_below (Kd.R_reads' HO127.out).2.2 (by repeat (first | (with_reducible first | exact HX.out | apply qbA | apply qbN | apply qbD | refine qbS ?_ GEgb129.out) | exact HX.out))); (case side2 => have z_ := Kd.R_reads' HO127.out; have y_ := z_.1; have x_ := z_.2.1; omega); (case side3 => exact Kd.C_below (Kd.R_reads' HO24.out).2.2 (by repeat (first | (with_reducible first | exact HX.out | apply qbA | apply qbN | apply qbD | refine qbS ?_ GEgb129.out) | exact HX.out))); (case side4 => exact qa106); rintro e w148 ⟨rfl, hb⟩; refine ⟨_, rfl, ?_⟩; have hx_ := lw5_hx hb (by repeat (first | (with_reducible first | exact HX.out | apply qbA | apply qbN | apply qbD | refine qbS ?_ GEgb129.out) | exact HX.out)); have hp_ := lw5_lt (g := gb129) (o := .cells #[.string t118, .slice Aoo128 t119.length coo128, .string t120, .bool t121, .bool t122] 38 (0, 0)) hb (by (with_reducible repeat (first | refine qkN ?_ _ | refine qkD ?_ | refine qkA ?_ _)); refine blk_put (cs := #[.string t118, .slice Aoo128 t119.length coo128, .string t120, .bool t121, .bool false]) ?_ 4 _ rfl; (with_reducible repeat (first | refine qkN ?_ _ | refine qkD ?_ | refine qkA ?_ _)); refine blk_put (cs := #[.string t118, .slice Aoo128 t119.length coo128, .string t120, .bool false, .bool false]) ?_ 3 _ rfl; (with_reducible repeat (first | refine qkN ?_ _ | refine qkD ?_ | refine qkA ?_ _)); refine blk_put (cs := #[.string t118, .slice Aoo128 t119.length coo128, .string (⟨#[]⟩ : ByteArray), .bool false, .bool false]) ?_ 2 _ rfl; (with_reducible repeat (first | refine qkN ?_ _ | refine qkD ?_ | refine qkA ?_ _)); refine blk_put (cs := #[.string t118, .slice none 0 0, .string (⟨#[]⟩ : ByteArray), .bool false, .bool false]) ?_ 1 _ rfl; (with_reducible repeat (first | refine qkN ?_ _ | refine qkD ?_ | refine qkA ?_ _)); refine blk_put (cs := #[.string (⟨#[]⟩ : ByteArray), .slice none 0 0, .string (⟨#[]⟩ : ByteArray), .bool false, .bool false]) ?_ 0 _ rfl; (with_reducible repeat (first | refine qkN ?_ _ | refine qkD ?_ | refine qkA ?_ _)); exact BK131r.out); have CHgb129 := qO (show hi126 ≤ gb129 from Nat.le_trans HN.out GEgb129.out); have hbt := below_step hx_ hb; have BK131 := qO (hp_.2); replace BK3 := qO (blk_below (g := gb1) BK3.out hbt); replace HO13 := qO (Kd.R_below HO13.out hbt); replace HO24 := qO (Kd.R_below HO24.out hbt); replace BK28 := qO (blk_below (g := gb26) BK28.out hbt); replace BK48 := qO (blk_below (g := gb46) BK48.out hbt); replace HO62 := qO (Kd.R_below HO62.out hbt); replace BK66 := qO (blk_below (g := gb64) BK66.out hbt); replace HO89 := qO (Kd.R_below HO89.out hbt); replace HO116 := qO (Kd.R_below HO116.out hbt); replace HO127 := qO (Kd.R_below HO127.out hbt); replace HN := qO (Nat.le_trans (hp_.1) hb.size); replace HB := qO (below_step HB.out hbt); replace HX := qO (Below.refl w148.heap.size w148); have IVgb129 := qO (show gb129 ≤ gb129 ∧ gb129 < gb129 + 1 from ⟨Nat.le_refl _, Nat.lt_succ_self _⟩); clear hb hbt hx_ hp_; have hcz18_0_BK66 : w148.cell? ⟨gb64, 0, none⟩ = some (.string t53) := (blk_cell BK66.out 0).trans rfl; have hcz18_1_BK66 : w148.cell? ⟨gb64, 1, none⟩ = some (.slice Aoo63 t54.length coo63) := (blk_cell BK66.out 1).trans rfl; have hcz18_2_BK66 : w148.cell? ⟨gb64, 2, none⟩ = some (.string t55) := (blk_cell BK66.out 2).trans rfl; have hcz18_3_BK66 : w148.cell? ⟨gb64, 3, none⟩ = some (.bool t56) := (blk_cell BK66.out 3).trans rfl; have hcz18_4_BK66 : w148.cell? ⟨gb64, 4, none⟩ = some (.bool t57) := (blk_cell BK66.out 4).trans rfl) | ((with_reducible refine gate_callee (f := 20) rfl ?_); refine goesL_ (some 106) rfl rfl Try.func20 qa17 rfl #[.agg #[.string t53, .slice Aoo63 t103.length coo63, .string t55, .bool t56, .bool t57], .int .i64 1] rfl qa101 ?_; (with_reducible refine (laws_heldFieldDef.calls k t53 _ _ t103 t55 t56 t57 1 t150 _ ?side1 ?side2 A151.out).mono ?_); (case side1 => exact qa81); (case side2 => exact qa99); rintro e w152 ⟨rfl, hb⟩; refine ⟨_, rfl, ?_⟩; have hx_ := lw5_hx hb qa23; have hbt := below_step hx_ hb; replace BK3 := qO (blk_below (g := gb1) BK3.out hbt); replace HO13 := qO (Kd.R_below HO13.out hbt); replace HO24 := qO (Kd.R_below HO24.out hbt); replace BK28 := qO (blk_below (g := gb26) BK28.out hbt); replace BK48 := qO (blk_below (g := gb46) BK48.out hbt); replace HO62 := qO (Kd.R_below HO62.out hbt); replace BK66 := qO (blk_below (g := gb64) BK66.out hbt); replace HO89 := qO (Kd.R_below HO89.out hbt); replace HO116 := qO (Kd.R_below HO116.out hbt); replace HO127 := qO (Kd.R_below HO127.out hbt); replace BK131 := qO (blk_below (g := gb129) BK131.out hbt); replace HN := qO (Nat.le_trans (Nat.le_trans HN.out (below_size hx_)) hb.size); replace HB := qO (below_step HB.out hbt); replace HX := qO (Below.refl w152.heap.size w152); clear hb hbt hx_; skip))
    go_ret
    exact ⟨qa114, below_step HB.out qa23⟩

end Go.Proofs.Ytoogmlghfljeiaa.Q
namespace Go.Proofs.Ytoogmlghfljeiaa.Q
open Go.RowKit Go.Proofs.YtoogmlghfljeiaaW.PrintWords Go.Proofs.Ytoogmlghfljeiaa.Opens
set_option linter.unusedVariables false
def i106 (x : S106) : Prop := x.f0.size ≤ 9223372036854775807 ∧ True
theorem o106 : Opens Try.prog 106 k106 i106 := opens_struct (N := 2) Try.underlying106 qa17 (opensF_cons rfl qa17 (opens_string Try.underlying9) (opensF_one rfl rfl qa17 (opens_bool Try.underlying4))) (fun y => ⟨y.1, y.2⟩) (fun _ => rfl)
def i101 (x : S101) : Prop := x.f0.size ≤ 9223372036854775807 ∧ (x.f1.length ≤ 9223372036854775807 ∧ ∀ y1_ ∈ x.f1, i106 y1_) ∧ x.f2.size ≤ 9223372036854775807 ∧ True ∧ True
theorem o101 : Opens Try.prog 101 k101 i101 := opens_struct (N := 5) Try.underlying101 qa17 (opensF_cons rfl qa17 (opens_string Try.underlying9) (opensF_cons rfl qa17 (opens_slice Try.underlying99 qa17 o106) (opensF_cons rfl qa17 (opens_string Try.underlying9) (opensF_cons rfl qa17 (opens_bool Try.underlying4) (opensF_one rfl rfl qa17 (opens_bool Try.underlying4)))))) (fun y => ⟨y.1, y.2.1, y.2.2.1, y.2.2.2.1, y.2.2.2.2⟩) (fun _ => rfl)
def i77 (x : S77) : Prop := x.f0.size ≤ 9223372036854775807 ∧ (x.f1.length ≤ 9223372036854775807 ∧ ∀ y1_ ∈ x.f1, i101 y1_)
theorem o77 : Opens Try.prog 77 k77 i77 := opens_struct (N := 2) Try.underlying77 qa17 (opensF_cons rfl qa17 (opens_string Try.underlying9) (opensF_one rfl rfl qa17 (opens_slice Try.underlying75 qa17 o101))) (fun y => ⟨y.1, y.2⟩) (fun _ => rfl)
def i24 (x : S24) : Prop := (x.f0.length ≤ 9223372036854775807 ∧ ∀ y1_ ∈ x.f0, i77 y1_)
theorem o24 : Opens Try.prog 24 k24 i24 := opens_struct (N := 1) Try.underlying24 qa17 (opensF_one rfl rfl qa17 (opens_slice Try.underlying22 qa17 o77)) (fun y => ⟨y⟩) (fun _ => rfl)
def laws_FnExactFieldAt.Pure2 : Prop := ∀ (y0 : S24), ∀ (y1 : ByteArray), ∀ (y2 : ByteArray), i24 y0 → y1.size ≤ 9223372036854775807 → y2.size ≤ 9223372036854775807 → ∃ k, laws_FnExactFieldAt.f k y0.f0 y1 y2 = some true
end Go.Proofs.Ytoogmlghfljeiaa.Q
namespace Go.Proofs.Ytoogmlghfljeiaa.Pure2
open Go.RowKit Go.Proofs.Ytoogmlghfljeiaa.Q Go.Proofs.YtoogmlghfljeiaaW.PrintWords Go.Proofs.YtoogmlghfljeiaaW.PrintLast
set_option linter.unusedVariables false
set_option linter.unusedSimpArgs false
/-! small words -/
theorem wsucc {j n : Nat} (h : j < n) (hn : n ≤ 4611686018427387904) : wrap64 ((j : Int) + 1) = ((j + 1 : Nat) : Int) := by unfold wrap64; omega
theorem ev_step {α : Type} {g f : Nat → Option α} {r : α} (h : ∃ K, ∀ k, K ≤ k → g (k + 1) = f k) (k : Ev f r) : Ev g r := by
  obtain ⟨K, h⟩ := h
  obtain ⟨K', k⟩ := k
  refine ⟨max K K' + 1, fun n hn => ?_⟩
  obtain ⟨m, rfl⟩ : ∃ m, n = m + 1 := ⟨n - 1, qa27⟩
  rw [h m qa27, k m qa27]
theorem ev_now {α : Type} {g : Nat → Option α} {r : α} (h : ∃ K, ∀ k, K ≤ k → g (k + 1) = some r) : Ev g r := ev_step (f := fun _ => some r) h (Ev.now r)
theorem ev_same {α : Type} {g f : Nat → Option α} {r : α} (h : ∃ K, ∀ k, K ≤ k → g k = f k) (k : Ev f r) : Ev g r := by
  obtain ⟨K, h⟩ := h
  obtain ⟨K', k⟩ := k
  exact ⟨max K K', fun n hn => by rw [h n qa27, k n qa27]⟩
theorem ev_two {α β : Type} {g : Nat → Option α} {f : Nat → Option β} {r : α} {q : β} (h : Ev g r) (k : Ev f q) : ∃ K, ∀ n, K ≤ n → g n = some r ∧ f n = some q := by
  obtain ⟨K, h⟩ := h
  obtain ⟨K', k⟩ := k
  exact ⟨max K K', fun n hn => ⟨h n qa27, k n qa27⟩⟩
theorem ev_mk {α : Type} {g : Nat → Option α} {r : α} (K : Nat) (h : ∀ k, K ≤ k → g k = some r) : Ev g r := ⟨K, h⟩
theorem ev_at {α : Type} {g : Nat → Option α} {r : α} (h : Ev g r) : ∃ K, ∀ k, K ≤ k → g k = some r := h
/-- A loop that counts up to n: from the end back. -/
theorem count_loop {ρ : Type} (n : Nat) (L : Nat → Int → Option ρ) (Post : Nat → ρ → Prop) (hend : ∃ r, Post n r ∧ Ev (fun k => L k (n : Int)) r)
    (hstep : ∀ j, j < n → ∀ r, Post (j + 1) r → Ev (fun k => L k ((j + 1 : Nat) : Int)) r → ∃ r', Post j r' ∧ Ev (fun k => L k (j : Int)) r') :
    ∀ j, j ≤ n → ∃ r, Post j r ∧ Ev (fun k => L k (j : Int)) r := by
  have key : ∀ d j, j ≤ n → n - j = d → ∃ r, Post j r ∧ Ev (fun k => L k (j : Int)) r := by
    intro d
    induction d with
    | zero => intro j hj hd; obtain rfl : j = n := by omega
              exact hend
    | succ d ih =>
      intro j hj hd
      obtain ⟨r, hp, he⟩ := ih (j + 1) qa27 qa27
      exact hstep j qa27 r hp he
  intro j hj
  exact key _ j hj rfl
/-- A loop that carries a state up to n. -/
theorem state_loop {σ ρ : Type} (n : Nat) (L : Nat → σ → Int → Option ρ) (Inv : Nat → σ → Prop) (Post : Nat → σ → ρ → Prop) (hend : ∀ s, Inv n s → ∃ r, Post n s r ∧ Ev (fun k => L k s (n : Int)) r)
    (hstep : ∀ j s, j < n → Inv j s → (∃ r, Post j s r ∧ Ev (fun k => L k s (j : Int)) r) ∨ ∃ s', Inv (j + 1) s' ∧ (∀ r, Post (j + 1) s' r → Post j s r) ∧ ∃ K, ∀ k, K ≤ k → L (k + 1) s (j : Int) = L k s' ((j + 1 : Nat) : Int)) :
    ∀ j s, j ≤ n → Inv j s → ∃ r, Post j s r ∧ Ev (fun k => L k s (j : Int)) r := by
  have key : ∀ d j s, j ≤ n → n - j = d → Inv j s → ∃ r, Post j s r ∧ Ev (fun k => L k s (j : Int)) r := by
    intro d
    induction d with
    | zero => intro j s hj hd hi; obtain rfl : j = n := by omega
              exact hend s hi
    | succ d ih =>
      intro j s hj hd hi
      rcases hstep j s qa27 hi with h | ⟨s', hi', hp, hk⟩
      · exact h
      · obtain ⟨r, hr, he⟩ := ih (j + 1) s' qa27 qa27 hi'
        exact ⟨r, hp r hr, ev_step hk he⟩
  intro j s hj hi
  exact key _ j s hj rfl hi
/-- A loop that fills a row of its own. -/
theorem fill_loop {α β : Type} (xs : List α) (z : α) (g : α → β) (L : Nat → List β → Int → Option (List β)) (hend : ∀ y : List β, y.length = xs.length → ∃ K, ∀ k, K ≤ k → L (k + 1) y (xs.length : Int) = some y)
    (hstep : ∀ (j : Nat) (y : List β), j < xs.length → y.length = xs.length → ∃ K, ∀ k, K ≤ k → L (k + 1) y (j : Int) = L k (y.set j (g (xs.getD j z))) ((j + 1 : Nat) : Int)) (y : List β) (hy : y.length = xs.length) :
    Ev (fun k => L k y 0) (xs.map g) := by
  obtain ⟨r, hr, he⟩ := state_loop xs.length L (fun j y => y.length = xs.length ∧ ∀ i, i < j → y[i]? = (xs.map g)[i]?) (fun _ _ r => r = xs.map g) (fun y hi => ⟨y, List.ext_getElem? fun i => by
      by_cases hi' : i < xs.length
      · exact hi.2 i hi'
      · rw [List.getElem?_eq_none qa27, List.getElem?_eq_none (by simp; omega)], ev_now (hend y hi.1)⟩) (fun j y hj hi => .inr ⟨_, ⟨by simp [hi.1], fun i hij => by
      by_cases he : i = j
      · subst he
        rw [List.getElem?_set_self qa27]
        simp [List.getD_eq_getElem?_getD, List.getElem?_eq_getElem hj]
      · rw [List.getElem?_set_ne qa27]
        exact hi.2 i qa27⟩, fun r h => h, hstep j y hj hi.1⟩) 0 y qa27 ⟨hy, fun i hi => by omega⟩
  subst hr
  exact he
theorem spec_in (a b c : Int) : spec_l01In.f a b c = some (decide (b ≤ a ∧ a ≤ c)) := by
  unfold spec_l01In.f
  by_cases h : b ≤ a
  · rw [if_pos h]; simp [h]
  · rw [if_neg h]; simp [h]
theorem impl_in (a b c : Int) : impl_within.f a b c = some (decide (b ≤ a ∧ a ≤ c)) := spec_in a b c
/-- A letter or _; a digit. -/
def isL (b : Int) : Bool := decide (97 ≤ b ∧ b ≤ 122 ∨ 65 ≤ b ∧ b ≤ 90 ∨ b = 95)
def isD (b : Int) : Bool := decide (48 ≤ b ∧ b ≤ 57)
/-- What a name is. -/
def IsName (s : ByteArray) : Prop := 1 ≤ s.size ∧ s.size ≤ 40 ∧ isL (bt s 0) = true ∧ ∀ i : Int, 1 ≤ i → i < s.size → isL (bt s i) = true ∨ isD (bt s i) = true
theorem beq95 (b : Int) (h : ¬ (97 ≤ b ∧ b ≤ 122)) (h' : ¬ (65 ≤ b ∧ b ≤ 90)) : (b == 95) = isL b := by
  unfold isL
  by_cases e : b = 95
  · subst e; rfl
  · rw [beq_eq_false_iff_ne.mpr e]; symm; simp only [decide_eq_false_iff_not]; omega
theorem impl_letter (b : Int) : impl_isLetter.f b = some (isL b) := by
  unfold impl_isLetter.f
  by_cases h1 : b ≥ 97 <;> by_cases h2 : b ≤ 122 <;> by_cases h3 : b ≥ 65 <;> by_cases h4 : b ≤ 90 <;> simp only [h1, h2, h3, h4, if_true, if_false, Option.some.injEq] <;>
    first | exact beq95 b qa27 qa27 | (symm; unfold isL; simp only [decide_eq_true_eq]; omega)
theorem spec_letter (b : Int) : spec_l00Letter.f b = some (isL b) := impl_letter b
theorem impl_digit (b : Int) : impl_isDigit.f b = some (isD b) := by
  unfold impl_isDigit.f isD
  by_cases h1 : b ≥ 48
  · rw [if_pos h1]; simp only [Option.some.injEq, decide_eq_decide]; omega
  · rw [if_neg h1]; simp only [Option.some.injEq]; symm; rw [decide_eq_false_iff_not]; omega
theorem spec_digit (b : Int) : spec_l00Digit.f b = some (isD b) := impl_digit b
/-- The reference's loop, from i on. -/
theorem spec_word_from (s : ByteArray) (hn : s.size ≤ 1048576) (d : Nat) : ∀ (k : Nat) (i : Int), 0 ≤ i → i ≤ s.size → (s.size : Int) - i = d → d < k →
    ∃ r, spec_l00Word.l0 k s i = some r ∧ (r = true ↔ ∀ j : Int, i ≤ j → j < s.size → isL (bt s j) = true ∨ isD (bt s j) = true) := by
  induction d with
  | zero =>
    intro k i h0 h1 hd hk
    obtain ⟨k, rfl⟩ : ∃ m, k = m + 1 := ⟨k - 1, qa27⟩
    refine ⟨true, ?_, ⟨fun _ j h2 h3 => by omega, fun _ => rfl⟩⟩
    simp only [spec_l00Word.l0]; rw [if_neg qa27]
  | succ d ih =>
    intro k i h0 h1 hd hk
    obtain ⟨k, rfl⟩ : ∃ m, k = m + 1 := ⟨k - 1, qa27⟩
    have hw : wrap64 (i + 1) = i + 1 := by unfold wrap64; omega
    obtain ⟨r, e, hr⟩ := ih k (i + 1) qa27 qa27 qa27 qa27
    have step : (isL (bt s i) = true ∨ isD (bt s i) = true) → (r = true ↔ ∀ j : Int, i ≤ j → j < s.size → isL (bt s j) = true ∨ isD (bt s j) = true) := by
      intro hh
      rw [hr]
      constructor
      · intro h j h2 h3
        rcases Int.lt_or_eq_of_le h2 with h4 | h4
        · exact h j qa27 h3
        · rw [← h4]; exact hh
      · intro h j h2 h3; exact h j qa27 h3
    simp only [spec_l00Word.l0]; rw [if_pos qa27, if_pos h0, spec_letter]; simp only [Option.bind_some]
    by_cases hl : isL (bt s i) = true
    · rw [if_pos hl, hw]; exact ⟨r, e, step (.inl hl)⟩
    · rw [if_neg hl, spec_digit]; simp only [Option.bind_some]
      by_cases hdg : isD (bt s i) = true
      · rw [if_pos hdg, hw]; exact ⟨r, e, step (.inr hdg)⟩
      · rw [if_neg hdg]
        exact ⟨false, rfl, ⟨fun h => (by cases h), fun h => absurd (h i (Int.le_refl _) qa27) (fun h => h.elim hl hdg)⟩⟩
theorem spec_name (s : ByteArray) (hn : s.size ≤ 1048576) : ∃ r, (∀ k, s.size + 1 < k → spec_NameOK.f k s = some r) ∧ (r = true ↔ IsName s) := by
  by_cases h1 : (s.size : Int) < 1
  · refine ⟨false, fun k hk => ?_, ⟨fun h => (by cases h), fun h => absurd h.1 qa27⟩⟩
    obtain ⟨k, rfl⟩ : ∃ m, k = m + 1 := ⟨k - 1, qa27⟩
    unfold spec_NameOK.f spec_l00Word.f
    rw [if_pos h1]; rfl
  · by_cases h2 : (s.size : Int) > 40
    · refine ⟨false, fun k hk => ?_, ⟨fun h => (by cases h), fun h => absurd h.2.1 qa27⟩⟩
      obtain ⟨k, rfl⟩ : ∃ m, k = m + 1 := ⟨k - 1, qa27⟩
      unfold spec_NameOK.f spec_l00Word.f
      rw [if_neg h1, if_pos h2]; rfl
    · by_cases hl : isL (bt s 0) = true
      · obtain ⟨r, _, hr⟩ := spec_word_from s hn (s.size - 1) (s.size + 1) 1 qa27 qa27 qa27 qa27
        refine ⟨r, fun k hk => ?_, ?_⟩
        · obtain ⟨k, rfl⟩ : ∃ m, k = m + 1 := ⟨k - 1, qa27⟩
          obtain ⟨r', e', hr'⟩ := spec_word_from s hn (s.size - 1) k 1 qa27 qa27 qa27 qa27
          have : r' = r := by rw [Bool.eq_iff_iff, hr, hr']
          subst this
          unfold spec_NameOK.f spec_l00Word.f
          rw [if_neg h1, if_neg h2, if_pos qa27, spec_letter]; simp only [Option.bind_some, hl, Bool.not_true, spec_l00Word.j0]
          rw [if_neg qa91, e']; rfl
        · rw [hr]; exact ⟨fun h => ⟨qa27, qa27, hl, h⟩, fun h => h.2.2.2⟩
      · refine ⟨false, fun k hk => ?_, ⟨fun h => (by cases h), fun h => absurd h.2.2.1 hl⟩⟩
        obtain ⟨k, rfl⟩ : ∃ m, k = m + 1 := ⟨k - 1, qa27⟩
        unfold spec_NameOK.f spec_l00Word.f
        rw [if_neg h1, if_neg h2, if_pos qa27, spec_letter]; simp only [Option.bind_some]
        have : isL (bt s 0) = false := by simpa using hl
        rw [this]; rfl
/-- The program's loop, from i on. -/
theorem impl_name_from (s : ByteArray) (hn : s.size ≤ 1048576) (d : Nat) : ∀ (k : Nat) (i : Int), 0 ≤ i → i ≤ s.size → (s.size : Int) - i = d → d < k →
    ∃ r, impl_NameOK.l0 k s s.size i = some r ∧ (r = true ↔ (1 ≤ s.size ∧ s.size ≤ 40) ∧ ∀ j : Int, i ≤ j → j < s.size → isL (bt s j) = true ∨ j ≠ 0 ∧ isD (bt s j) = true) := by
  induction d with
  | zero =>
    intro k i h0 h1 hd hk
    obtain ⟨k, rfl⟩ : ∃ m, k = m + 1 := ⟨k - 1, qa27⟩
    simp only [impl_NameOK.l0]; rw [if_neg qa27]
    unfold impl_within.f
    by_cases h2 : (s.size : Int) ≥ 1
    · rw [if_pos h2]
      refine ⟨_, rfl, ?_⟩
      simp only [decide_eq_true_eq]
      exact ⟨fun h => ⟨⟨qa27, qa27⟩, fun j _ _ => by omega⟩, fun h => by omega⟩
    · rw [if_neg h2]
      refine ⟨_, rfl, ?_⟩
      exact ⟨fun h => by simp at h, fun h => by omega⟩
  | succ d ih =>
    intro k i h0 h1 hd hk
    obtain ⟨k, rfl⟩ : ∃ m, k = m + 1 := ⟨k - 1, qa27⟩
    have hw : wrap64 (i + 1) = i + 1 := by unfold wrap64; omega
    obtain ⟨r, e, hr⟩ := ih k (i + 1) qa27 qa27 qa27 qa27
    have step : (isL (bt s i) = true ∨ i ≠ 0 ∧ isD (bt s i) = true) → (r = true ↔ (1 ≤ s.size ∧ s.size ≤ 40) ∧ ∀ j : Int, i ≤ j → j < s.size → isL (bt s j) = true ∨ j ≠ 0 ∧ isD (bt s j) = true) := by
      intro hh
      rw [hr]
      constructor
      · intro ⟨h', h⟩
        refine ⟨h', fun j h2 h3 => ?_⟩
        rcases Int.lt_or_eq_of_le h2 with h4 | h4
        · exact h j qa27 h3
        · rw [← h4]; exact hh
      · intro ⟨h', h⟩; exact ⟨h', fun j h2 h3 => h j qa27 h3⟩
    simp only [impl_NameOK.l0]; rw [if_pos qa27, if_pos h0, if_pos qa27, impl_letter]; simp only [Option.bind_some]
    by_cases hl : isL (bt s i) = true
    · rw [if_pos hl, hw]; exact ⟨r, e, step (.inl hl)⟩
    · rw [if_neg hl]
      by_cases hz : i = 0
      · rw [if_pos hz]
        exact ⟨false, rfl, ⟨fun h => (by cases h), fun h => absurd (h.2 i (Int.le_refl _) qa27) (fun h => h.elim hl (fun h => h.1 hz))⟩⟩
      · rw [if_neg hz, impl_digit]; simp only [Option.bind_some]
        by_cases hdg : isD (bt s i) = true
        · rw [if_pos hdg, hw]; exact ⟨r, e, step (.inr ⟨hz, hdg⟩)⟩
        · rw [if_neg hdg]
          exact ⟨false, rfl, ⟨fun h => (by cases h), fun h => absurd (h.2 i (Int.le_refl _) qa27) (fun h => h.elim hl (fun h => hdg h.2))⟩⟩
theorem impl_name (s : ByteArray) (hn : s.size ≤ 1048576) : ∃ r, (∀ k, s.size + 1 < k → impl_NameOK.f k s = some r) ∧ (r = true ↔ IsName s) := by
  obtain ⟨r, _, hr⟩ := impl_name_from s hn s.size (s.size + 1) 0 qa27 qa27 qa27 qa27
  refine ⟨r, fun k hk => ?_, ?_⟩
  · obtain ⟨r', e', hr'⟩ := impl_name_from s hn s.size k 0 qa27 qa27 qa27 qa27
    have : r' = r := by rw [Bool.eq_iff_iff, hr, hr']
    subst this
    exact e'
  · rw [hr]
    constructor
    · rintro ⟨⟨h1, h2⟩, h⟩
      refine ⟨h1, h2, ?_, fun j hj hj' => ?_⟩
      · have := h 0 qa27 qa27
        simpa using this
      · rcases h j qa27 hj' with h | h
        · exact .inl h
        · exact .inr h.2
    · rintro ⟨h1, h2, h3, h⟩
      refine ⟨⟨h1, h2⟩, fun j hj hj' => ?_⟩
      by_cases hz : j = 0
      · subst hz; exact .inl h3
      · rcases h j qa27 hj' with h | h
        · exact .inl h
        · exact .inr ⟨hz, h⟩
/-- Both say the same. -/
theorem names_agree (s : ByteArray) (hn : s.size ≤ 1048576) : ∃ r, (∀ k, s.size + 1 < k → spec_NameOK.f k s = some r ∧ impl_NameOK.f k s = some r) ∧ (r = true ↔ IsName s) := by
  obtain ⟨r, e, hr⟩ := spec_name s hn
  obtain ⟨r', e', hr'⟩ := impl_name s hn
  have : r' = r := by rw [Bool.eq_iff_iff, hr, hr']
  subst this
  exact ⟨r', fun k hk => ⟨e k hk, e' k hk⟩, hr⟩
theorem names_ev (s : ByteArray) (hn : s.size ≤ 1048576) : ∃ r, Ev (fun k => spec_NameOK.f k s) r ∧ Ev (fun k => impl_NameOK.f k s) r ∧ (r = true ↔ IsName s) := by
  obtain ⟨r, h, hr⟩ := names_agree s hn
  exact ⟨r, ev_mk (s.size + 2) (fun k hk => (h k qa27).1), ev_mk (s.size + 2) (fun k hk => (h k qa27).2), hr⟩
end Go.Proofs.Ytoogmlghfljeiaa.Pure2
namespace Go.Proofs.Ytoogmlghfljeiaa.Pure2
open Go.RowKit Go.Proofs.Ytoogmlghfljeiaa.Q Go.Proofs.YtoogmlghfljeiaaW.PrintWords Go.Proofs.YtoogmlghfljeiaaW.PrintLast
set_option linter.unusedVariables false
set_option linter.unusedSimpArgs false
/-! schemas -/
theorem getD_mem {α : Type} (l : List α) (z : α) (j : Nat) (h : j < l.length) : l.getD j z ∈ l := by rw [List.getD_eq_getElem?_getD, List.getElem?_eq_getElem h]; exact List.getElem_mem h
theorem wsub (a : Int) (n : Nat) (h0 : 0 ≤ a) (h1 : a ≤ 1048576) (hn : n ≤ 9223372036854775807) : wrap64 (a - (n : Int)) = a - (n : Int) := by unfold wrap64; omega
theorem sz_loop {α : Type} (l : List α) (z : α) (P : α → Prop) (a : Int) (h0 : 0 ≤ a) (L : Nat → Int → Int → Option Int) (hend : ∀ k s, L (k + 1) s (l.length : Int) = some s)
    (hx : ∀ j, j < l.length → ∀ s, 0 ≤ s → s ≤ a → ∃ t, (t < 0 ∨ 0 ≤ t ∧ t ≤ s ∧ P (l.getD j z)) ∧ ∃ K, ∀ k, K ≤ k → L (k + 1) s (j : Int) = if t < 0 then some (-1) else L k t ((j + 1 : Nat) : Int)) :
    ∃ r, Ev (fun k => L k a 0) r ∧ (r < 0 ∨ 0 ≤ r ∧ r ≤ a ∧ ∀ x ∈ l, P x) := by
  obtain ⟨r, hr, he⟩ := state_loop l.length L (fun j s => 0 ≤ s ∧ s ≤ a ∧ ∀ i, i < j → P (l.getD i z)) (fun _ _ r => r < 0 ∨ 0 ≤ r ∧ r ≤ a ∧ ∀ i, i < l.length → P (l.getD i z))
    (fun s hi => ⟨s, .inr hi, ev_now ⟨0, fun k _ => hend k s⟩⟩)
    (fun j s hj hi => by
      obtain ⟨t, ht, K, hk⟩ := hx j hj s hi.1 hi.2.1
      rcases ht with ht | ⟨t0, t1, t2⟩
      · exact .inl ⟨-1, .inl qa27, ev_now ⟨K, fun k h => by rw [hk k h, if_pos ht]⟩⟩
      · refine .inr ⟨t, ⟨t0, qa27, fun i hij => ?_⟩, fun r h => h, K, fun k h => by rw [hk k h, if_neg qa27]⟩
        rcases Nat.lt_or_eq_of_le (Nat.le_of_lt_succ hij) with h' | rfl
        · exact hi.2.2 i h'
        · exact t2) 0 a qa27 ⟨h0, qa27, fun i hi => by omega⟩
  refine ⟨r, he, ?_⟩
  rcases hr with hr | ⟨h2, h3, h4⟩
  · exact .inl hr
  · refine .inr ⟨h2, h3, fun x hx' => ?_⟩
    obtain ⟨i, hi, rfl⟩ := List.getElem_of_mem hx'
    have := h4 i hi
    rw [List.getD_eq_getElem?_getD, List.getElem?_eq_getElem hi] at this
    exact this
def SmA (x : S106) : Prop := x.f0.size ≤ 1048576
def SmF (x : S101) : Prop := x.f0.size ≤ 1048576 ∧ x.f2.size ≤ 1048576 ∧ x.f1.length ≤ 1048576 ∧ ∀ y ∈ x.f1, SmA y
def SmT (x : S77) : Prop := x.f0.size ≤ 1048576 ∧ x.f1.length ≤ 1048576 ∧ ∀ y ∈ x.f1, SmF y
def SmS (l : List S77) : Prop := l.length ≤ 1048576 ∧ ∀ y ∈ l, SmT y
theorem sz_args (l : List S106) (a : Int) (h0 : 0 ≤ a) (h1 : a ≤ 1048576) (hl : l.length ≤ 9223372036854775807) (hx : ∀ x ∈ l, i106 x) :
    ∃ r, Ev (fun k => laws_szArgDefS.f k l a) r ∧ (r < 0 ∨ 0 ≤ r ∧ r ≤ a ∧ l.length ≤ 1048576 ∧ ∀ x ∈ l, SmA x) := by
  have hw := wsub a l.length h0 h1 hl
  by_cases h : a - (l.length : Int) < 0
  · exact ⟨-1, ev_mk 0 (fun k _ => by unfold laws_szArgDefS.f; rw [hw, if_pos h]), .inl qa27⟩
  · obtain ⟨r, he, hr⟩ := sz_loop l z106 SmA (a - l.length) qa27 (fun k s i => laws_szArgDefS.l0 k l s i) (fun k s => by simp only [laws_szArgDefS.l0]; rw [if_neg qa27]) (fun j hj s s0 s1 => by
      have hi := hx _ (getD_mem l z106 j hj)
      have hw' := wsub s (l.getD j z106).f0.size s0 qa27 hi.1
      have hrd : rd_T106 l (j : Int) = l.getD j z106 := rfl
      by_cases h2 : s - ((l.getD j z106).f0.size : Int) < 0
      · exact ⟨-1, .inl qa27, 0, fun k _ => by simp only [laws_szArgDefS.l0, laws_szArgDef.f]; rw [if_pos qa27, if_pos qa27, hrd, hw', if_pos h2, Option.bind_some, if_pos qa27, if_pos qa27]⟩
      · refine ⟨s - ((l.getD j z106).f0.size : Int), .inr ⟨qa27, qa27, ?_⟩, 0, fun k _ => by simp only [laws_szArgDefS.l0, laws_szArgDef.f]; rw [if_pos qa27, if_pos qa27, hrd, hw', if_neg h2, Option.bind_some, if_neg qa27, if_neg qa27, wsucc hj qa27]⟩
        show (l.getD j z106).f0.size ≤ 1048576
        omega)
    refine ⟨r, ev_same ⟨0, fun k _ => by unfold laws_szArgDefS.f; rw [hw, if_neg h]⟩ he, ?_⟩
    rcases hr with hr | ⟨h2, h3, h4⟩
    · exact .inl hr
    · exact .inr ⟨h2, qa27, qa27, h4⟩
theorem sz_field (x : S101) (a : Int) (h0 : 0 ≤ a) (h1 : a ≤ 1048576) (hi : i101 x) :
    ∃ r, Ev (fun k => laws_szFieldDef.f k x.f0 x.f1 x.f2 x.f3 x.f4 a) r ∧ (r < 0 ∨ 0 ≤ r ∧ r ≤ a ∧ SmF x) := by
  have hw := wsub a x.f0.size h0 h1 hi.1
  by_cases h : a - (x.f0.size : Int) < 0
  · exact ⟨-1, ev_mk 0 (fun k _ => by unfold laws_szFieldDef.f; rw [hw, if_pos h]), .inl qa27⟩
  · obtain ⟨r, he, hr⟩ := sz_args x.f1 (a - (x.f0.size : Int)) qa27 qa27 hi.2.1.1 hi.2.1.2
    obtain ⟨K, hk⟩ := ev_at he
    rcases hr with hr | ⟨h2, h3, h4⟩
    · exact ⟨-1, ev_mk K (fun k hq => by unfold laws_szFieldDef.f; rw [hw, if_neg h, hk k hq, Option.bind_some, if_pos hr]), .inl qa27⟩
    · have hw' := wsub r x.f2.size h2 qa27 hi.2.2.1
      by_cases h5 : r - (x.f2.size : Int) < 0
      · exact ⟨-1, ev_mk K (fun k hq => by unfold laws_szFieldDef.f; rw [hw, if_neg h, hk k hq, Option.bind_some, if_neg qa27, hw', if_pos h5]), .inl qa27⟩
      · exact ⟨r - (x.f2.size : Int), ev_mk K (fun k hq => by unfold laws_szFieldDef.f; rw [hw, if_neg h, hk k hq, Option.bind_some, if_neg qa27, hw', if_neg h5]), .inr ⟨qa27, qa27, qa27, qa27, h4⟩⟩
theorem sz_fields (l : List S101) (a : Int) (h0 : 0 ≤ a) (h1 : a ≤ 1048576) (hl : l.length ≤ 9223372036854775807) (hx : ∀ x ∈ l, i101 x) :
    ∃ r, Ev (fun k => laws_szFieldDefS.f k l a) r ∧ (r < 0 ∨ 0 ≤ r ∧ r ≤ a ∧ l.length ≤ 1048576 ∧ ∀ x ∈ l, SmF x) := by
  have hw := wsub a l.length h0 h1 hl
  by_cases h : a - (l.length : Int) < 0
  · exact ⟨-1, ev_mk 0 (fun k _ => by unfold laws_szFieldDefS.f; rw [hw, if_pos h]), .inl qa27⟩
  · obtain ⟨r, he, hr⟩ := sz_loop l z101 SmF (a - l.length) qa27 (fun k s i => laws_szFieldDefS.l0 k l s i) (fun k s => by simp only [laws_szFieldDefS.l0]; rw [if_neg qa27]) (fun j hj s s0 s1 => by
      obtain ⟨t, te, ht⟩ := sz_field (l.getD j z101) s s0 qa27 (hx _ (getD_mem l z101 j hj))
      obtain ⟨K, hk⟩ := ev_at te
      have hrd : rd_T101 l (j : Int) = l.getD j z101 := rfl
      exact ⟨t, ht, K, fun k hq => by simp only [laws_szFieldDefS.l0]; rw [if_pos qa27, if_pos qa27, hrd, hk k hq, Option.bind_some, wsucc hj qa27]⟩)
    refine ⟨r, ev_same ⟨0, fun k _ => by unfold laws_szFieldDefS.f; rw [hw, if_neg h]⟩ he, ?_⟩
    rcases hr with hr | ⟨h2, h3, h4⟩
    · exact .inl hr
    · exact .inr ⟨h2, qa27, qa27, h4⟩
theorem sz_type (x : S77) (a : Int) (h0 : 0 ≤ a) (h1 : a ≤ 1048576) (hi : i77 x) :
    ∃ r, Ev (fun k => laws_szTypeDef.f k x.f0 x.f1 a) r ∧ (r < 0 ∨ 0 ≤ r ∧ r ≤ a ∧ SmT x) := by
  have hw := wsub a x.f0.size h0 h1 hi.1
  by_cases h : a - (x.f0.size : Int) < 0
  · exact ⟨-1, ev_mk 0 (fun k _ => by unfold laws_szTypeDef.f; rw [hw, if_pos h]), .inl qa27⟩
  · obtain ⟨r, he, hr⟩ := sz_fields x.f1 (a - (x.f0.size : Int)) qa27 qa27 hi.2.1 hi.2.2
    obtain ⟨K, hk⟩ := ev_at he
    rcases hr with hr | ⟨h2, h3, h4⟩
    · exact ⟨-1, ev_mk K (fun k hq => by unfold laws_szTypeDef.f; rw [hw, if_neg h, hk k hq, Option.bind_some, if_pos hr]), .inl qa27⟩
    · exact ⟨r, ev_mk K (fun k hq => by unfold laws_szTypeDef.f; rw [hw, if_neg h, hk k hq, Option.bind_some, if_neg qa27]), .inr ⟨h2, qa27, qa27, h4⟩⟩
theorem sz_schema (l : List S77) (a : Int) (h0 : 0 ≤ a) (h1 : a ≤ 1048576) (hl : l.length ≤ 9223372036854775807) (hx : ∀ x ∈ l, i77 x) :
    ∃ r, Ev (fun k => laws_szSchema.f k l a) r ∧ (r < 0 ∨ 0 ≤ r ∧ r ≤ a ∧ SmS l) := by
  have hw := wsub a l.length h0 h1 hl
  by_cases h : a - (l.length : Int) < 0
  · exact ⟨-1, ev_mk 0 (fun k _ => by unfold laws_szSchema.f laws_szTypeDefS.f; rw [hw, if_pos h]; rfl), .inl qa27⟩
  · obtain ⟨r, he, hr⟩ := sz_loop l z77 SmT (a - l.length) qa27 (fun k s i => laws_szTypeDefS.l0 k l s i) (fun k s => by simp only [laws_szTypeDefS.l0]; rw [if_neg qa27]) (fun j hj s s0 s1 => by
      obtain ⟨t, te, ht⟩ := sz_type (l.getD j z77) s s0 qa27 (hx _ (getD_mem l z77 j hj))
      obtain ⟨K, hk⟩ := ev_at te
      have hrd : rd_T77 l (j : Int) = l.getD j z77 := rfl
      exact ⟨t, ht, K, fun k hq => by simp only [laws_szTypeDefS.l0]; rw [if_pos qa27, if_pos qa27, hrd, hk k hq, Option.bind_some, wsucc hj qa27]⟩)
    obtain ⟨K, hk⟩ := ev_at he
    rcases hr with hr | ⟨h2, h3, h4⟩
    · exact ⟨-1, ev_mk K (fun k hq => by unfold laws_szSchema.f laws_szTypeDefS.f; rw [hw, if_neg h, hk k hq, Option.bind_some, if_pos hr]), .inl qa27⟩
    · exact ⟨r, ev_mk K (fun k hq => by unfold laws_szSchema.f laws_szTypeDefS.f; rw [hw, if_neg h, hk k hq, Option.bind_some, if_neg qa27]), .inr ⟨h2, qa27, qa27, h4⟩⟩
def cvA (x : S106) : S57 := ⟨x.f0, x.f1⟩
def cvF (x : S101) : S38 := ⟨x.f0, x.f1.map cvA, x.f2, x.f3, x.f4⟩
def cvT (x : S77) : S53 := ⟨x.f0, x.f1.map cvF⟩
theorem to_args (l : List S106) (hl : l.length ≤ 1048576) : Ev (fun k => laws_toArgDefS.f k l) (l.map cvA) := by
  have h := fill_loop l z106 cvA (fun k y i => laws_toArgDefS.l0 k l y i) (fun y hy => ⟨0, fun k _ => by simp only [laws_toArgDefS.l0]; rw [if_neg qa27]⟩)
    (fun j y hj hy => ⟨0, fun k _ => by
      simp only [laws_toArgDefS.l0, laws_toArgDef.f]; rw [if_pos qa27, if_pos qa27, Option.bind_some, if_pos qa27, wsucc hj qa27]; rfl⟩) (List.replicate l.length z57) qa91
  refine ev_same ⟨0, fun k _ => ?_⟩ h
  unfold laws_toArgDefS.f
  rw [if_pos qa27, if_pos (by simp; omega), Int.toNat_natCast]
theorem to_fields (l : List S101) (hl : l.length ≤ 1048576) (hx : ∀ x ∈ l, SmF x) : Ev (fun k => laws_toFieldDefS.f k l) (l.map cvF) := by
  have h := fill_loop l z101 cvF (fun k y i => laws_toFieldDefS.l0 k l y i) (fun y hy => ⟨0, fun k _ => by simp only [laws_toFieldDefS.l0]; rw [if_neg qa27]⟩)
    (fun j y hj hy => by
      obtain ⟨K, hk⟩ := ev_at (to_args (l.getD j z101).f1 (hx _ (getD_mem l z101 j hj)).2.2.1)
      have hrd : rd_T101 l (j : Int) = l.getD j z101 := rfl
      exact ⟨K, fun k hq => by
        simp only [laws_toFieldDefS.l0, laws_toFieldDef.f]; rw [if_pos qa27, if_pos qa27, hrd, hk k hq, Option.bind_some, Option.bind_some, if_pos qa27, wsucc hj qa27]; rfl⟩) (List.replicate l.length z38) qa91
  refine ev_same ⟨0, fun k _ => ?_⟩ h
  unfold laws_toFieldDefS.f
  rw [if_pos qa27, if_pos (by simp; omega), Int.toNat_natCast]
theorem to_schema (l : List S77) (hl : SmS l) : Ev (fun k => laws_toSchema.f k l) (l.map cvT) := by
  obtain ⟨hl, hx⟩ := hl
  have h := fill_loop l z77 cvT (fun k y i => laws_toTypeDefS.l0 k l y i) (fun y hy => ⟨0, fun k _ => by simp only [laws_toTypeDefS.l0]; rw [if_neg qa27]⟩)
    (fun j y hj hy => by
      have hm := hx _ (getD_mem l z77 j hj)
      obtain ⟨K, hk⟩ := ev_at (to_fields (l.getD j z77).f1 hm.2.1 hm.2.2)
      have hrd : rd_T77 l (j : Int) = l.getD j z77 := rfl
      exact ⟨K, fun k hq => by
        simp only [laws_toTypeDefS.l0, laws_toTypeDef.f]; rw [if_pos qa27, if_pos qa27, hrd, hk k hq, Option.bind_some, Option.bind_some, if_pos qa27, wsucc hj qa27]; rfl⟩) (List.replicate l.length z53) qa91
  obtain ⟨K, hk⟩ := ev_at h
  refine ev_mk K fun k hq => ?_
  unfold laws_toSchema.f laws_toTypeDefS.f
  rw [if_pos qa27, if_pos (by simp; omega), Int.toNat_natCast, hk k hq]
  rfl
theorem eq_loop {α : Type} (n : Nat) (L : Nat → Int → Option Bool) (hend : ∀ k, L (k + 1) (n : Int) = some true) (hs : ∀ j, j < n → ∃ K, ∀ k, K ≤ k → L (k + 1) (j : Int) = L k ((j + 1 : Nat) : Int)) : Ev (fun k => L k 0) true := by
  obtain ⟨r, hr, he⟩ := count_loop n L (fun _ r => r = true) ⟨true, rfl, ev_now ⟨0, fun k _ => hend k⟩⟩ (fun j hj r hr he => ⟨r, hr, ev_step (hs j hj) he⟩) 0 qa27
  subst hr
  exact he
theorem eq_args (l : List S57) (hl : l.length ≤ 1048576) : Ev (fun k => laws_eqArgDefS.f k l l) true := by
  refine ev_same ⟨0, fun k _ => by unfold laws_eqArgDefS.f; rw [if_pos rfl]⟩ (eq_loop (α := Unit) l.length (fun k i => laws_eqArgDefS.l0 k l l i) (fun k => by simp only [laws_eqArgDefS.l0]; rw [if_neg qa27]) fun j hj => ⟨0, fun k _ => ?_⟩)
  simp only [laws_eqArgDefS.l0, laws_eqArgDef.f, bne_self_eq_false]; rw [if_pos qa27, if_pos qa27, if_pos qa27, if_pos trivial, if_neg qa91, Option.bind_some, if_pos rfl, wsucc hj qa27]
theorem eq_fields (l : List S38) (hl : l.length ≤ 1048576) (hx : ∀ x ∈ l, x.f1.length ≤ 1048576) : Ev (fun k => laws_eqFieldDefS.f k l l) true := by
  refine ev_same ⟨0, fun k _ => by unfold laws_eqFieldDefS.f; rw [if_pos rfl]⟩ (eq_loop (α := Unit) l.length (fun k i => laws_eqFieldDefS.l0 k l l i) (fun k => by simp only [laws_eqFieldDefS.l0]; rw [if_neg qa27]) fun j hj => ?_)
  obtain ⟨K, hk⟩ := ev_at (eq_args (l.getD j z38).f1 (hx _ (getD_mem l z38 j hj)))
  have hrd : rd_T38 l (j : Int) = l.getD j z38 := rfl
  refine ⟨K, fun k hq => ?_⟩
  simp only [laws_eqFieldDefS.l0, laws_eqFieldDef.f, bne_self_eq_false]; rw [if_pos qa27, if_pos qa27, if_pos qa27, if_pos trivial, hrd, hk k hq, Option.bind_some, if_pos rfl, if_pos trivial, if_neg qa91, if_neg qa91, Option.bind_some, if_pos rfl, wsucc hj qa27]
theorem eq_schema (l : List S53) (hl : l.length ≤ 1048576) (hx : ∀ x ∈ l, x.f1.length ≤ 1048576 ∧ ∀ y ∈ x.f1, y.f1.length ≤ 1048576) : Ev (fun k => laws_eqSchema.f k l l) true := by
  have h : Ev (fun k => laws_eqTypeDefS.f k l l) true := by
    refine ev_same ⟨0, fun k _ => by unfold laws_eqTypeDefS.f; rw [if_pos rfl]⟩ (eq_loop (α := Unit) l.length (fun k i => laws_eqTypeDefS.l0 k l l i) (fun k => by simp only [laws_eqTypeDefS.l0]; rw [if_neg qa27]) fun j hj => ?_)
    obtain ⟨K, hk⟩ := ev_at (eq_fields (l.getD j z53).f1 (hx _ (getD_mem l z53 j hj)).1 (hx _ (getD_mem l z53 j hj)).2)
    have hrd : rd_T53 l (j : Int) = l.getD j z53 := rfl
    refine ⟨K, fun k hq => ?_⟩
    simp only [laws_eqTypeDefS.l0, laws_eqTypeDef.f]; rw [if_pos qa27, if_pos qa27, if_pos qa27, if_pos trivial, hrd, hk k hq, Option.bind_some, if_pos rfl, Option.bind_some, if_pos rfl, wsucc hj qa27]
  obtain ⟨K, hk⟩ := ev_at h
  exact ev_mk K fun k hq => by unfold laws_eqSchema.f; rw [hk k hq]; rfl
end Go.Proofs.Ytoogmlghfljeiaa.Pure2
namespace Go.Proofs.Ytoogmlghfljeiaa.Pure2
open Go.RowKit Go.Proofs.Ytoogmlghfljeiaa.Q Go.Proofs.YtoogmlghfljeiaaW.PrintWords Go.Proofs.YtoogmlghfljeiaaW.PrintLast
set_option linter.unusedVariables false
set_option linter.unusedSimpArgs false
/-! whether a schema is one -/
theorem find_ev {α : Type} (l : List α) (z : α) (p : α → Bool) (L : Nat → Int → Option Int) (hend : ∀ k, L (k + 1) (l.length : Int) = some (-1))
    (hs : ∀ k j, j < l.length → L (k + 1) (j : Int) = if p (l.getD j z) = true then some (j : Int) else L k ((j + 1 : Nat) : Int)) : Ev (fun k => L k 0) (match l.findIdx? p with | some i => (i : Int) | none => -1) := by
  obtain ⟨r, hr, he⟩ := count_loop l.length L (fun j r => r = match (l.drop j).findIdx? p with | some i => ((i + j : Nat) : Int) | none => -1) ⟨-1, by rw [List.drop_eq_nil_of_le (Nat.le_refl _)]; rfl, ev_now ⟨0, fun k _ => hend k⟩⟩
    (fun j hj r hr he => by
      have hg : l.getD j z = l[j] := by rw [List.getD_eq_getElem?_getD, List.getElem?_eq_getElem hj]; rfl
      rw [List.drop_eq_getElem_cons hj, List.findIdx?_cons]
      cases hc : p l[j] with
      | true => exact ⟨(j : Int), by rw [if_pos rfl]; simp, ev_now ⟨0, fun k _ => by rw [hs k j hj, hg, hc, if_pos rfl]⟩⟩
      | false =>
        refine ⟨r, ?_, ev_step ⟨0, fun k _ => by rw [hs k j hj, hg, hc, if_neg qa91]⟩ he⟩
        rw [hr, if_neg qa91]
        cases (l.drop (j + 1)).findIdx? p with
        | none => rfl
        | some i => simp only [Option.map_some]; congr 1; omega) 0 qa27
  rw [List.drop_zero] at hr
  subst hr
  exact he
theorem find_type (l : List S53) (s : ByteArray) (hl : l.length ≤ 1048576) : ∃ r, Ev (fun k => spec_l03Find.f k l s) r ∧ impl_Schema_typeAt.f l s = some r :=
  ⟨_, find_ev l z53 (fun x => x.f0.toList == s.toList) (fun k i => spec_l03Find.l0 k s i l) (fun k => by simp only [spec_l03Find.l0]; rw [if_neg qa27])
    (fun k j hj => by
      have hrd : rd_T53 l (j : Int) = l.getD j z53 := rfl
      conv => lhs; simp only [spec_l03Find.l0]
      rw [if_pos qa27, if_pos qa27, hrd, wsucc hj qa27]
      simp only [beq_iff_eq]), rfl⟩
theorem find_field (l : List S38) (nm s : ByteArray) (hl : l.length ≤ 1048576) : ∃ r, Ev (fun k => spec_l03Field.f k nm l s) r ∧ impl_TypeDef_fieldAt.f nm l s = some r :=
  ⟨_, find_ev l z38 (fun x => x.f0.toList == s.toList) (fun k i => spec_l03Field.l0 k s i nm l) (fun k => by simp only [spec_l03Field.l0]; rw [if_neg qa27])
    (fun k j hj => by
      have hrd : rd_T38 l (j : Int) = l.getD j z38 := rfl
      conv => lhs; simp only [spec_l03Field.l0]
      rw [if_pos qa27, if_pos qa27, hrd, wsucc hj qa27]
      simp only [beq_iff_eq]), rfl⟩
theorem find_arg (l : List S57) (nm t : ByteArray) (b c : Bool) (s : ByteArray) (hl : l.length ≤ 1048576) : ∃ r, Ev (fun k => spec_l03Arg.f k nm l t b c s) r ∧ impl_FieldDef_argAt.f nm l t b c s = some r :=
  ⟨_, find_ev l z57 (fun x => x.f0.toList == s.toList) (fun k i => spec_l03Arg.l0 k s i nm l t b c) (fun k => by simp only [spec_l03Arg.l0]; rw [if_neg qa27])
    (fun k j hj => by
      have hrd : rd_T57 l (j : Int) = l.getD j z57 := rfl
      conv => lhs; simp only [spec_l03Arg.l0]
      rw [if_pos qa27, if_pos qa27, hrd, wsucc hj qa27]
      simp only [beq_iff_eq]), rfl⟩
def CmF (x : S38) : Prop := x.f0.size ≤ 1048576 ∧ x.f1.length ≤ 1048576 ∧ ∀ y ∈ x.f1, y.f0.size ≤ 1048576
def CmT (x : S53) : Prop := x.f0.size ≤ 1048576 ∧ x.f1.length ≤ 1048576 ∧ ∀ y ∈ x.f1, CmF y
def CmS (l : List S53) : Prop := l.length ≤ 1048576 ∧ ∀ y ∈ l, CmT y
theorem args_agree (fd : S38) (hf : CmF fd) (i j : Nat) (T : List S53) (nm : ByteArray) (fs : List S38) (hj : j < fs.length) (hfs : fs.length ≤ 1048576) (R : Bool) (hR : Ev (fun k => spec_SchemaOK.l1 k (i : Int) ((j + 1 : Nat) : Int) T nm fs) R) :
    ∃ b, Ev (fun k => spec_SchemaOK.l2 k (i : Int) (j : Int) 0 T nm fs fd.f0 fd.f1 fd.f2 fd.f3 fd.f4) (if b = true then R else false) ∧ Ev (fun k => impl_Schema_fieldOK.l0 k fd.f1 (fd.f1.length : Int) 0 fd.f0 fd.f1 fd.f2 fd.f3 fd.f4) b := by
  have hl := hf.2.1
  obtain ⟨b, h1, h2⟩ := count_loop fd.f1.length (fun k q => impl_Schema_fieldOK.l0 k fd.f1 (fd.f1.length : Int) q fd.f0 fd.f1 fd.f2 fd.f3 fd.f4) (fun q b => Ev (fun k => spec_SchemaOK.l2 k (i : Int) (j : Int) (q : Int) T nm fs fd.f0 fd.f1 fd.f2 fd.f3 fd.f4) (if b = true then R else false))
    ⟨true, by rw [if_pos rfl]; exact ev_step ⟨0, fun k _ => by simp only [spec_SchemaOK.l2]; rw [if_neg (by omega), wsucc hj (by omega)]⟩ hR, ev_now ⟨0, fun k _ => by simp only [impl_Schema_fieldOK.l0]; rw [if_neg qa27]⟩⟩
    (fun q hq b hp he => by
      have hrd : rd_T57 fd.f1 (q : Int) = fd.f1.getD q z57 := rfl
      obtain ⟨n, n1, n2, _⟩ := names_ev (fd.f1.getD q z57).f0 (hf.2.2 _ (getD_mem fd.f1 z57 q hq))
      obtain ⟨t, t1, t2⟩ := find_arg fd.f1 fd.f0 fd.f2 fd.f3 fd.f4 (fd.f1.getD q z57).f0 hl
      obtain ⟨K1, n1⟩ := ev_at n1
      obtain ⟨K2, n2⟩ := ev_at n2
      obtain ⟨K3, t1⟩ := ev_at t1
      cases n with
      | false =>
        refine ⟨false, ?_, ev_now ⟨K2, fun k hk => by simp only [impl_Schema_fieldOK.l0]; rw [if_pos qa27, if_pos qa27, if_pos qa27, hrd, n2 k hk]; rfl⟩⟩
        exact ev_now ⟨K1, fun k hk => by simp only [spec_SchemaOK.l2]; rw [if_pos qa27, if_pos qa27, hrd, n1 k hk]; rfl⟩
      | true =>
        by_cases ht : t = (q : Int)
        · refine ⟨b, ev_step ⟨K1 + K3, fun k hk => ?_⟩ hp, ev_step ⟨K2, fun k hk => ?_⟩ he⟩
          · simp only [spec_SchemaOK.l2]; rw [if_pos qa27, if_pos qa27, hrd, n1 k qa27, Option.bind_some, if_pos rfl, t1 k qa27, Option.bind_some, if_pos ht, wsucc hq qa27]
          · simp only [impl_Schema_fieldOK.l0]; rw [if_pos qa27, if_pos qa27, if_pos qa27, hrd, n2 k hk, Option.bind_some, if_pos rfl, t2, Option.bind_some, if_pos ht, wsucc hq qa27]
        · refine ⟨false, ?_, ev_now ⟨K2, fun k hk => by simp only [impl_Schema_fieldOK.l0]; rw [if_pos qa27, if_pos qa27, if_pos qa27, hrd, n2 k hk, Option.bind_some, if_pos rfl, t2, Option.bind_some, if_neg ht]⟩⟩
          exact ev_now ⟨K1 + K3, fun k hk => by simp only [spec_SchemaOK.l2]; rw [if_pos qa27, if_pos qa27, hrd, n1 k qa27, Option.bind_some, if_pos rfl, t1 k qa27, Option.bind_some, if_neg ht]; rfl⟩) 0 qa27
  exact ⟨b, h1, h2⟩
theorem fields_agree (T : List S53) (hT : T.length ≤ 1048576) (i : Nat) (hi : i < T.length) (nm : ByteArray) (fs : List S38) (hl : fs.length ≤ 1048576) (hx : ∀ x ∈ fs, CmF x) (R : Bool) (hR : Ev (fun k => spec_SchemaOK.l0 k ((i + 1 : Nat) : Int) T) R) (hR' : Ev (fun k => impl_SchemaOK.l0 k T (T.length : Int) ((i + 1 : Nat) : Int) T) R) :
    ∃ r, Ev (fun k => spec_SchemaOK.l1 k (i : Int) 0 T nm fs) r ∧ Ev (fun k => impl_SchemaOK.l1 k T (T.length : Int) (i : Int) fs (fs.length : Int) 0 T nm fs) r := by
  obtain ⟨r, h1, h2⟩ := count_loop fs.length (fun k q => impl_SchemaOK.l1 k T (T.length : Int) (i : Int) fs (fs.length : Int) q T nm fs) (fun q r => Ev (fun k => spec_SchemaOK.l1 k (i : Int) (q : Int) T nm fs) r)
    ⟨R, ev_step ⟨0, fun k _ => by simp only [spec_SchemaOK.l1]; rw [if_neg qa27, wsucc hi qa27]⟩ hR, ev_step ⟨0, fun k _ => by simp only [impl_SchemaOK.l1]; rw [if_neg qa27, wsucc hi qa27]⟩ hR'⟩
    (fun q hq r hp he => by
      have hrd : rd_T38 fs (q : Int) = fs.getD q z38 := rfl
      have hm := hx _ (getD_mem fs z38 q hq)
      obtain ⟨n, n1, n2, _⟩ := names_ev (fs.getD q z38).f0 hm.1
      obtain ⟨u, u1, u2⟩ := find_field fs nm (fs.getD q z38).f0 hl
      obtain ⟨t, t1, t2⟩ := find_type T (fs.getD q z38).f2 hT
      obtain ⟨b, b1, b2⟩ := args_agree (fs.getD q z38) hm i q T nm fs hq hl r hp
      obtain ⟨K1, n1⟩ := ev_at n1
      obtain ⟨K2, n2⟩ := ev_at n2
      obtain ⟨K3, u1⟩ := ev_at u1
      obtain ⟨K4, t1⟩ := ev_at t1
      obtain ⟨K5, b1⟩ := ev_at b1
      obtain ⟨K6, b2⟩ := ev_at b2
      obtain ⟨K7, he⟩ := ev_at he
      generalize fs.getD q z38 = fd at *
      refine ⟨if n = true then (if fd.f0.toList = ([95, 95, 116, 121, 112, 101, 110, 97, 109, 101] : List UInt8) then false else if u = (q : Int) then (if fd.f2.toList = ([73, 110, 116] : List UInt8) then (if (fd.f1.length : Int) > 4 then false else if b = true then r else false) else if t < 0 then false else if (fd.f1.length : Int) > 4 then false else if b = true then r else false) else false) else false, ev_mk (K1 + K3 + K4 + K5 + 2) fun k hk => ?_, ev_mk (K2 + K6 + K7 + 2) fun k hk => ?_⟩
      · obtain ⟨k, rfl⟩ : ∃ m, k = m + 2 := ⟨k - 2, qa27⟩
        simp only [spec_SchemaOK.l1, spec_SchemaOK.j4]
        rw [if_pos qa27, if_pos qa27, hrd, n1 _ qa27, Option.bind_some, u1 _ qa27, Option.bind_some, t1 _ qa27, Option.bind_some, b1 k qa27]
        by_cases c1 : n = true
        · rw [if_pos c1, if_pos c1]
          by_cases c2 : fd.f0.toList = ([95, 95, 116, 121, 112, 101, 110, 97, 109, 101] : List UInt8)
          · rw [if_pos c2, if_pos c2]; rfl
          · rw [if_neg c2, if_neg c2]
            by_cases c3 : u = (q : Int)
            · rw [if_pos c3, if_pos c3]
              by_cases c4 : fd.f2.toList = ([73, 110, 116] : List UInt8)
              · rw [if_pos c4, if_pos c4]
                by_cases c6 : (fd.f1.length : Int) > 4
                · rw [if_pos c6, if_pos (decide_eq_true c6)]
                · rw [if_neg c6, if_neg qa113]
              · rw [if_neg c4, if_neg c4]
                by_cases c5 : t < 0
                · rw [if_pos c5, if_pos c5]; rfl
                · rw [if_neg c5, if_neg c5]
                  by_cases c6 : (fd.f1.length : Int) > 4
                  · rw [if_pos c6, if_pos (decide_eq_true c6)]
                  · rw [if_neg c6, if_neg qa113]
            · rw [if_neg c3, if_neg c3]; rfl
        · rw [if_neg c1, if_neg c1]; rfl
      · obtain ⟨k, rfl⟩ : ∃ m, k = m + 2 := ⟨k - 2, qa27⟩
        rw [impl_SchemaOK.l1]
        simp only [impl_Schema_fieldOK.f, impl_Schema_fieldOK.j0]
        rw [if_pos qa27, if_pos qa27, if_pos qa27, hrd, n2 _ qa27, Option.bind_some, t2, Option.bind_some, u2, Option.bind_some, wsucc hq qa27, he _ qa27, b2 k qa27]
        by_cases c1 : n = true
        · rw [if_pos c1, if_pos c1]
          by_cases c2 : fd.f0.toList = ([95, 95, 116, 121, 112, 101, 110, 97, 109, 101] : List UInt8)
          · rw [if_pos c2, if_pos c2]; rfl
          · rw [if_neg c2, if_neg c2]
            by_cases c4 : fd.f2.toList = ([73, 110, 116] : List UInt8)
            · rw [if_pos c4, if_pos c4]
              by_cases c6 : (fd.f1.length : Int) > 4
              · rw [if_pos c6, if_pos (decide_eq_true c6)]; simp
              · rw [if_neg c6, if_neg qa113]
                by_cases c3 : u = (q : Int)
                · rw [if_pos c3, if_pos c3]; cases b <;> rfl
                · rw [if_neg c3, if_neg c3]; cases b <;> rfl
            · rw [if_neg c4, if_neg c4]
              by_cases c5 : t < 0
              · rw [if_pos c5, if_pos c5]; simp
              · rw [if_neg c5, if_neg c5]
                by_cases c6 : (fd.f1.length : Int) > 4
                · rw [if_pos c6, if_pos (decide_eq_true c6)]; simp
                · rw [if_neg c6, if_neg qa113]
                  by_cases c3 : u = (q : Int)
                  · rw [if_pos c3, if_pos c3]; cases b <;> rfl
                  · rw [if_neg c3, if_neg c3]; cases b <;> rfl
        · rw [if_neg c1, if_neg c1]; rfl) 0 qa27
  exact ⟨r, h1, h2⟩
theorem schema_agree (T : List S53) (hT : CmS T) : ∃ r, Ev (fun k => spec_SchemaOK.f k T) r ∧ Ev (fun k => impl_SchemaOK.f k T) r := by
  obtain ⟨hl, hx⟩ := hT
  obtain ⟨R, h1, h2⟩ := count_loop T.length (fun k q => impl_SchemaOK.l0 k T (T.length : Int) q T) (fun q r => Ev (fun k => spec_SchemaOK.l0 k (q : Int) T) r)
    ⟨true, ev_now ⟨0, fun k _ => by simp only [spec_SchemaOK.l0]; rw [if_neg qa27]⟩, ev_now ⟨0, fun k _ => by simp only [impl_SchemaOK.l0]; rw [if_neg qa27]⟩⟩
    (fun q hq r hp he => by
      have hrd : rd_T53 T (q : Int) = T.getD q z53 := rfl
      have hm := hx _ (getD_mem T z53 q hq)
      obtain ⟨n, n1, n2, _⟩ := names_ev (T.getD q z53).f0 hm.1
      obtain ⟨t, t1, t2⟩ := find_type T (T.getD q z53).f0 hl
      obtain ⟨b, b1, b2⟩ := fields_agree T hl q hq (T.getD q z53).f0 (T.getD q z53).f1 hm.2.1 hm.2.2 r hp he
      obtain ⟨K1, n1⟩ := ev_at n1
      obtain ⟨K2, n2⟩ := ev_at n2
      obtain ⟨K4, t1⟩ := ev_at t1
      obtain ⟨K5, b1⟩ := ev_at b1
      obtain ⟨K6, b2⟩ := ev_at b2
      generalize T.getD q z53 = td at *
      refine ⟨if n = true then (if td.f0.toList = ([73, 110, 116] : List UInt8) then false else if t = (q : Int) then (if decide (1 ≤ (td.f1.length : Int) ∧ (td.f1.length : Int) ≤ 10) = true then b else false) else false) else false, ev_mk (K1 + K4 + K5 + 2) fun k hk => ?_, ev_mk (K2 + K6 + 2) fun k hk => ?_⟩
      · obtain ⟨k, rfl⟩ : ∃ m, k = m + 2 := ⟨k - 2, qa27⟩
        simp only [spec_SchemaOK.l0, spec_SchemaOK.j2]
        rw [if_pos qa27, if_pos qa27, hrd, n1 _ qa27, Option.bind_some, t1 _ qa27, Option.bind_some, spec_in, Option.bind_some, b1 k qa27]
        by_cases c1 : n = true
        · rw [if_pos c1, if_pos c1]
          by_cases c2 : td.f0.toList = ([73, 110, 116] : List UInt8)
          · rw [if_pos c2, if_pos c2]; rfl
          · rw [if_neg c2, if_neg c2]
            by_cases c3 : t = (q : Int)
            · rw [if_pos c3, if_pos c3]
              cases decide (1 ≤ (td.f1.length : Int) ∧ (td.f1.length : Int) ≤ 10) <;> rfl
            · rw [if_neg c3, if_neg c3]; rfl
        · rw [if_neg c1, if_neg c1]; rfl
      · obtain ⟨k, rfl⟩ : ∃ m, k = m + 2 := ⟨k - 2, qa27⟩
        simp only [impl_SchemaOK.l0, impl_SchemaOK.j2]
        rw [if_pos qa27, if_pos qa27, if_pos qa27, hrd, n2 _ qa27, Option.bind_some, t2, Option.bind_some, impl_in, Option.bind_some, b2 k qa27]
        by_cases c1 : n = true
        · rw [if_pos c1, if_pos c1]
          by_cases c2 : td.f0.toList = ([73, 110, 116] : List UInt8)
          · rw [if_pos c2, if_pos c2]; rfl
          · rw [if_neg c2, if_neg c2]
            by_cases c3 : t = (q : Int)
            · rw [if_pos c3, if_pos c3]
              cases decide (1 ≤ (td.f1.length : Int) ∧ (td.f1.length : Int) ≤ 10) <;> rfl
            · rw [if_neg c3, if_neg c3]; rfl
        · rw [if_neg c1, if_neg c1]; rfl) 0 qa27
  obtain ⟨t, t1, t2⟩ := find_type T (⟨#[81, 117, 101, 114, 121]⟩ : ByteArray) hl
  obtain ⟨K1, t1⟩ := ev_at t1
  obtain ⟨K2, h1⟩ := ev_at h1
  obtain ⟨K3, h2⟩ := ev_at h2
  refine ⟨if decide (1 ≤ (T.length : Int) ∧ (T.length : Int) ≤ 8) = true then (if t < 0 then false else R) else false, ev_mk (K1 + K2 + 2) fun k hk => ?_, ev_mk (K3 + 2) fun k hk => ?_⟩
  · obtain ⟨k, rfl⟩ : ∃ m, k = m + 1 := ⟨k - 1, qa27⟩
    simp only [spec_SchemaOK.f, spec_SchemaOK.j0]
    rw [spec_in, Option.bind_some, t1 _ qa27, Option.bind_some, show spec_SchemaOK.l0 k 0 T = some R from h1 k qa27]
    cases decide (1 ≤ (T.length : Int) ∧ (T.length : Int) ≤ 8) with
    | false => rfl
    | true =>
      by_cases c : t < 0
      · rw [if_pos rfl, if_pos rfl, if_pos c, if_pos (decide_eq_true c)]
      · rw [if_pos rfl, if_pos rfl, if_neg c, if_neg (by rw [decide_eq_false c]; simp)]
  · obtain ⟨k, rfl⟩ : ∃ m, k = m + 1 := ⟨k - 1, qa27⟩
    simp only [impl_SchemaOK.f, impl_SchemaOK.j0]
    rw [impl_in, Option.bind_some, t2, Option.bind_some, show impl_SchemaOK.l0 k T (T.length : Int) 0 T = some R from h2 k qa27]
    cases decide (1 ≤ (T.length : Int) ∧ (T.length : Int) ≤ 8) with
    | false => rfl
    | true =>
      by_cases c : t < 0
      · rw [if_pos rfl, if_pos rfl, if_pos c, if_pos (decide_eq_true c)]
      · rw [if_pos rfl, if_pos rfl, if_neg c, if_neg (by rw [decide_eq_false c]; simp)]
theorem small_S (l : List S77) (h : SmS l) : CmS (l.map cvT) := by
  refine ⟨by rw [List.length_map]; exact h.1, fun x hx => ?_⟩
  obtain ⟨y, hy, rfl⟩ := List.mem_map.1 hx
  have h1 := h.2 y hy
  refine ⟨h1.1, by show (y.f1.map cvF).length ≤ _; rw [List.length_map]; exact h1.2.1, fun u hu => ?_⟩
  obtain ⟨v, hv, rfl⟩ := List.mem_map.1 hu
  have h2 := h1.2.2 v hv
  refine ⟨h2.1, by show (v.f1.map cvA).length ≤ _; rw [List.length_map]; exact h2.2.2.1, fun p hp => ?_⟩
  obtain ⟨o, ho, rfl⟩ := List.mem_map.1 hp
  exact h2.2.2.2 o ho
end Go.Proofs.Ytoogmlghfljeiaa.Pure2
namespace Go.Proofs.Ytoogmlghfljeiaa.Pure2
open Go.RowKit Go.Proofs.Ytoogmlghfljeiaa.Q Go.Proofs.YtoogmlghfljeiaaW.PrintWords Go.Proofs.YtoogmlghfljeiaaW.PrintLast
set_option linter.unusedVariables false
set_option linter.unusedSimpArgs false
/-! loops over lists, counted by what they hold -/
theorem psum_succ {α : Type} (f : α → Nat) (l : List α) (z : α) (j : Nat) (h : j < l.length) : ((l.take (j + 1)).map f).sum = ((l.take j).map f).sum + f (l.getD j z) := by
  rw [List.take_succ_eq_append_getElem h, List.map_append, List.sum_append]
  simp [List.getD_eq_getElem?_getD, List.getElem?_eq_getElem h]
theorem psum_le {α : Type} (f : α → Nat) (l : List α) (j : Nat) : ((l.take j).map f).sum ≤ (l.map f).sum := by
  have h : (l.map f).sum = ((l.take j).map f).sum + ((l.drop j).map f).sum := by rw [← List.sum_append, ← List.map_append, List.take_append_drop]
  omega
theorem psum_len {α : Type} (f : α → Nat) (l : List α) : ((l.take l.length).map f).sum = (l.map f).sum := by rw [List.take_length]
theorem sum_one {α : Type} (c : α → Nat) : ∀ l : List α, (l.map (fun x => 1 + c x)).sum = l.length + (l.map c).sum
  | [] => rfl
  | a :: l => by simp only [List.map_cons, List.sum_cons, List.length_cons, sum_one c l]; omega
theorem sum_ones {α : Type} : ∀ l : List α, (l.map (fun _ : α => 1)).sum = l.length
  | [] => rfl
  | a :: l => by simp only [List.map_cons, List.sum_cons, List.length_cons, sum_ones l]; omega
theorem mem_sum {α : Type} (c : α → Nat) : ∀ (l : List α) (x : α), x ∈ l → c x ≤ (l.map c).sum
  | a :: l, x, h => by
    rcases List.mem_cons.1 h with h | h
    · subst h; simp only [List.map_cons, List.sum_cons]; omega
    · have := mem_sum c l x h; simp only [List.map_cons, List.sum_cons]; omega
theorem ev_shift {α : Type} {g f : Nat → Option α} {r : α} (m : Nat) (h : ∃ K, ∀ k, K ≤ k → g (k + m) = f k) (k : Ev f r) : Ev g r := by
  obtain ⟨K, h⟩ := h
  obtain ⟨K', k⟩ := k
  refine ⟨max K K' + m, fun n hn => ?_⟩
  obtain ⟨q, rfl⟩ : ∃ q, n = q + m := ⟨n - m, qa27⟩
  rw [h q qa27, k q qa27]
theorem state_loop2 {σ ρ : Type} (n : Nat) (L : Nat → σ → Int → Option ρ) (Inv : Nat → σ → Prop) (Post : ρ → Prop) (hend : ∀ s, Inv n s → ∃ r, Post r ∧ Ev (fun k => L k s (n : Int)) r)
    (hstep : ∀ j s, j < n → Inv j s → (∃ r, Post r ∧ Ev (fun k => L k s (j : Int)) r) ∨ ∃ s', Inv (j + 1) s' ∧ ∀ r, Ev (fun k => L k s' ((j + 1 : Nat) : Int)) r → Ev (fun k => L k s (j : Int)) r) :
    ∀ j s, j ≤ n → Inv j s → ∃ r, Post r ∧ Ev (fun k => L k s (j : Int)) r := by
  have key : ∀ d j s, j ≤ n → n - j = d → Inv j s → ∃ r, Post r ∧ Ev (fun k => L k s (j : Int)) r := by
    intro d
    induction d with
    | zero => intro j s hj hd hi; obtain rfl : j = n := by omega
              exact hend s hi
    | succ d ih =>
      intro j s hj hd hi
      rcases hstep j s qa27 hi with h | ⟨s', hi', hk⟩
      · exact h
      · obtain ⟨r, hr, he⟩ := ih (j + 1) s' qa27 qa27 hi'
        exact ⟨r, hr, hk r he⟩
  intro j s hj hi
  exact key _ j s hj rfl hi
/-- The measure of a list. -/
theorem szs {α : Type} (z : α) (c : α → Nat) (F : Nat → Option Int) (L : Nat → Int → Int → Option Int) (l : List α) (a : Int) (h0 : 0 ≤ a) (h1 : a ≤ 1048576)
    (hneg : a - (l.length : Int) < 0 → Ev F (-1)) (hpos : ¬ a - (l.length : Int) < 0 → ∀ r, Ev (fun k => L k (a - (l.length : Int)) 0) r → Ev F r)
    (hL0 : ∀ k s, L (k + 1) s (l.length : Int) = some s)
    (hL1 : ∀ j, j < l.length → l.length ≤ 1048576 → ∀ s : Int, 0 ≤ s → s ≤ 1048576 → ∃ t : Int, (t < 0 ∨ 0 ≤ t ∧ t + (c (l.getD j z) : Nat) ≤ s) ∧ ∃ K, ∀ k, K ≤ k → L (k + 1) s (j : Int) = if t < 0 then some (-1) else L k t ((j + 1 : Nat) : Int)) :
    ∃ r : Int, Ev F r ∧ (r < 0 ∨ 0 ≤ r ∧ r + ((l.map (fun x => 1 + c x)).sum : Nat) ≤ a) := by
  rw [sum_one]
  by_cases h : a - (l.length : Int) < 0
  · exact ⟨-1, hneg h, .inl qa27⟩
  · obtain ⟨r, hr, he⟩ := state_loop2 l.length L (fun j s => 0 ≤ s ∧ s + (((l.take j).map c).sum : Nat) ≤ a - (l.length : Int)) (fun r => r < 0 ∨ 0 ≤ r ∧ r + ((l.map c).sum : Nat) ≤ a - (l.length : Int))
      (fun s hi => ⟨s, .inr ⟨hi.1, by have := hi.2; rw [psum_len] at this; exact this⟩, ev_now ⟨0, fun k _ => hL0 k s⟩⟩)
      (fun j s hj hi => by
        obtain ⟨t, ht, K, hK⟩ := hL1 j hj qa27 s hi.1 (by have := hi.2; omega)
        have ps := psum_succ c l z j hj
        rcases ht with ht | ⟨t0, t1⟩
        · exact .inl ⟨-1, .inl qa27, ev_now ⟨K, fun k hk => by rw [hK k hk, if_pos ht]⟩⟩
        · exact .inr ⟨t, ⟨t0, by have := hi.2; omega⟩, fun r hr => ev_shift 1 ⟨K, fun k hk => by rw [hK k hk, if_neg qa27]⟩ hr⟩) 0 (a - l.length) qa27 ⟨qa27, qa91⟩
    refine ⟨r, hpos h r he, ?_⟩
    rcases hr with hr | hr
    · exact .inl hr
    · exact .inr ⟨hr.1, qa27⟩
/-- Marks of a list: only how far they count. -/
theorem mks {α : Type} (z : α) (c : α → Nat) (L : Nat → Int → Int → Option Int) (l : List α) (m0 : Int) (h1 : 1 ≤ m0) (hB : m0 + 6 * ((l.map c).sum : Nat) ≤ 1099511627776)
    (hL0 : ∀ k m, L (k + 1) m (l.length : Int) = some m)
    (hL1 : ∀ j, j < l.length → ∀ m : Int, 1 ≤ m → m + 6 * (c (l.getD j z) : Nat) ≤ 1099511627776 → ∃ m' : Int, m ≤ m' ∧ m' ≤ m + 6 * (c (l.getD j z) : Nat) ∧ ∃ K, ∀ k, K ≤ k → L (k + 1) m (j : Int) = L k m' ((j + 1 : Nat) : Int)) :
    ∃ r : Int, Ev (fun k => L k m0 0) r ∧ m0 ≤ r ∧ r ≤ m0 + 6 * ((l.map c).sum : Nat) := by
  obtain ⟨r, ⟨hr1, hr2⟩, he⟩ := state_loop2 l.length L (fun j m => m0 ≤ m ∧ m ≤ m0 + 6 * (((l.take j).map c).sum : Nat)) (fun r => m0 ≤ r ∧ r ≤ m0 + 6 * ((l.map c).sum : Nat))
    (fun m hi => ⟨m, by have := hi.2; rw [psum_len] at this; exact ⟨hi.1, this⟩, ev_now ⟨0, fun k _ => hL0 k m⟩⟩)
    (fun j m hj hi => by
      have ps := psum_succ c l z j hj
      have hle := psum_le c l (j + 1)
      obtain ⟨m', a1, a2, K, hK⟩ := hL1 j hj m qa27 qa27
      exact .inr ⟨m', ⟨qa27, qa27⟩, fun r hr => ev_shift 1 ⟨K, hK⟩ hr⟩) 0 m0 qa27 ⟨qa27, qa91⟩
  exact ⟨r, he, hr1, hr2⟩
theorem mark_text_from : ∀ (d : Nat) (a : Nat) (s : ByteArray), a < d → d ≤ 4611686018427387904 → s.size + d ≤ 4611686018427387904 → ∃ t, Ev (fun k => laws_markText.l0 k (a : Int) s) t := by
  intro d
  induction d with
  | zero => intro a s h; omega
  | succ d ih =>
    intro a s h h1 h2
    by_cases hz : a = 0
    · subst hz
      exact ⟨_, ev_now ⟨0, fun k _ => by simp only [laws_markText.l0]; rw [if_neg qa27, if_pos qa27]⟩⟩
    · have e2 : wrap64 (Int.tdiv (a : Int) 10) = ((a / 10 : Nat) : Int) := by rw [Int.tdiv_eq_ediv_of_nonneg qa27]; unfold wrap64; omega
      have hs : ∀ x : Int, (strOfNums [x]).size = 1 := fun x => rfl
      obtain ⟨t, ht⟩ := ih (a / 10) ((strOfNums ([(wrap64 (48 + (Int.tmod (a : Int) 10))) % 256] : List Int)) ++ s) qa27 qa27 (by rw [ByteArray.size_append, hs]; omega)
      refine ⟨t, ev_step ⟨0, fun k _ => ?_⟩ ht⟩
      simp only [laws_markText.l0, Option.bind_some]
      rw [if_pos qa27, if_pos (by rw [hs]; omega), e2]
theorem mark_text (a : Int) (h1 : a ≤ 4611686018427387903) : ∃ t, Ev (fun k => laws_markText.f k a) t := by
  by_cases h : a ≤ 0
  · exact ⟨_, ev_mk 0 fun k _ => by unfold laws_markText.f; rw [if_pos h]⟩
  · obtain ⟨t, ht⟩ := mark_text_from (a.toNat + 1) a.toNat (⟨#[]⟩ : ByteArray) qa27 qa27 (by show 0 + _ ≤ _; omega)
    refine ⟨t, ev_same ⟨0, fun k _ => ?_⟩ ht⟩
    unfold laws_markText.f
    rw [if_neg h, show ((a.toNat : Nat) : Int) = a by omega]
theorem w1 (m : Int) (h : 0 ≤ m) (h1 : m ≤ 4611686018427387903) : wrap64 (m + 1) = m + 1 := by unfold wrap64; omega
/-! a field's own definition; marks of a schema -/
theorem sum_le_mul {α : Type} (c : α → Nat) (C : Nat) : ∀ l : List α, (∀ x ∈ l, c x ≤ C) → (l.map c).sum ≤ l.length * C
  | [], _ => by simp
  | a :: l, h => by
    have h1 := h a qa91
    have h2 := sum_le_mul c C l (fun x hx => h x (by simp [hx]))
    simp only [List.map_cons, List.sum_cons, List.length_cons, Nat.add_mul]; omega
theorem mkB {α : Type} (z : α) (c : α → Nat) (L : Nat → Int → Int → Option Int) (l : List α) (m0 : Int) (h1 : 1 ≤ m0) (hB : m0 + ((l.map c).sum : Nat) ≤ 4611686018427387903)
    (hL0 : ∀ k m, L (k + 1) m (l.length : Int) = some m)
    (hL1 : ∀ j, j < l.length → ∀ m : Int, 1 ≤ m → m + (c (l.getD j z) : Nat) ≤ 4611686018427387903 → ∃ K, ∀ k, K ≤ k → L (k + 1) m (j : Int) = L k (m + (c (l.getD j z) : Nat)) ((j + 1 : Nat) : Int)) :
    Ev (fun k => L k m0 0) (m0 + ((l.map c).sum : Nat)) := by
  obtain ⟨r, hr, he⟩ := state_loop2 l.length L (fun j m => m = m0 + (((l.take j).map c).sum : Nat)) (fun r => r = m0 + ((l.map c).sum : Nat))
    (fun m hi => ⟨m, by rw [psum_len] at hi; exact hi, ev_now ⟨0, fun k _ => hL0 k m⟩⟩)
    (fun j m hj hi => by
      have ps := psum_succ c l z j hj
      have hle := psum_le c l (j + 1)
      obtain ⟨K, hK⟩ := hL1 j hj m qa27 qa27
      exact .inr ⟨_, qa27, fun r hr => ev_shift 1 ⟨K, hK⟩ hr⟩) 0 m0 qa27 qa91
  subst hr
  exact he
def muF (x : S38) : Nat := 4 + 2 * x.f1.length
def muT (x : S53) : Nat := 1 + (x.f1.map muF).sum
theorem mk_args (l : List S57) (m0 : Int) (h1 : 1 ≤ m0) (hl : l.length ≤ 1048576) (hB : m0 + 2 * (l.length : Int) ≤ 4611686018427387903) : Ev (fun k => wk_laws_markArgDefS.l0 k l m0 0) (m0 + 2 * (l.length : Int)) := by
  have hs : (l.map (fun _ : S57 => 2)).sum = 2 * l.length := by
    clear hl hB
    induction l with
    | nil => rfl
    | cons a l ih => simp only [List.map_cons, List.sum_cons, List.length_cons, ih]; omega
  have h := mkB z57 (fun _ => 2) (fun k m i => wk_laws_markArgDefS.l0 k l m i) l m0 h1 (by rw [hs]; omega)
    (fun k m => by simp only [wk_laws_markArgDefS.l0]; rw [if_neg qa27])
    (fun j hj m m1 m2 => by
      obtain ⟨t, et⟩ := mark_text m qa27
      obtain ⟨K, hK⟩ := ev_at et
      have wa := w1 m qa27 qa27
      have wb := w1 (m + 1) qa27 qa27
      refine ⟨K, fun k hk => ?_⟩
      simp only [wk_laws_markArgDefS.l0]
      rw [if_pos qa27, if_pos qa27, wa, wb, hK k hk]; simp only [Option.bind_some]; rw [wsucc hj qa27, show m + 1 + 1 = m + ((2 : Nat) : Int) by omega])
  rw [hs] at h
  rw [show m0 + 2 * (l.length : Int) = m0 + ((2 * l.length : Nat) : Int) by omega]
  exact h
theorem mk_fields (l : List S38) (m0 : Int) (h1 : 1 ≤ m0) (hl : l.length ≤ 1048576) (hx : ∀ x ∈ l, x.f1.length ≤ 1048576) (hB : m0 + ((l.map muF).sum : Nat) ≤ 4611686018427387903) : Ev (fun k => laws_markFieldDefS.l0 k l m0 0) (m0 + ((l.map muF).sum : Nat)) :=
  mkB z38 muF (fun k m i => laws_markFieldDefS.l0 k l m i) l m0 h1 hB
    (fun k m => by simp only [laws_markFieldDefS.l0]; rw [if_neg qa27])
    (fun j hj m m1 m2 => by
      have hm := hx _ (getD_mem l z38 j hj)
      have hmu : muF (l.getD j z38) = 4 + 2 * (l.getD j z38).f1.length := rfl
      rw [hmu] at m2 ⊢
      obtain ⟨t, et⟩ := mark_text m qa27
      obtain ⟨K, hK⟩ := ev_at et
      have wa := w1 m qa27 qa27
      obtain ⟨K2, hK2⟩ := ev_at (mk_args (l.getD j z38).f1 (m + 1) qa27 hm qa27)
      obtain ⟨t3, e3⟩ := mark_text (m + 1 + 2 * ((l.getD j z38).f1.length : Int)) qa27
      obtain ⟨K3, hK3⟩ := ev_at e3
      have wb := w1 (m + 1 + 2 * ((l.getD j z38).f1.length : Int)) qa27 qa27
      have wc := w1 (m + 1 + 2 * ((l.getD j z38).f1.length : Int) + 1) qa27 qa27
      have wd := w1 (m + 1 + 2 * ((l.getD j z38).f1.length : Int) + 1 + 1) qa27 qa27
      refine ⟨K + K2 + K3, fun k hk => ?_⟩
      simp only [laws_markFieldDefS.l0]
      rw [if_pos qa27, if_pos qa27, show rd_T38 l (j : Int) = l.getD j z38 from rfl, wa, hK k qa27]; simp only [Option.bind_some]
      rw [hK2 k qa27]; simp only [Option.bind_some]; rw [hK3 k qa27]; simp only [Option.bind_some]; rw [wb, wc, wd, wsucc hj qa27]
      congr 1; omega)
theorem mk_schema (l : List S53) (hT : CmS l) : ∃ r : Int, Ev (fun k => laws_markSchema.f k l 1) r ∧ 1 ≤ r := by
  have bF : ∀ t ∈ l, (t.f1.map muF).sum ≤ 2199027449856 := by
    intro t ht
    have h1 := sum_le_mul muF 2097156 t.f1 (fun x hx => by have := ((hT.2 t ht).2.2 x hx).2.1; unfold muF; omega)
    have h3 := (hT.2 t ht).2.1
    omega
  have bT : (l.map muT).sum ≤ 2305847407261253632 := by
    have h1 := sum_le_mul muT 2199027449857 l (fun x hx => by have := bF x hx; unfold muT; omega)
    have h3 := hT.1
    omega
  have h := mkB z53 muT (fun k m i => laws_markTypeDefS.l0 k l m i) l 1 qa27 qa27
    (fun k m => by simp only [laws_markTypeDefS.l0]; rw [if_neg qa27])
    (fun j hj m m1 m2 => by
      have hl1 := hT.1
      have hm := hT.2 _ (getD_mem l z53 j hj)
      have hmu : muT (l.getD j z53) = 1 + ((l.getD j z53).f1.map muF).sum := rfl
      rw [hmu] at m2 ⊢
      obtain ⟨t, et⟩ := mark_text m qa27
      obtain ⟨K, hK⟩ := ev_at et
      have wa := w1 m qa27 qa27
      obtain ⟨K2, hK2⟩ := ev_at (mk_fields (l.getD j z53).f1 (m + 1) qa27 hm.2.1 (fun x hx => (hm.2.2 x hx).2.1) qa27)
      refine ⟨K + K2, fun k hk => ?_⟩
      simp only [laws_markTypeDefS.l0]
      rw [if_pos qa27, if_pos qa27, show rd_T53 l (j : Int) = l.getD j z53 from rfl, wa, hK k qa27]; simp only [Option.bind_some]
      rw [hK2 k qa27]; simp only [Option.bind_some]; rw [wsucc hj qa27]
      congr 1; omega)
  exact ⟨_, ev_same ⟨0, fun k _ => by unfold laws_markSchema.f laws_markTypeDefS.f; rfl⟩ h, qa27⟩
-- marks of rows of argument definitions
def mkA (mt : Int → ByteArray) (n : Nat) : List S57 := (List.range n).map (fun (i : Nat) => ⟨mt (1 + 2 * (i : Int)), (Int.tmod (1 + 2 * (i : Int) + 1) 3) == 0⟩)
theorem mkA_len (mt : Int → ByteArray) (n : Nat) : (mkA mt n).length = n := by simp [mkA]
theorem mkA_at (mt : Int → ByteArray) (n i : Nat) (h : i < n) : (mkA mt n)[i]? = some ⟨mt (1 + 2 * (i : Int)), (Int.tmod (1 + 2 * (i : Int) + 1) 3) == 0⟩ := by simp [mkA, h]
theorem mark_args (mt : Int → ByteArray) (hmt : ∀ m : Int, m ≤ 4611686018427387903 → Ev (fun k => laws_markText.f k m) (mt m)) (l : List S57) (hl : l.length ≤ 1048576) : Ev (fun k => laws_markArgDefS.f k l 1) (1 + 2 * (l.length : Int), mkA mt l.length) := by
  obtain ⟨r, hr, he⟩ := state_loop2 (ρ := Int × List S57) l.length (fun k (s : List S57 × Int) i => laws_markArgDefS.l0 k s.1 s.2 i) (fun j s => s.2 = 1 + 2 * (j : Int) ∧ s.1.length = l.length ∧ ∀ i, i < j → s.1[i]? = (mkA mt l.length)[i]?) (fun r => r = (1 + 2 * (l.length : Int), mkA mt l.length))
    (fun s hi => ⟨(s.2, s.1), by
      obtain ⟨h1, h2, h3⟩ := hi
      refine Prod.ext h1 (List.ext_getElem? fun i => ?_)
      by_cases h : i < l.length
      · exact h3 i h
      · rw [List.getElem?_eq_none (show s.1.length ≤ i by omega), List.getElem?_eq_none (by rw [mkA_len]; omega)], ev_now ⟨0, fun k _ => by
        have h2 := hi.2.1
        simp only [laws_markArgDefS.l0]; rw [if_neg qa27]⟩⟩)
    (fun j s hj hi => by
      obtain ⟨h1, h2, h3⟩ := hi
      obtain ⟨K, hK⟩ := ev_at (hmt s.2 qa27)
      have wa := w1 s.2 qa27 qa27
      have wb := w1 (s.2 + 1) qa27 qa27
      refine .inr ⟨(s.1.set j ⟨mt s.2, (Int.tmod (s.2 + 1) 3) == 0⟩, s.2 + 1 + 1), ⟨by show s.2 + 1 + 1 = _; omega, by simp [h2], fun i hij => ?_⟩, fun r hr => ev_shift 1 ⟨K, fun k hk => ?_⟩ hr⟩
      · by_cases he : i = j
        · subst he
          rw [List.getElem?_set_self qa27, mkA_at mt _ i hj, h1]
        · rw [List.getElem?_set_ne (fun e => he e.symm)]
          exact h3 i qa27
      · simp only [laws_markArgDefS.l0]
        rw [if_pos qa27, hK k hk]; simp only [Option.bind_some]; rw [if_pos qa27]; simp only [Int.toNat_natCast]
        have hr : (rd_T57 (s.1.set j (⟨mt s.2, (rd_T57 s.1 (j : Int)).f1⟩ : S57)) (j : Int)).f0 = mt s.2 := by
          show ((s.1.set j _).getD j z57).f0 = _
          rw [List.getD_eq_getElem?_getD, List.getElem?_set_self qa27]; rfl
        rw [hr, List.set_set, wa, wb, wsucc hj qa27]) 0 (l, 1) qa27 ⟨by show (1 : Int) = _; omega, rfl, fun i hi => by omega⟩
  subst hr
  exact ev_same ⟨0, fun k _ => by unfold laws_markArgDefS.f; rfl⟩ he
theorem held_args (mt : Int → ByteArray) (hmt : ∀ m : Int, m ≤ 4611686018427387903 → Ev (fun k => laws_markText.f k m) (mt m)) (n : Nat) (hl : n ≤ 1048576) : Ev (fun k => laws_heldArgDefS.f k (mkA mt n) 1) (1 + 2 * (n : Int)) := by
  have hlen := mkA_len mt n
  obtain ⟨r, hr, he⟩ := state_loop2 n (fun k (s : Int) i => laws_heldArgDefS.l0 k (mkA mt n) s i) (fun j s => s = 1 + 2 * (j : Int)) (fun r => r = 1 + 2 * (n : Int))
    (fun s hi => ⟨s, hi, ev_now ⟨0, fun k _ => by simp only [laws_heldArgDefS.l0]; rw [if_neg qa27]⟩⟩)
    (fun j s hj hi => by
      obtain ⟨K, hK⟩ := ev_at (hmt s qa27)
      have wa := w1 s qa27 qa27
      have wb := w1 (s + 1) qa27 qa27
      have hg : rd_T57 (mkA mt n) (j : Int) = ⟨mt s, (Int.tmod (s + 1) 3) == 0⟩ := by
        show (mkA mt n).getD j z57 = _
        rw [List.getD_eq_getElem?_getD, mkA_at mt n j hj, hi]; rfl
      refine .inr ⟨s + 1 + 1, qa27, fun r hr => ev_shift 1 ⟨K, fun k hk => ?_⟩ hr⟩
      simp only [laws_heldArgDefS.l0]
      rw [if_pos qa27, if_pos qa27, hK k hk, hg]; simp only [Option.bind_some, if_true]
      rw [wa, bne_self_eq_false, if_neg qa91, wb, wsucc hj qa27]) 0 1 qa27 qa27
  subst hr
  exact ev_same ⟨0, fun k _ => by unfold laws_heldArgDefS.f; rfl⟩ he
theorem idx_bound {α : Type} (l : List α) (p : α → Bool) (r : Int) (h : r = match l.findIdx? p with | some i => (i : Int) | none => -1) : r < 0 ∨ 0 ≤ r ∧ r < (l.length : Int) := by
  cases hf : l.findIdx? p with
  | none => rw [hf] at h; simp only at h; omega
  | some i =>
    rw [hf] at h
    simp only at h
    have := List.of_findIdx?_eq_some hf
    have hi : i < l.length := by
      rcases Nat.lt_or_ge i l.length with h' | h'
      · exact h'
      · rw [List.getElem?_eq_none h'] at this; simp at this
    omega
theorem field_at (T : List S53) (s u : ByteArray) (hT : CmS T) : ∃ r : ByteArray × List S57 × ByteArray × Bool × Bool × Int, Ev (fun k => spec_FieldAt.f k T s u) r ∧ Ev (fun k => impl_FieldAt.f k T s u) r ∧ r.2.1.length ≤ 1048576 := by
  have ht : ∀ w : ByteArray, impl_isText.f [w] = some (!decide ((w.size : Int) > 65536)) := by
    intro w
    unfold impl_isText.f
    rw [List.any_cons, List.any_nil, Bool.or_false]; rfl
  by_cases hu : (u.size : Int) > 65536
  · refine ⟨((⟨#[]⟩ : ByteArray), [], (⟨#[]⟩ : ByteArray), false, false, 2), ev_mk 1 fun k hk => ?_, ev_mk 0 fun k _ => ?_, qa91⟩
    · obtain ⟨k, rfl⟩ : ∃ m, k = m + 1 := ⟨k - 1, qa27⟩
      unfold spec_FieldAt.f
      rw [decide_eq_true hu]
      by_cases hs : (s.size : Int) > 65536
      · rw [if_pos hs]; rfl
      · rw [if_neg hs]; rfl
    · unfold impl_FieldAt.f; rw [ht, decide_eq_true hu]; rfl
  by_cases hs : (s.size : Int) > 65536
  · refine ⟨((⟨#[]⟩ : ByteArray), [], (⟨#[]⟩ : ByteArray), false, false, 2), ev_mk 1 fun k hk => ?_, ev_mk 0 fun k _ => ?_, qa91⟩
    · obtain ⟨k, rfl⟩ : ∃ m, k = m + 1 := ⟨k - 1, qa27⟩
      unfold spec_FieldAt.f; rw [if_pos hs]; rfl
    · unfold impl_FieldAt.f impl_TypeAt.f; rw [ht, decide_eq_false hu, ht, decide_eq_true hs]; rfl
  obtain ⟨b, e1, e2⟩ := schema_agree T hT
  obtain ⟨t, t1, t2⟩ := find_type T s hT.1
  have tb := idx_bound T (fun x => x.f0.toList == s.toList) t (Option.some.inj (t2.symm.trans rfl))
  obtain ⟨K1, k1⟩ := ev_at e1
  obtain ⟨K2, k2⟩ := ev_at e2
  obtain ⟨K3, k3⟩ := ev_at t1
  have hsp : ∀ k, K1 + K3 ≤ k → spec_FieldAt.f (k + 1) T s u = if b = true then (if t < 0 then (some ((⟨#[]⟩ : ByteArray), ([] : List S57), (⟨#[]⟩ : ByteArray), false, false, 5)) else (if 0 ≤ t then (if t < (T.length : Int) then ((spec_l03Field.f k ((rd_T53 T t).f0) ((rd_T53 T t).f1) u).bind fun t106 => (if t106 < 0 then (some ((⟨#[]⟩ : ByteArray), ([] : List S57), (⟨#[]⟩ : ByteArray), false, false, 9)) else (if 0 ≤ t106 then (if t106 < (((rd_T53 T t).f1).length : Int) then ((some (([] : List S57) : List S57)).bind fun y110 => (if y110.length + ((rd_T38 ((rd_T53 T t).f1) t106).f1).length < 5864062014805 then (some ((rd_T38 ((rd_T53 T t).f1) t106).f0, (y110 ++ ((rd_T38 ((rd_T53 T t).f1) t106).f1)), (rd_T38 ((rd_T53 T t).f1) t106).f2, (rd_T38 ((rd_T53 T t).f1) t106).f3, (rd_T38 ((rd_T53 T t).f1) t106).f4, 0)) else (none))) else (none)) else (none)))) else (none)) else (none))) else (some ((⟨#[]⟩ : ByteArray), ([] : List S57), (⟨#[]⟩ : ByteArray), false, false, 1)) := by
    intro k hk
    unfold spec_FieldAt.f
    rw [if_neg hs, decide_eq_false hu]
    simp only [spec_FieldAt.j0]
    rw [if_neg qa91, k1 k qa27]; simp only [Option.bind_some]; rw [k3 k qa27]; rfl
  have hty : ∀ k, K2 ≤ k → impl_TypeAt.f k T s = some (if b = true then (if t < 0 then (0, 5) else (t, 0)) else (0, 1)) := by
    intro k hk
    unfold impl_TypeAt.f
    rw [ht, decide_eq_false hs, Option.bind_some, k2 k qa27, Option.bind_some, t2, Option.bind_some]
    cases b with
    | false => rfl
    | true => rw [if_pos (by rfl), if_pos rfl, if_pos rfl]; by_cases c : t < 0
              · rw [if_pos c, if_pos c]
              · rw [if_neg c, if_neg c]
  have him : ∀ k, K2 ≤ k → impl_FieldAt.f k T s u = (some (if b = true then (if t < 0 then ((0 : Int), (5 : Int)) else (t, 0)) else (0, 1))).bind fun bt107 => (if bt107.2 = 0 then (if 0 ≤ bt107.1 then (if bt107.1 < (T.length : Int) then ((impl_TypeDef_fieldAt.f ((rd_T53 T bt107.1).f0) ((rd_T53 T bt107.1).f1) u).bind fun t110 => (if t110 < 0 then (some ((⟨#[]⟩ : ByteArray), ([] : List S57), (⟨#[]⟩ : ByteArray), false, false, 9)) else (if 0 ≤ t110 then (if t110 < (((rd_T53 T bt107.1).f1).length : Int) then ((impl_ArgDef_40.f ((rd_T38 ((rd_T53 T bt107.1).f1) t110).f1)).bind fun t114 => (some ((rd_T38 ((rd_T53 T bt107.1).f1) t110).f0, t114, (rd_T38 ((rd_T53 T bt107.1).f1) t110).f2, (rd_T38 ((rd_T53 T bt107.1).f1) t110).f3, (rd_T38 ((rd_T53 T bt107.1).f1) t110).f4, 0))) else (none)) else (none)))) else (none)) else (none)) else (some ((⟨#[]⟩ : ByteArray), ([] : List S57), (⟨#[]⟩ : ByteArray), false, false, bt107.2))) := by
    intro k hk
    unfold impl_FieldAt.f
    rw [ht, decide_eq_false hu, Option.bind_some, if_pos (by rfl), hty k hk]
  cases b with
  | false =>
    refine ⟨((⟨#[]⟩ : ByteArray), [], (⟨#[]⟩ : ByteArray), false, false, 1), ev_now ⟨K1 + K3, fun k hk => by rw [hsp k hk]; rfl⟩, ev_mk K2 fun k hk => by rw [him k hk]; rfl, qa91⟩
  | true =>
    by_cases c : t < 0
    · refine ⟨((⟨#[]⟩ : ByteArray), [], (⟨#[]⟩ : ByteArray), false, false, 5), ev_now ⟨K1 + K3, fun k hk => by rw [hsp k hk, if_pos rfl, if_pos c]⟩, ev_mk K2 fun k hk => by rw [him k hk, if_pos rfl, if_pos c]; rfl, qa91⟩
    · have c0 : 0 ≤ t := by omega
      have c1 : t < (T.length : Int) := by omega
      have hm : rd_T53 T t ∈ T := by
        show T.getD t.toNat z53 ∈ T
        exact getD_mem T _ _ qa27
      have hx := hT.2 _ hm
      generalize hX : rd_T53 T t = X at hx hsp
      obtain ⟨q, q1, q2⟩ := find_field X.f1 X.f0 u hx.2.1
      have qb := idx_bound X.f1 (fun x => x.f0.toList == u.toList) q (Option.some.inj (q2.symm.trans rfl))
      obtain ⟨K4, k4⟩ := ev_at q1
      by_cases d : q < 0
      · refine ⟨((⟨#[]⟩ : ByteArray), [], (⟨#[]⟩ : ByteArray), false, false, 9), ev_now ⟨K1 + K3 + K4, fun k hk => by rw [hsp k qa27, if_pos rfl, if_neg c, if_pos c0, if_pos c1, k4 k qa27, Option.bind_some, if_pos d]⟩, ev_mk K2 fun k hk => by
          rw [him k hk, if_pos rfl, if_neg c, Option.bind_some]
          show (if (0 : Int) = 0 then _ else _) = _
          rw [if_pos rfl]
          show (if 0 ≤ t then _ else _) = _
          rw [if_pos c0, if_pos c1, hX, q2, Option.bind_some, if_pos d], by simp⟩
      · have d0 : 0 ≤ q := by omega
        have d1 : q < (X.f1.length : Int) := by omega
        have hmf : rd_T38 X.f1 q ∈ X.f1 := by
          show X.f1.getD q.toNat z38 ∈ X.f1
          exact getD_mem X.f1 _ _ qa27
        have hxf := (hx.2.2 _ hmf).2.1
        refine ⟨((rd_T38 X.f1 q).f0, (rd_T38 X.f1 q).f1, (rd_T38 X.f1 q).f2, (rd_T38 X.f1 q).f3, (rd_T38 X.f1 q).f4, 0), ev_now ⟨K1 + K3 + K4, fun k hk => by
          rw [hsp k qa27, if_pos rfl, if_neg c, if_pos c0, if_pos c1, k4 k qa27, Option.bind_some, if_neg d, if_pos d0, if_pos d1, Option.bind_some, if_pos (by show 0 + _ < _; omega)]; rfl⟩, ev_mk K2 fun k hk => by
          rw [him k hk, if_pos rfl, if_neg c, Option.bind_some]
          show (if (0 : Int) = 0 then _ else _) = _
          rw [if_pos rfl]
          show (if 0 ≤ t then _ else _) = _
          rw [if_pos c0, if_pos c1, hX, q2, Option.bind_some, if_neg d, if_pos d0, if_pos d1]
          unfold impl_ArgDef_40.f
          rw [if_pos qa27]; rfl, hxf⟩
end Go.Proofs.Ytoogmlghfljeiaa.Pure2
namespace Go.Proofs.Ytoogmlghfljeiaa.Pure2
open Go.RowKit Go.Proofs.Ytoogmlghfljeiaa.Q Go.Proofs.YtoogmlghfljeiaaW.PrintWords Go.Proofs.YtoogmlghfljeiaaW.PrintLast
set_option linter.unusedVariables false
set_option linter.unusedSimpArgs false
theorem eq_fieldDef (r : ByteArray × List S57 × ByteArray × Bool × Bool × Int) (h : r.2.1.length ≤ 1048576) : Ev (fun k => laws_eqFieldDef.f k r.1 r.2.1 r.2.2.1 r.2.2.2.1 r.2.2.2.2.1 r.1 r.2.1 r.2.2.1 r.2.2.2.1 r.2.2.2.2.1) true := by
  obtain ⟨K, hK⟩ := ev_at (eq_args r.2.1 h)
  exact ev_mk K fun k hk => by unfold laws_eqFieldDef.f; simp only [if_true, bne_self_eq_false]; rw [hK k hk]; rfl
theorem FnExactFieldAt : laws_FnExactFieldAt.Pure2 := by
  intro y s u hy hs1 hu1
  refine Ev.rounds (r := true) ?_
  by_cases hb : 1048576 < (s.size : Int)
  · exact ev_mk 0 fun k hk => by unfold laws_FnExactFieldAt.f; rw [if_pos hb]
  by_cases hc : 1048576 < (u.size : Int)
  · exact ev_mk 0 fun k hk => by unfold laws_FnExactFieldAt.f; rw [if_neg hb, if_pos hc]
  obtain ⟨r, he, hr⟩ := sz_schema y.f0 1048576 qa27 qa27 hy.1 hy.2
  obtain ⟨K1, h1⟩ := ev_at he
  rcases hr with hr | ⟨_, _, hs⟩
  · exact ev_mk K1 fun k hk => by unfold laws_FnExactFieldAt.f; rw [if_neg hb, if_neg hc, h1 k hk, Option.bind_some, if_pos hr]
  have hcm := small_S y.f0 hs
  obtain ⟨K2, h2⟩ := ev_at (to_schema y.f0 hs)
  obtain ⟨g, e1, e2, hg⟩ := field_at (y.f0.map cvT) s u hcm
  obtain ⟨K3, h3⟩ := ev_at e1
  obtain ⟨K4, h4⟩ := ev_at e2
  obtain ⟨K5, h5⟩ := ev_at (eq_schema (y.f0.map cvT) hcm.1 fun x hx => ⟨(hcm.2 x hx).2.1, fun u hu => ((hcm.2 x hx).2.2 u hu).2.1⟩)
  obtain ⟨K6, h6⟩ := ev_at (eq_fieldDef g hg)
  obtain ⟨mr, em, hm⟩ := mk_schema (y.f0.map cvT) hcm
  obtain ⟨K7, h7⟩ := ev_at em
  obtain ⟨mt, hmt⟩ := Classical.axiomOfChoice (r := fun (m : Int) (t : ByteArray) => m ≤ 4611686018427387903 → Ev (fun k => laws_markText.f k m) t) (fun m => by
    by_cases h : m ≤ 4611686018427387903
    · obtain ⟨t, ht⟩ := mark_text m h
      exact ⟨t, fun _ => ht⟩
    · exact ⟨⟨#[]⟩, fun h' => absurd h' h⟩)
  obtain ⟨K8, h8⟩ := ev_at (mark_args mt hmt g.2.1 hg)
  obtain ⟨K9, h9⟩ := ev_at (held_args mt hmt g.2.1.length hg)
  have hmF : ∀ k, K8 ≤ k → laws_markFieldDef.f k g.1 g.2.1 g.2.2.1 g.2.2.2.1 g.2.2.2.2.1 1 = some (1 + 2 * (g.2.1.length : Int), mkA mt g.2.1.length) := by
    intro k hk
    unfold laws_markFieldDef.f
    rw [h8 k hk]; rfl
  have hhF : ∀ k, K9 ≤ k → laws_heldFieldDef.f k g.1 (mkA mt g.2.1.length) g.2.2.1 g.2.2.2.1 g.2.2.2.2.1 1 = some (1 + 2 * (g.2.1.length : Int)) := by
    intro k hk
    unfold laws_heldFieldDef.f
    rw [h9 k hk]; simp only [Option.bind_some]; rw [if_neg qa27]
  refine ev_mk (K1 + K2 + K3 + K4 + K5 + K6 + K7 + K8 + K9) fun k hk => ?_
  unfold laws_FnExactFieldAt.f
  rw [if_neg hb, if_neg hc, h1 _ qa27]; simp only [Option.bind_some]; rw [if_neg qa27, h2 _ qa27]; simp only [Option.bind_some]
  rw [h3 _ qa27]; simp only [Option.bind_some]; rw [h4 _ qa27]; simp only [Option.bind_some]; rw [h6 _ qa27]; simp only [Option.bind_some, if_true]
  rw [h5 _ qa27]; simp only [Option.bind_some, if_true]; rw [h7 _ qa27]; simp only [Option.bind_some]; rw [if_pos qa27, hmF _ qa27]; simp only [Option.bind_some]
  rw [hhF _ qa27]; simp only [Option.bind_some]; rw [if_pos qa27]; simp only [eq_self, if_true]; rw [if_pos qa27]
end Go.Proofs.Ytoogmlghfljeiaa.Pure2
