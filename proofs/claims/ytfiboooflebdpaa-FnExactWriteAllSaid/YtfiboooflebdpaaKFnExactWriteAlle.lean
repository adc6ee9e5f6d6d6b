/- Texts of the claim on FnExactWriteAll, gathered by a program of this session: what the program's functions compute (proved by walks), and the plain part. -/
import Derived.Test.YtfiboooflebdpaaKFnExactWriteAlld
import Derived.Test.YtfiboooflebdpaaKFnExactWriteAllOpens
import Derived.KernelRfl
namespace Go.Proofs.Ytfiboooflebdpaa.Q
open Go.RowKit Go.Proofs.YtfiboooflebdpaaW.PrintWords Go.Proofs.YtfiboooflebdpaaW.PrintLast Go.Proofs.YtfiboooflebdpaaW.PrintMore
attribute [local go_sem] max2_int min2_int max_two min_two max_three min_three max_four min_four
set_option linter.unusedVariables false
set_option linter.unusedSimpArgs false

theorem lw5_iv {W W' : World} {n : Nat} (hn : n ≤ W.heap.size) (hb : W.heap.size ≤ W'.heap.size) : ∃ lo hi, lo = W.heap.size ∧ hi = W'.heap.size ∧ (n ≤ lo ∧ lo ≤ hi) := ⟨_, _, rfl, rfl, hn, hb⟩
theorem lw5_need {α : Type} {p : Prop} [Decidable p] {X : Option α} {r : α} (h : (if p then X else none) = some r) : p ∧ X = some r := by
 by_cases c : p
 ·rw [if_pos c] at h; exact ⟨c, h⟩
 ·rw [if_neg c] at h; cases h
def lw5_sets (g : Nat) : Nat → List Value → World → World
 | _, [], w => w
 | j, v :: vs, w => lw5_sets g (j + 1) vs (w.setCell ⟨g, j, none⟩ v)
def lw5_all : Nat → List Value → Array Value → Array Value
 | _, [], cs => cs
 | j, v :: vs, cs => lw5_all (j + 1) vs (cs.setIfInBounds j v)
theorem lw5_sets_heap {g t : Nat} : ∀ (vs : List Value) (j : Nat) (cs : Array Value) (w : World), w.heap[g]? = some (.cells cs t (0, 0)) → (lw5_sets g j vs w).heap[g]? = some (.cells (lw5_all j vs cs) t (0, 0))
 | [], _, _, _, h => h
 | v :: vs, j, cs, w, h => lw5_sets_heap vs (j + 1) _ _ (blk_set h j v)
theorem lw5_sets_kept {g : Nat} : ∀ (vs : List Value) (j : Nat) (w : World), Kept w (lw5_sets g j vs w) (fun k_ => g ≤ k_ ∧ k_ < g + 1)
 | [], _, w => Kept.refl w _
 | v :: vs, j, w => Kept.then_ (Kept.setCell (Kept.refl w _) (.inl (show g ≤ g ∧ g < g + 1 from ⟨Nat.le_refl _, Nat.lt_succ_self _⟩)) v) (lw5_sets_kept vs (j + 1) _) (fun _ h => .inl h)
theorem lw5_sets_below {g : Nat} {w0 : World} (hg : w0.heap.size ≤ g) : ∀ (vs : List Value) (j : Nat) (w : World), Below w0.heap.size w0 w → Below w0.heap.size w0 (lw5_sets g j vs w)
 | [], _, _, h => h
 | v :: vs, j, w, h => lw5_sets_below hg vs (j + 1) _ (qbS h hg)
theorem lw5_store {P : Program} {ops : Array Oper} {o : Oper} {a : Act} {Q : Exit → Act → World → Prop} {Kc : Act → World → Prop} {w0 W : World} (g t : Nat) (vs : List Value) (cs : Array Value) (hw : Region.wanted o (yielded ops a.tmps) = true) (hN : o.dst = none)
  (hrun : (execOp a.eval o).run P W = .ok .skip (lw5_sets g 0 vs W)) (hg : w0.heap.size ≤ g) (HB : Below w0.heap.size w0 W) (hb : W.heap[g]? = some (.cells cs t (0, 0)))
  (h : ∀ w1, w1.heap[g]? = some (.cells (lw5_all 0 vs cs) t (0, 0)) → Kept W w1 (fun k_ => g ≤ k_ ∧ k_ < g + 1) → Below w0.heap.size w0 w1 → Kc a w1) : if Region.wanted o (yielded ops a.tmps) = true then Oper.wp P o a W Kc Q else Kc (a.put none undef) W := by
 rw [if_pos hw]
 unfold Oper.wp
 rw [hrun]
 show Kc (a.put o.dst undef) _
 rw [hN]
 exact h _ (lw5_sets_heap vs 0 cs W hb) (lw5_sets_kept vs 0 W) (lw5_sets_below hg vs 0 W HB)
theorem lw5_no {lo hi a b k : Nat} (h1 : lo ≤ k ∧ k < hi) (h2 : a ≤ k ∧ k < b) (h : hi ≤ a ∨ b ≤ lo) : False := by omega
theorem lw5_no2 {lo hi a b c d k : Nat} (h1 : lo ≤ k ∧ k < hi) (h2 : (a ≤ k ∧ k < b) ∨ (c ≤ k ∧ k < d)) (h : (hi ≤ a ∨ b ≤ lo) ∧ (hi ≤ c ∨ d ≤ lo)) : False := by omega
theorem lw5_no3 {lo hi a b c d x y k : Nat} (h1 : lo ≤ k ∧ k < hi) (h2 : (a ≤ k ∧ k < b) ∨ (c ≤ k ∧ k < d) ∨ (x ≤ k ∧ k < y)) (h : (hi ≤ a ∨ b ≤ lo) ∧ (hi ≤ c ∨ d ≤ lo) ∧ (hi ≤ x ∨ y ≤ lo)) : False := by omega
theorem lw5_on {lo hi c d a b k : Nat} (h1 : (lo ≤ k ∧ k < hi) ∨ (c ≤ k ∧ k < d)) (h2 : a ≤ k ∧ k < b) (h : (hi ≤ a ∨ b ≤ lo) ∧ (d ≤ a ∨ b ≤ c)) : False := by omega
theorem lw5_on2 {lo hi c d a b x y k : Nat} (h1 : (lo ≤ k ∧ k < hi) ∨ (c ≤ k ∧ k < d)) (h2 : (a ≤ k ∧ k < b) ∨ (x ≤ k ∧ k < y)) (h : ((hi ≤ a ∨ b ≤ lo) ∧ (d ≤ a ∨ b ≤ c)) ∧ ((hi ≤ x ∨ y ≤ lo) ∧ (d ≤ x ∨ y ≤ c))) : False := by omega
theorem lw5_ivk {W W' : World} {S : Nat → Prop} {n : Nat} (hk : Kept W W' S) (hn : n ≤ W.heap.size) : ∃ lo hi, lo = W.heap.size ∧ hi = W'.heap.size ∧ (n ≤ lo ∧ lo ≤ hi) := ⟨_, _, rfl, rfl, hn, hk.1⟩
theorem lw5_hx {w0 W wn : World} (_hb : Below W.heap.size W wn) (hx : Below w0.heap.size w0 W) : Below w0.heap.size w0 W := hx
theorem lw5_bind {α β : Type} {X : Option α} {f : α → Option β} {r : β} (h : X.bind f = some r) : ∃ x, X = some x ∧ f x = some r := Option.bind_eq_some_iff.mp h
theorem lw5_draw {P : Program} {Q : Exit → Act → World → Prop} {id : Nat} {ops : Array Oper} {a : Act} {W : World} (h : ∀ w1, w1 = W → Below W.heap.size W w1 → (Code.region id ops true).wp P Q a w1) : (Code.region id ops true).wp P Q a W := h W rfl (Below.refl _ _)
theorem lw5_lt {W w' : World} {g : Nat} {o : Obj} (hb : Below W.heap.size W w') (h : W.heap[g]? = some o) : g + 1 ≤ W.heap.size ∧ w'.heap[g]? = some o := ⟨blk_lt h, blk_below h hb⟩
def laws_FnExactWriteAll.f (k : Nat) (l0_0 : List (List (S141))) (a0_1 : Int) (l1 : List (S76)) : Option (Bool) := ((laws_szStore.f k l0_0 a0_1 1048576).bind fun b0_ => (if b0_ < 0 then (some true) else ((laws_szPutS.f l1 b0_).bind fun b2_ => (if b2_ < 0 then (some true) else ((laws_toStore.f k l0_0 a0_1).bind fun b4_ => ((laws_toPutS.f k l1).bind fun b5_ => ((spec_WriteAll.f k b4_.1 b4_.2 b5_).bind fun b6_ => ((laws_toStore.f k l0_0 a0_1).bind fun b7_ => ((laws_toPutS.f k l1).bind fun b8_ => ((impl_WriteAll.f k b7_.1 b7_.2 b8_).bind fun b9_ => ((laws_eqStore.f k b9_.1 b9_.2.1 b6_.1 b6_.2.1).bind fun b10_ => (if b10_ = true then (if b9_.2.2.1 = b6_.2.2.1 then (if b9_.2.2.2 = b6_.2.2.2 then ((laws_toStore.f k l0_0 a0_1).bind fun b14_ => ((laws_eqStore.f k b7_.1 b7_.2 b14_.1 b14_.2).bind fun b15_ => (if b15_ = true then ((laws_toPutS.f k l1).bind fun b17_ => ((laws_eqPutS.f k b8_ b17_).bind fun b18_ => (if b18_ = true then ((laws_markStore.f k b7_.1 b7_.2 1).bind fun b20_ => ((laws_markPutS.f k b8_ b20_.1).bind fun b21_ => (if ¬ (b21_.1 < 0) then ((laws_eqStore.f k b9_.1 b9_.2.1 b6_.1 b6_.2.1).bind fun b23_ => (if b23_ = true then ((laws_markStore.f k b9_.1 b9_.2.1 1).bind fun b25_ => ((laws_heldStore.f k b25_.2 b9_.2.1 1).bind fun b26_ => (if ¬ (b26_ < 0) then (if b26_ = b25_.1 then ((laws_toStore.f k l0_0 a0_1).bind fun b29_ => ((laws_toPutS.f k l1).bind fun b30_ => ((impl_WriteAll.f k b29_.1 b29_.2 b30_).bind fun b31_ => ((laws_eqStore.f k b31_.1 b31_.2.1 b6_.1 b6_.2.1).bind fun b32_ => (if b32_ = true then (if b31_.2.2.1 = b6_.2.2.1 then (if b31_.2.2.2 = b6_.2.2.2 then ((laws_heldStore.f k b25_.2 b9_.2.1 1).bind fun b36_ => (if ¬ (b36_ < 0) then (if b36_ = b25_.1 then (some true) else (none)) else (none))) else (none)) else (none)) else (none)))))) else (none)) else (none)))) else (none))) else (none)))) else (none)))) else (none)))) else (none)) else (none)) else (none)))))))))))))
set_option maxHeartbeats 8000000 in
set_option maxRecDepth 100000 in
theorem laws_FnExactWriteAll.calls (k : Nat) (A0_0 : Option Addr) (c0_0 : Nat) (l0_0 : List (List (S141))) (a0_1 : Int) (A1 : Option Addr) (c1 : Nat) (l1 : List (S76)) (r : Bool) (w : World) (hr0_0 : Kd.C (Kd.slice 141 k141) w A0_0 l0_0.length l0_0) (hc0_0 : l0_0.length ≤ c0_0) (hr1 : Kd.C k76 w A1 l1.length l1) (hc1 : l1.length ≤ c1) (h : laws_FnExactWriteAll.f k l0_0 a0_1 l1 = some r) :
  Calls Try.prog 5 #[.agg #[.slice A0_0 l0_0.length c0_0, .int .i64 a0_1], .slice A1 l1.length c1] w fun e w' => e = .returned (.bool r) ∧ Below w.heap.size w w' := by
 have hu24 := Try.underlying24; have hu28 := Try.underlying28; have HR0_0 := qO hr0_0; have HC0_0 := qO hc0_0; clear hr0_0 hc0_0; have HR1 := qO hr1; have HC1 := qO hc1; clear hr1 hc1; have HB := qO (Below.refl w.heap.size w); have HX := qO (Below.refl w.heap.size w); have HN := qO (Nat.le_refl w.heap.size); have H : ((laws_szStore.f k l0_0 a0_1 1048576).bind fun b0_ => (if b0_ < 0 then (some true) else ((laws_szPutS.f l1 b0_).bind fun b2_ => (if b2_ < 0 then (some true) else ((laws_toStore.f k l0_0 a0_1).bind fun b4_ => ((laws_toPutS.f k l1).bind fun b5_ => ((spec_WriteAll.f k b4_.1 b4_.2 b5_).bind fun b6_ => ((laws_toStore.f k l0_0 a0_1).bind fun b7_ => ((laws_toPutS.f k l1).bind fun b8_ => ((impl_WriteAll.f k b7_.1 b7_.2 b8_).bind fun b9_ => ((laws_eqStore.f k b9_.1 b9_.2.1 b6_.1 b6_.2.1).bind fun b10_ => (if b10_ = true then (if b9_.2.2.1 = b6_.2.2.1 then (if b9_.2.2.2 = b6_.2.2.2 then ((laws_toStore.f k l0_0 a0_1).bind fun b14_ => ((laws_eqStore.f k b7_.1 b7_.2 b14_.1 b14_.2).bind fun b15_ => (if b15_ = true then ((laws_toPutS.f k l1).bind fun b17_ => ((laws_eqPutS.f k b8_ b17_).bind fun b18_ => (if b18_ = true then ((laws_markStore.f k b7_.1 b7_.2 1).bind fun b20_ => ((laws_markPutS.f k b8_ b20_.1).bind fun b21_ => (if ¬ (b21_.1 < 0) then ((laws_eqStore.f k b9_.1 b9_.2.1 b6_.1 b6_.2.1).bind fun b23_ => (if b23_ = true then ((laws_markStore.f k b9_.1 b9_.2.1 1).bind fun b25_ => ((laws_heldStore.f k b25_.2 b9_.2.1 1).bind fun b26_ => (if ¬ (b26_ < 0) then (if b26_ = b25_.1 then ((laws_toStore.f k l0_0 a0_1).bind fun b29_ => ((laws_toPutS.f k l1).bind fun b30_ => ((impl_WriteAll.f k b29_.1 b29_.2 b30_).bind fun b31_ => ((laws_eqStore.f k b31_.1 b31_.2.1 b6_.1 b6_.2.1).bind fun b32_ => (if b32_ = true then (if b31_.2.2.1 = b6_.2.2.1 then (if b31_.2.2.2 = b6_.2.2.2 then ((laws_heldStore.f k b25_.2 b9_.2.1 1).bind fun b36_ => (if ¬ (b36_ < 0) then (if b36_ = b25_.1 then (some true) else (none)) else (none))) else (none)) else (none)) else (none)))))) else (none)) else (none)))) else (none))) else (none)))) else (none)))) else (none)))) else (none)) else (none)) else (none))))))))))))) = some r := h; clear h; obtain ⟨t5, A0_, H⟩ := lw5_bind H; (try dsimp only at H); have A6 := qO A0_; clear A0_
 by_cases c1 : t5 < 0
 ·rw [if_pos c1] at H
  have c1b : decide (t5 < 0) = true := decide_eq_true c1; clear c1; obtain rfl := Option.some.inj H
  go_enter Try.func5, Try.ntmps5
  go_wp2_with (first | ((with_reducible refine gate_dst (N := 2) rfl ?_); refine box_event ?hg (N := 2) ?hd (cs := #[.slice A0_0 l0_0.length c0_0, .int .i64 a0_1]) (t := 24) ?hr ?_; (case hd => rfl); (case hg => rfl); (case hr => exact qa11); intro gb1 hg w2 hbox hb; have hx_ := lw5_hx hb qa15; have hbt := below_step hx_ hb; obtain ⟨lo4, hi4, hl_, hh_, hc_⟩ := lw5_iv (Nat.le_trans HN.out (below_size hx_)) hb.size; have CHlo4 := qO (show w.heap.size ≤ lo4 ∧ lo4 ≤ hi4 from hc_); clear hc_; have BK3 := qO (hbox); replace HN := qO ((show hi4 ≤ w2.heap.size from Nat.le_of_eq hh_)); replace HB := qO (below_step HB.out hbt); replace HX := qO (Below.refl w2.heap.size w2); have IVgb1 := qO (show lo4 ≤ gb1 ∧ gb1 < hi4 from ⟨Nat.le_of_eq (hl_.trans hg.symm), by rw [hh_]; exact blk_lt hbox⟩); clear hb hbt hx_ hl_ hh_; clear hg hbox; have hcz0_0_BK3 : w2.cell? ⟨gb1, 0, none⟩ = some (.slice A0_0 l0_0.length c0_0) := (blk_cell BK3.out 0).trans rfl; have hcz0_1_BK3 : w2.cell? ⟨gb1, 1, none⟩ = some (.int .i64 a0_1) := (blk_cell BK3.out 1).trans rfl) | ((with_reducible refine gate_callee (f := 11) rfl ?_); refine goesL_ (some 22) rfl rfl Try.func11 qa5 rfl #[.agg #[.slice A0_0 l0_0.length c0_0, .int .i64 a0_1], .int .i64 1048576] rfl qa35 ?_; (with_reducible refine (laws_szStore.calls k _ _ l0_0 a0_1 1048576 t5 _ ?side1 ?side2 A6.out).mono ?_); (case side1 => exact qa72); (case side2 => exact HC0_0.out); rintro e w7 ⟨rfl, hb⟩; refine ⟨_, rfl, ?_⟩; have hx_ := lw5_hx hb qa15; have hbt := below_step hx_ hb; replace BK3 := qO (blk_below (g := gb1) BK3.out hbt); replace HN := qO (Nat.le_trans (Nat.le_trans HN.out (below_size hx_)) hb.size); replace HB := qO (below_step HB.out hbt); replace HX := qO (Below.refl w7.heap.size w7); clear hb hbt hx_; skip))
  go_ret
  exact ⟨by first | rfl | (simp [*]; done), below_step HB.out qa15⟩
 ·rw [if_neg c1] at H
  have c1b : decide (t5 < 0) = false := decide_eq_false c1; clear c1; obtain ⟨t9, A0_, H⟩ := lw5_bind H; (try dsimp only at H); have A10 := qO A0_; clear A0_
  by_cases c3 : t9 < 0
  ·rw [if_pos c3] at H
   have c3b : decide (t9 < 0) = true := decide_eq_true c3; clear c3; obtain rfl := Option.some.inj H
   go_enter Try.func5, Try.ntmps5
   go_wp2_with (first | ((with_reducible refine gate_dst (N := 2) rfl ?_); refine box_event ?hg (N := 2) ?hd (cs := #[.slice A0_0 l0_0.length c0_0, .int .i64 a0_1]) (t := 24) ?hr ?_; (case hd => rfl); (case hg => rfl); (case hr => exact qa11); intro gb1 hg w2 hbox hb; have hx_ := lw5_hx hb qa15; have hbt := below_step hx_ hb; obtain ⟨lo4, hi4, hl_, hh_, hc_⟩ := lw5_iv (Nat.le_trans HN.out (below_size hx_)) hb.size; have CHlo4 := qO (show w.heap.size ≤ lo4 ∧ lo4 ≤ hi4 from hc_); clear hc_; have BK3 := qO (hbox); replace HN := qO ((show hi4 ≤ w2.heap.size from Nat.le_of_eq hh_)); replace HB := qO (below_step HB.out hbt); replace HX := qO (Below.refl w2.heap.size w2); have IVgb1 := qO (show lo4 ≤ gb1 ∧ gb1 < hi4 from ⟨Nat.le_of_eq (hl_.trans hg.symm), by rw [hh_]; exact blk_lt hbox⟩); clear hb hbt hx_ hl_ hh_; clear hg hbox; have hcz0_0_BK3 : w2.cell? ⟨gb1, 0, none⟩ = some (.slice A0_0 l0_0.length c0_0) := (blk_cell BK3.out 0).trans rfl; have hcz0_1_BK3 : w2.cell? ⟨gb1, 1, none⟩ = some (.int .i64 a0_1) := (blk_cell BK3.out 1).trans rfl) | ((with_reducible refine gate_callee (f := 11) rfl ?_); refine goesL_ (some 22) rfl rfl Try.func11 qa5 rfl #[.agg #[.slice A0_0 l0_0.length c0_0, .int .i64 a0_1], .int .i64 1048576] rfl qa35 ?_; (with_reducible refine (laws_szStore.calls k _ _ l0_0 a0_1 1048576 t5 _ ?side1 ?side2 A6.out).mono ?_); (case side1 => exact qa72); (case side2 => exact HC0_0.out); rintro e w7 ⟨rfl, hb⟩; refine ⟨_, rfl, ?_⟩; have hx_ := lw5_hx hb qa15; have hbt := below_step hx_ hb; replace BK3 := qO (blk_below (g := gb1) BK3.out hbt); replace HN := qO (Nat.le_trans (Nat.le_trans HN.out (below_size hx_)) hb.size); replace HB := qO (below_step HB.out hbt); replace HX := qO (Below.refl w7.heap.size w7); clear hb hbt hx_; skip) | ((with_reducible refine gate_callee (f := 25) rfl ?_); refine goesL_ (some 27) rfl rfl Try.func25 qa5 rfl #[.slice A1 l1.length c1, .int .i64 t5] rfl qa35 ?_; (with_reducible refine (laws_szPutS.calls _ _ l1 t5 t9 _ ?side1 ?side2 A10.out).mono ?_); (case side1 => exact qa73); (case side2 => exact HC1.out); rintro e w11 ⟨rfl, hd_⟩; refine ⟨_, rfl, ?_⟩; have hb := hd_.below; have hx_ := lw5_hx hb qa15; have hbt := below_step hx_ hb; replace BK3 := qO (blk_below (g := gb1) BK3.out hbt); replace HN := qO (Nat.le_trans (Nat.le_trans HN.out (below_size hx_)) hb.size); replace HB := qO (below_step HB.out hbt); replace HX := qO (Below.refl w11.heap.size w11); clear hb hbt hx_ hd_; have hcz2_0_BK3 : w11.cell? ⟨gb1, 0, none⟩ = some (.slice A0_0 l0_0.length c0_0) := (blk_cell BK3.out 0).trans rfl; have hcz2_1_BK3 : w11.cell? ⟨gb1, 1, none⟩ = some (.int .i64 a0_1) := (blk_cell BK3.out 1).trans rfl))
   go_ret
   exact ⟨by first | rfl | (simp [*]; done), below_step HB.out qa15⟩
  ·rw [if_neg c3] at H
   have c3b : decide (t9 < 0) = false := decide_eq_false c3; clear c3; obtain ⟨⟨t13, t14⟩, A0_, H⟩ := lw5_bind H; (try dsimp only at H); have A15 := qO A0_; clear A0_; obtain ⟨t20, A0_, H⟩ := lw5_bind H; (try dsimp only at H); have A21 := qO A0_; clear A0_; obtain ⟨⟨t26, t27, t28, t29⟩, A0_, H⟩ := lw5_bind H; (try dsimp only at H); have A30 := qO A0_; clear A0_; obtain ⟨⟨t43, t44⟩, A0_, H⟩ := lw5_bind H; (try dsimp only at H); have A45 := qO A0_; clear A0_; obtain ⟨t59, A0_, H⟩ := lw5_bind H; (try dsimp only at H); have A60 := qO A0_; clear A0_; obtain ⟨⟨t65, t66, t67, t68⟩, A0_, H⟩ := lw5_bind H; (try dsimp only at H); have A69 := qO A0_; clear A0_; obtain ⟨t84, A0_, H⟩ := lw5_bind H; (try dsimp only at H); have A85 := qO A0_; clear A0_; replace H := lw5_need H; obtain ⟨c11, H⟩ := H; subst c11; replace H := lw5_need H; obtain ⟨c12, H⟩ := H; have c12b0 : (t67 == t28) = true := beq_iff_eq.mpr c12; have c12b1 : (t67 != t28) = false := bne_eq_false_iff_eq.mpr c12; clear c12; replace H := lw5_need H; obtain ⟨c13, H⟩ := H; have c13b0 : (t68 == t29) = true := beq_iff_eq.mpr c13; have c13b1 : (t68 != t29) = false := bne_eq_false_iff_eq.mpr c13; clear c13; obtain ⟨⟨t89, t90⟩, A0_, H⟩ := lw5_bind H; (try dsimp only at H); have A91 := qO A0_; clear A0_; obtain ⟨t96, A0_, H⟩ := lw5_bind H; (try dsimp only at H); have A97 := qO A0_; clear A0_; replace H := lw5_need H; obtain ⟨c16, H⟩ := H; subst c16; obtain ⟨t100, A0_, H⟩ := lw5_bind H; (try dsimp only at H); have A101 := qO A0_; clear A0_; obtain ⟨t106, A0_, H⟩ := lw5_bind H; (try dsimp only at H); have A107 := qO A0_; clear A0_; replace H := lw5_need H; obtain ⟨c19, H⟩ := H; subst c19; obtain ⟨⟨t110, t111⟩, A0_, H⟩ := lw5_bind H; (try dsimp only at H); have A112 := qO A0_; clear A0_; obtain ⟨⟨t116, t117⟩, A0_, H⟩ := lw5_bind H; (try dsimp only at H); have A118 := qO A0_; clear A0_; replace H := lw5_need H; obtain ⟨c22, H⟩ := H; have c22b0 : decide (t116 < 0) = false := decide_eq_false c22; clear c22; obtain ⟨t122, A0_, H⟩ := lw5_bind H; (try dsimp only at H); have A123 := qO A0_; clear A0_; replace H := lw5_need H; obtain ⟨c24, H⟩ := H; subst c24; obtain ⟨⟨t126, t127⟩, A0_, H⟩ := lw5_bind H; (try dsimp only at H); have A128 := qO A0_; clear A0_; obtain ⟨t132, A0_, H⟩ := lw5_bind H; (try dsimp only at H); have A133 := qO A0_; clear A0_; replace H := lw5_need H; obtain ⟨c27, H⟩ := H; have c27b0 : decide (t132 < 0) = false := decide_eq_false c27; clear c27; replace H := lw5_need H; obtain ⟨c28, H⟩ := H; have c28b0 : (t132 == t126) = true := beq_iff_eq.mpr c28; have c28b1 : (t132 != t126) = false := bne_eq_false_iff_eq.mpr c28; clear c28; obtain ⟨⟨t136, t137⟩, A0_, H⟩ := lw5_bind H; (try dsimp only at H); have A138 := qO A0_; clear A0_; obtain ⟨t143, A0_, H⟩ := lw5_bind H; (try dsimp only at H); have A144 := qO A0_; clear A0_; obtain ⟨⟨t149, t150, t151, t152⟩, A0_, H⟩ := lw5_bind H; (try dsimp only at H); have A153 := qO A0_; clear A0_; obtain ⟨t169, A0_, H⟩ := lw5_bind H; (try dsimp only at H); have A170 := qO A0_; clear A0_; replace H := lw5_need H; obtain ⟨c33, H⟩ := H; subst c33; replace H := lw5_need H; obtain ⟨c34, H⟩ := H; have c34b0 : (t151 == t28) = true := beq_iff_eq.mpr c34; have c34b1 : (t151 != t28) = false := bne_eq_false_iff_eq.mpr c34; clear c34; replace H := lw5_need H; obtain ⟨c35, H⟩ := H; have c35b0 : (t152 == t29) = true := beq_iff_eq.mpr c35; have c35b1 : (t152 != t29) = false := bne_eq_false_iff_eq.mpr c35; clear c35; obtain ⟨t173, A0_, H⟩ := lw5_bind H; (try dsimp only at H); have A174 := qO A0_; clear A0_; replace H := lw5_need H; obtain ⟨c37, H⟩ := H; have c37b0 : decide (t173 < 0) = false := decide_eq_false c37; clear c37; replace H := lw5_need H; obtain ⟨c38, H⟩ := H; have c38b0 : (t173 == t126) = true := beq_iff_eq.mpr c38; have c38b1 : (t173 != t126) = false := bne_eq_false_iff_eq.mpr c38; clear c38; obtain rfl := Option.some.inj H
   go_enter Try.func5, Try.ntmps5
   go_wp2_with (first | ((with_reducible refine gate_dst (N := 2) rfl ?_); refine box_event ?hg (N := 2) ?hd (cs := #[.slice A0_0 l0_0.length c0_0, .int .i64 a0_1]) (t := 24) ?hr ?_; (case hd => rfl); (case hg => rfl); (case hr => exact qa11); intro gb1 hg w2 hbox hb; have hx_ := lw5_hx hb qa15; have hbt := below_step hx_ hb; obtain ⟨lo4, hi4, hl_, hh_, hc_⟩ := lw5_iv (Nat.le_trans HN.out (below_size hx_)) hb.size; have CHlo4 := qO (show w.heap.size ≤ lo4 ∧ lo4 ≤ hi4 from hc_); clear hc_; have BK3 := qO (hbox); replace HN := qO ((show hi4 ≤ w2.heap.size from Nat.le_of_eq hh_)); replace HB := qO (below_step HB.out hbt); replace HX := qO (Below.refl w2.heap.size w2); have IVgb1 := qO (show lo4 ≤ gb1 ∧ gb1 < hi4 from ⟨Nat.le_of_eq (hl_.trans hg.symm), by rw [hh_]; exact blk_lt hbox⟩); clear hb hbt hx_ hl_ hh_; clear hg hbox; have hcz0_0_BK3 : w2.cell? ⟨gb1, 0, none⟩ = some (.slice A0_0 l0_0.length c0_0) := (blk_cell BK3.out 0).trans rfl; have hcz0_1_BK3 : w2.cell? ⟨gb1, 1, none⟩ = some (.int .i64 a0_1) := (blk_cell BK3.out 1).trans rfl) | ((with_reducible refine gate_callee (f := 11) rfl ?_); refine goesL_ (some 22) rfl rfl Try.func11 qa5 rfl #[.agg #[.slice A0_0 l0_0.length c0_0, .int .i64 a0_1], .int .i64 1048576] rfl qa35 ?_; (with_reducible refine (laws_szStore.calls k _ _ l0_0 a0_1 1048576 t5 _ ?side1 ?side2 A6.out).mono ?_); (case side1 => exact qa72); (case side2 => exact HC0_0.out); rintro e w7 ⟨rfl, hb⟩; refine ⟨_, rfl, ?_⟩; have hx_ := lw5_hx hb qa15; have hbt := below_step hx_ hb; replace BK3 := qO (blk_below (g := gb1) BK3.out hbt); replace HN := qO (Nat.le_trans (Nat.le_trans HN.out (below_size hx_)) hb.size); replace HB := qO (below_step HB.out hbt); replace HX := qO (Below.refl w7.heap.size w7); clear hb hbt hx_; skip) | ((with_reducible refine gate_callee (f := 25) rfl ?_); refine goesL_ (some 27) rfl rfl Try.func25 qa5 rfl #[.slice A1 l1.length c1, .int .i64 t5] rfl qa35 ?_; (with_reducible refine (laws_szPutS.calls _ _ l1 t5 t9 _ ?side1 ?side2 A10.out).mono ?_); (case side1 => exact qa73); (case side2 => exact HC1.out); rintro e w11 ⟨rfl, hd_⟩; refine ⟨_, rfl, ?_⟩; have hb := hd_.below; have hx_ := lw5_hx hb qa15; have hbt := below_step hx_ hb; replace BK3 := qO (blk_below (g := gb1) BK3.out hbt); replace HN := qO (Nat.le_trans (Nat.le_trans HN.out (below_size hx_)) hb.size); replace HB := qO (below_step HB.out hbt); replace HX := qO (Below.refl w11.heap.size w11); clear hb hbt hx_ hd_; have hcz2_0_BK3 : w11.cell? ⟨gb1, 0, none⟩ = some (.slice A0_0 l0_0.length c0_0) := (blk_cell BK3.out 0).trans rfl; have hcz2_1_BK3 : w11.cell? ⟨gb1, 1, none⟩ = some (.int .i64 a0_1) := (blk_cell BK3.out 1).trans rfl) | ((with_reducible refine gate_callee (f := 13) rfl ?_); refine goesL_ (some 32) rfl rfl Try.func13 qa5 rfl #[.agg #[.slice A0_0 l0_0.length c0_0, .int .i64 a0_1]] rfl qa35 ?_; (with_reducible refine (laws_toStore.calls k _ _ l0_0 a0_1 t13 t14 _ ?side1 ?side2 A15.out).mono ?_); (case side1 => exact qa72); (case side2 => exact HC0_0.out); rintro e w16 ⟨vt13, rfl, ho0, hb⟩; refine ⟨_, rfl, ?_⟩; have hx_ := lw5_hx hb qa15; have hbt := below_step hx_ hb; obtain ⟨lo17, hi17, hl_, hh_, hc_⟩ := lw5_iv (Nat.le_trans HN.out (below_size hx_)) hb.size; have CHlo17 := qO (show hi4 ≤ lo17 ∧ lo17 ≤ hi17 from hc_); clear hc_; replace BK3 := qO (blk_below (g := gb1) BK3.out hbt); have HO18 := qO (Kd.S_mono (ok' := fun k_ => lo17 ≤ k_ ∧ k_ < hi17) (Kd.S_lower (Kd.S_bound ho0) (below_size (below_step HB.out hx_))) (fun k_ hk_ => ⟨qa137, qa118⟩)); replace HN := qO ((show hi17 ≤ w16.heap.size from Nat.le_of_eq hh_)); replace HB := qO (below_step HB.out hbt); replace HX := qO (Below.refl w16.heap.size w16); clear hb hbt hx_ hl_ hh_; (try clear ho0); obtain ⟨Aoo19, coo19, eoo19⟩ := Kd.S_slice HO18.out; (first | subst eoo19 | (injection eoo19 with f1_ f2_ f3_; have f4_ := f1_.symm; have f5_ := f3_.symm; clear f1_ f2_ f3_; subst f4_; subst f5_)); skip) | ((with_reducible refine gate_callee (f := 27) rfl ?_); refine goesL_ (some 34) rfl rfl Try.func27 qa5 rfl #[.slice A1 l1.length c1] rfl qa35 ?_; (with_reducible refine (laws_toPutS.calls k _ _ l1 t20 _ ?side1 ?side2 A21.out).mono ?_); (case side1 => exact qa73); (case side2 => exact HC1.out); rintro e w22 ⟨vt20, rfl, ho0, hb⟩; refine ⟨_, rfl, ?_⟩; have hx_ := lw5_hx hb qa15; have hbt := below_step hx_ hb; obtain ⟨lo23, hi23, hl_, hh_, hc_⟩ := lw5_iv (Nat.le_trans HN.out (below_size hx_)) hb.size; have CHlo23 := qO (show hi17 ≤ lo23 ∧ lo23 ≤ hi23 from hc_); clear hc_; replace BK3 := qO (blk_below (g := gb1) BK3.out hbt); replace HO18 := qO (Kd.S_below HO18.out hbt); have HO24 := qO (Kd.R_mono (ok' := fun k_ => lo23 ≤ k_ ∧ k_ < hi23) (Kd.R_lower (Kd.R_bound ho0) (below_size (below_step HB.out hx_))) (fun k_ hk_ => ⟨qa137, qa118⟩)); replace HN := qO ((show hi23 ≤ w22.heap.size from Nat.le_of_eq hh_)); replace HB := qO (below_step HB.out hbt); replace HX := qO (Below.refl w22.heap.size w22); clear hb hbt hx_ hl_ hh_; (try clear ho0); obtain ⟨Aoo25, coo25, eoo25⟩ := Kd.R_slice HO24.out; (first | subst eoo25 | (injection eoo25 with f1_ f2_ f3_; have f4_ := f1_.symm; have f5_ := f3_.symm; clear f1_ f2_ f3_; subst f4_; subst f5_)); skip) | ((with_reducible refine gate_callee (f := 26) rfl ?_); refine goesL_ (some 35) rfl rfl Try.func26 qa5 rfl #[.agg #[.slice Aoo19 t13.length coo19, .int .i64 t14], .slice Aoo25 t20.length coo25] rfl qa35 ?_; (with_reducible refine (spec_WriteAll.calls k _ _ t13 t14 _ _ t20 t26 t27 t28 t29 _ ?side1 ?side2 ?side3 ?side4 A30.out).mono ?_); (case side1 => exact Kd.C_below (Kd.S_reads' HO18.out).2.2 (by repeat (first | (with_reducible first | exact HX.out | apply qbA | apply qbN | apply qbD) | exact HX.out))); (case side2 => have z_ := Kd.S_reads' HO18.out; have y_ := z_.1; have x_ := z_.2.1; omega); (case side3 => exact Kd.C_below (Kd.R_reads' HO24.out).2.2 (by repeat (first | (with_reducible first | exact HX.out | apply qbA | apply qbN | apply qbD) | exact HX.out))); (case side4 => have z_ := Kd.R_reads' HO24.out; have y_ := z_.1; have x_ := z_.2.1; omega); rintro e w31 ⟨vt26, rfl, ho0, hb⟩; refine ⟨_, rfl, ?_⟩; have hx_ := lw5_hx hb qa15; have hbt := below_step hx_ hb; obtain ⟨lo32, hi32, hl_, hh_, hc_⟩ := lw5_iv (Nat.le_trans HN.out (below_size hx_)) hb.size; have CHlo32 := qO (show hi23 ≤ lo32 ∧ lo32 ≤ hi32 from hc_); clear hc_; replace BK3 := qO (blk_below (g := gb1) BK3.out hbt); replace HO18 := qO (Kd.S_below HO18.out hbt); replace HO24 := qO (Kd.R_below HO24.out hbt); have HO33 := qO (Kd.S_mono (ok' := fun k_ => lo32 ≤ k_ ∧ k_ < hi32) (Kd.S_lower (Kd.S_bound ho0) (below_size (below_step HB.out hx_))) (fun k_ hk_ => ⟨qa137, qa118⟩)); replace HN := qO ((show hi32 ≤ w31.heap.size from Nat.le_of_eq hh_)); replace HB := qO (below_step HB.out hbt); replace HX := qO (Below.refl w31.heap.size w31); clear hb hbt hx_ hl_ hh_; (try clear ho0); obtain ⟨Aoo34, coo34, eoo34⟩ := Kd.S_slice HO33.out; (first | subst eoo34 | (injection eoo34 with f1_ f2_ f3_; have f4_ := f1_.symm; have f5_ := f3_.symm; clear f1_ f2_ f3_; subst f4_; subst f5_)); skip) | ((with_reducible refine gate_dst (N := 6) rfl ?_); refine box_event ?hg (N := 6) ?hd (cs := #[.slice none 0 0, .int .i64 0]) (t := 28) ?hr ?_; (case hd => rfl); (case hg => rfl); (case hr => exact qa11); intro gb35 hg w36 hbox hb; have GEgb35 := qO (qa94 : _ ≤ gb35); have BK37r := qO hbox; have n0_ := qO (below_step qa15 hb); have hnb38 : gb35 ≠ gb1 := (fun e_ => by have z1_ := GEgb35.out; have z2_ := blk_lt BK3.out; omega); have hnb38c : gb1 ≠ gb35 := fun e_ => hnb38 e_.symm; clear HX; have HX := n0_; clear n0_ hb hg; have hcz39 : w36.cell? ⟨gb35, 0, none⟩ = some (.slice none 0 0) := (blk_cell BK37r.out 0).trans rfl; have hfz40 := blk_frozen BK37r.out 0; have hcz41 : w36.cell? ⟨gb35, 1, none⟩ = some (.int .i64 0) := (blk_cell BK37r.out 1).trans rfl; have hfz42 := blk_frozen BK37r.out 1; have hcz6_0_BK3 : w36.cell? ⟨gb1, 0, none⟩ = some (.slice A0_0 l0_0.length c0_0) := (blk_cell (blk_below (g := gb1) BK3.out HX.out) 0).trans rfl; have hcz6_1_BK3 : w36.cell? ⟨gb1, 1, none⟩ = some (.int .i64 a0_1) := (blk_cell (blk_below (g := gb1) BK3.out HX.out) 1).trans rfl; clear hbox) | ((with_reducible refine gate_callee (f := 13) rfl ?_); refine goesL_ (some 40) rfl rfl Try.func13 qa5 rfl #[.agg #[.slice A0_0 l0_0.length c0_0, .int .i64 a0_1]] rfl qa35 ?_; (with_reducible refine (laws_toStore.calls k _ _ l0_0 a0_1 t43 t44 _ ?side1 ?side2 A45.out).mono ?_); (case side1 => exact Kd.C_below HR0_0.out (below_step HB.out (by repeat (first | (with_reducible first | exact HX.out | apply qbA | apply qbN | apply qbD | refine qbS ?_ GEgb35.out) | exact HX.out)))); (case side2 => exact HC0_0.out); rintro e w46 ⟨vt43, rfl, ho0, hb⟩; refine ⟨_, rfl, ?_⟩; have hx_ := lw5_hx hb (by repeat (first | (with_reducible first | exact HX.out | apply qbA | apply qbN | apply qbD | refine qbS ?_ GEgb35.out) | exact HX.out)); have hp_ := lw5_lt (g := gb35) (o := .cells #[.slice Aoo34 t26.length coo34, .int .i64 t27] 28 (0, 0)) hb (by (with_reducible repeat (first | refine qkN ?_ _ | refine qkD ?_ | refine qkA ?_ _)); refine blk_put (cs := #[.slice Aoo34 t26.length coo34, .int .i64 0]) ?_ 1 _ rfl; (with_reducible repeat (first | refine qkN ?_ _ | refine qkD ?_ | refine qkA ?_ _)); refine blk_put (cs := #[.slice none 0 0, .int .i64 0]) ?_ 0 _ rfl; (with_reducible repeat (first | refine qkN ?_ _ | refine qkD ?_ | refine qkA ?_ _)); exact BK37r.out); have CHgb35 := qO (show hi32 ≤ gb35 from Nat.le_trans HN.out GEgb35.out); have hbt := below_step hx_ hb; obtain ⟨lo47, hi47, hl_, hh_, hc_⟩ := lw5_iv (hp_.1) hb.size; have CHlo47 := qO (show gb35 + 1 ≤ lo47 ∧ lo47 ≤ hi47 from hc_); clear hc_; have BK37 := qO (hp_.2); replace BK3 := qO (blk_below (g := gb1) BK3.out hbt); replace HO18 := qO (Kd.S_below HO18.out hbt); replace HO24 := qO (Kd.R_below HO24.out hbt); replace HO33 := qO (Kd.S_below HO33.out hbt); have HO48 := qO (Kd.S_mono (ok' := fun k_ => lo47 ≤ k_ ∧ k_ < hi47) (Kd.S_lower (Kd.S_bound ho0) (below_size (below_step HB.out hx_))) (fun k_ hk_ => ⟨qa137, qa118⟩)); replace HN := qO ((show hi47 ≤ w46.heap.size from Nat.le_of_eq hh_)); replace HB := qO (below_step HB.out hbt); replace HX := qO (Below.refl w46.heap.size w46); have IVgb35 := qO (show gb35 ≤ gb35 ∧ gb35 < gb35 + 1 from ⟨Nat.le_refl _, Nat.lt_succ_self _⟩); clear hb hbt hx_ hp_ hl_ hh_; (try clear ho0); obtain ⟨Aoo49, coo49, eoo49⟩ := Kd.S_slice HO48.out; (first | subst eoo49 | (injection eoo49 with f1_ f2_ f3_; have f4_ := f1_.symm; have f5_ := f3_.symm; clear f1_ f2_ f3_; subst f4_; subst f5_)); skip) | ((with_reducible refine gate_dst (N := 9) rfl ?_); refine box_event ?hg (N := 9) ?hd (cs := #[.slice none 0 0, .int .i64 0]) (t := 28) ?hr ?_; (case hd => rfl); (case hg => rfl); (case hr => exact qa11); intro gb50 hg w51 hbox hb; have GEgb50 := qO (qa94 : _ ≤ gb50); have BK52r := qO hbox; have n0_ := qO (below_step qa15 hb); have hnb53 : gb50 ≠ gb1 := (fun e_ => by have z1_ := GEgb50.out; have z2_ := blk_lt BK3.out; omega); have hnb53c : gb1 ≠ gb50 := fun e_ => hnb53 e_.symm; have hnb54 : gb50 ≠ gb35 := (fun e_ => by have z1_ := GEgb50.out; have z2_ := blk_lt BK37.out; omega); have hnb54c : gb35 ≠ gb50 := fun e_ => hnb54 e_.symm; clear HX; have HX := n0_; clear n0_ hb hg; have hcz55 : w51.cell? ⟨gb50, 0, none⟩ = some (.slice none 0 0) := (blk_cell BK52r.out 0).trans rfl; have hfz56 := blk_frozen BK52r.out 0; have hcz57 : w51.cell? ⟨gb50, 1, none⟩ = some (.int .i64 0) := (blk_cell BK52r.out 1).trans rfl; have hfz58 := blk_frozen BK52r.out 1; skip; clear hbox) | ((with_reducible refine gate_callee (f := 27) rfl ?_); refine goesL_ (some 42) rfl rfl Try.func27 qa5 rfl #[.slice A1 l1.length c1] rfl qa35 ?_; (with_reducible refine (laws_toPutS.calls k _ _ l1 t59 _ ?side1 ?side2 A60.out).mono ?_); (case side1 => exact Kd.C_below HR1.out (below_step HB.out (by repeat (first | (with_reducible first | exact HX.out | apply qbA | apply qbN | apply qbD | refine qbS ?_ GEgb50.out) | exact HX.out)))); (case side2 => exact HC1.out); rintro e w61 ⟨vt59, rfl, ho0, hb⟩; refine ⟨_, rfl, ?_⟩; have hx_ := lw5_hx hb (by repeat (first | (with_reducible first | exact HX.out | apply qbA | apply qbN | apply qbD | refine qbS ?_ GEgb50.out) | exact HX.out)); have hp_ := lw5_lt (g := gb50) (o := .cells #[.slice Aoo49 t43.length coo49, .int .i64 t44] 28 (0, 0)) hb (by (with_reducible repeat (first | refine qkN ?_ _ | refine qkD ?_ | refine qkA ?_ _)); refine blk_put (cs := #[.slice Aoo49 t43.length coo49, .int .i64 0]) ?_ 1 _ rfl; (with_reducible repeat (first | refine qkN ?_ _ | refine qkD ?_ | refine qkA ?_ _)); refine blk_put (cs := #[.slice none 0 0, .int .i64 0]) ?_ 0 _ rfl; (with_reducible repeat (first | refine qkN ?_ _ | refine qkD ?_ | refine qkA ?_ _)); exact BK52r.out); have CHgb50 := qO (show hi47 ≤ gb50 from Nat.le_trans HN.out GEgb50.out); have hbt := below_step hx_ hb; obtain ⟨lo62, hi62, hl_, hh_, hc_⟩ := lw5_iv (hp_.1) hb.size; have CHlo62 := qO (show gb50 + 1 ≤ lo62 ∧ lo62 ≤ hi62 from hc_); clear hc_; have BK52 := qO (hp_.2); replace BK3 := qO (blk_below (g := gb1) BK3.out hbt); replace HO18 := qO (Kd.S_below HO18.out hbt); replace HO24 := qO (Kd.R_below HO24.out hbt); replace HO33 := qO (Kd.S_below HO33.out hbt); replace BK37 := qO (blk_below (g := gb35) BK37.out hbt); replace HO48 := qO (Kd.S_below HO48.out hbt); have HO63 := qO (Kd.R_mono (ok' := fun k_ => lo62 ≤ k_ ∧ k_ < hi62) (Kd.R_lower (Kd.R_bound ho0) (below_size (below_step HB.out hx_))) (fun k_ hk_ => ⟨qa137, qa118⟩)); replace HN := qO ((show hi62 ≤ w61.heap.size from Nat.le_of_eq hh_)); replace HB := qO (below_step HB.out hbt); replace HX := qO (Below.refl w61.heap.size w61); have IVgb50 := qO (show gb50 ≤ gb50 ∧ gb50 < gb50 + 1 from ⟨Nat.le_refl _, Nat.lt_succ_self _⟩); clear hb hbt hx_ hp_ hl_ hh_; (try clear ho0); obtain ⟨Aoo64, coo64, eoo64⟩ := Kd.R_slice HO63.out; (first | subst eoo64 | (injection eoo64 with f1_ f2_ f3_; have f4_ := f1_.symm; have f5_ := f3_.symm; clear f1_ f2_ f3_; subst f4_; subst f5_)); have hcz9_0_BK52 : w61.cell? ⟨gb50, 0, none⟩ = some (.slice Aoo49 t43.length coo49) := (blk_cell BK52.out 0).trans rfl; have hcz9_1_BK52 : w61.cell? ⟨gb50, 1, none⟩ = some (.int .i64 t44) := (blk_cell BK52.out 1).trans rfl) | ((with_reducible refine gate_callee (f := 28) rfl ?_); refine goesL_ (some 46) rfl rfl Try.func28 qa5 rfl #[.agg #[.slice Aoo49 t43.length coo49, .int .i64 t44], .slice Aoo64 t59.length coo64] rfl qa35 ?_; (with_reducible refine (impl_WriteAll.calls k _ _ t43 t44 _ _ t59 t65 t66 t67 t68 _ ?side1 ?side2 ?side3 ?side4 A69.out).mono ?_); (case side1 => exact Kd.C_below (Kd.S_reads' HO48.out).2.2 (by repeat (first | (with_reducible first | exact HX.out | apply qbA | apply qbN | apply qbD) | exact HX.out))); (case side2 => have z_ := Kd.S_reads' HO48.out; have y_ := z_.1; have x_ := z_.2.1; omega); (case side3 => exact qa131); (case side4 => have z_ := Kd.R_reads' HO63.out; have y_ := z_.1; have x_ := z_.2.1; omega); rintro e w70 ⟨vt65, rfl, ho0, hb⟩; refine ⟨_, rfl, ?_⟩; have hx_ := lw5_hx hb qa15; have hbt := below_step hx_ hb; obtain ⟨lo71, hi71, hl_, hh_, hc_⟩ := lw5_iv (Nat.le_trans HN.out (below_size hx_)) hb.size; have CHlo71 := qO (show hi62 ≤ lo71 ∧ lo71 ≤ hi71 from hc_); clear hc_; replace BK3 := qO (blk_below (g := gb1) BK3.out hbt); replace HO18 := qO (Kd.S_below HO18.out hbt); replace HO24 := qO (Kd.R_below HO24.out hbt); replace HO33 := qO (Kd.S_below HO33.out hbt); replace BK37 := qO (blk_below (g := gb35) BK37.out hbt); replace HO48 := qO (Kd.S_below HO48.out hbt); replace BK52 := qO (blk_below (g := gb50) BK52.out hbt); replace HO63 := qO (Kd.R_below HO63.out hbt); have HO72 := qO (Kd.S_mono (ok' := fun k_ => lo71 ≤ k_ ∧ k_ < hi71) (Kd.S_lower (Kd.S_bound ho0) (below_size (below_step HB.out hx_))) (fun k_ hk_ => ⟨qa137, qa118⟩)); replace HN := qO ((show hi71 ≤ w70.heap.size from Nat.le_of_eq hh_)); replace HB := qO (below_step HB.out hbt); replace HX := qO (Below.refl w70.heap.size w70); clear hb hbt hx_ hl_ hh_; (try clear ho0); obtain ⟨Aoo73, coo73, eoo73⟩ := Kd.S_slice HO72.out; (first | subst eoo73 | (injection eoo73 with f1_ f2_ f3_; have f4_ := f1_.symm; have f5_ := f3_.symm; clear f1_ f2_ f3_; subst f4_; subst f5_)); skip) | ((with_reducible refine gate_dst (N := 11) rfl ?_); refine box_event ?hg (N := 11) ?hd (cs := #[.slice none 0 0, .int .i64 0]) (t := 28) ?hr ?_; (case hd => rfl); (case hg => rfl); (case hr => exact qa11); intro gb74 hg w75 hbox hb; have GEgb74 := qO (qa94 : _ ≤ gb74); have BK76r := qO hbox; have n0_ := qO (below_step qa15 hb); have hnb77 : gb74 ≠ gb1 := (fun e_ => by have z1_ := GEgb74.out; have z2_ := blk_lt BK3.out; omega); have hnb77c : gb1 ≠ gb74 := fun e_ => hnb77 e_.symm; have hnb78 : gb74 ≠ gb35 := (fun e_ => by have z1_ := GEgb74.out; have z2_ := blk_lt BK37.out; omega); have hnb78c : gb35 ≠ gb74 := fun e_ => hnb78 e_.symm; have hnb79 : gb74 ≠ gb50 := (fun e_ => by have z1_ := GEgb74.out; have z2_ := blk_lt BK52.out; omega); have hnb79c : gb50 ≠ gb74 := fun e_ => hnb79 e_.symm; clear HX; have HX := n0_; clear n0_ hb hg; have hcz80 : w75.cell? ⟨gb74, 0, none⟩ = some (.slice none 0 0) := (blk_cell BK76r.out 0).trans rfl; have hfz81 := blk_frozen BK76r.out 0; have hcz82 : w75.cell? ⟨gb74, 1, none⟩ = some (.int .i64 0) := (blk_cell BK76r.out 1).trans rfl; have hfz83 := blk_frozen BK76r.out 1; have hcz11_0_BK37 : w75.cell? ⟨gb35, 0, none⟩ = some (.slice Aoo34 t26.length coo34) := (blk_cell (blk_below (g := gb35) BK37.out HX.out) 0).trans rfl; have hcz11_1_BK37 : w75.cell? ⟨gb35, 1, none⟩ = some (.int .i64 t27) := (blk_cell (blk_below (g := gb35) BK37.out HX.out) 1).trans rfl; clear hbox) | ((with_reducible refine gate_callee (f := 15) rfl ?_); refine goesL_ (some 52) rfl rfl Try.func15 qa5 rfl #[.agg #[.slice Aoo73 t65.length coo73, .int .i64 t66], .agg #[.slice Aoo34 t26.length coo34, .int .i64 t27]] rfl qa35 ?_; (with_reducible refine (laws_eqStore.calls k _ _ t65 t66 _ _ t26 t27 true _ ?side1 ?side2 ?side3 ?side4 A85.out).mono ?_); (case side1 => exact Kd.C_below (Kd.S_reads' HO72.out).2.2 (by repeat (first | (with_reducible first | exact HX.out | apply qbA | apply qbN | apply qbD | refine qbS ?_ GEgb74.out) | exact HX.out))); (case side2 => exact qa136); (case side3 => exact Kd.C_below (Kd.S_reads' HO33.out).2.2 (by repeat (first | (with_reducible first | exact HX.out | apply qbA | apply qbN | apply qbD | refine qbS ?_ GEgb74.out) | exact HX.out))); (case side4 => exact qa150); rintro e w86 ⟨rfl, hb⟩; refine ⟨_, rfl, ?_⟩; have hx_ := lw5_hx hb (by repeat (first | (with_reducible first | exact HX.out | apply qbA | apply qbN | apply qbD | refine qbS ?_ GEgb74.out) | exact HX.out)); have hp_ := lw5_lt (g := gb74) (o := .cells #[.slice Aoo73 t65.length coo73, .int .i64 t66] 28 (0, 0)) hb (by (with_reducible repeat (first | refine qkN ?_ _ | refine qkD ?_ | refine qkA ?_ _)); refine blk_put (cs := #[.slice Aoo73 t65.length coo73, .int .i64 0]) ?_ 1 _ rfl; (with_reducible repeat (first | refine qkN ?_ _ | refine qkD ?_ | refine qkA ?_ _)); refine blk_put (cs := #[.slice none 0 0, .int .i64 0]) ?_ 0 _ rfl; (with_reducible repeat (first | refine qkN ?_ _ | refine qkD ?_ | refine qkA ?_ _)); exact BK76r.out); have CHgb74 := qO (show hi71 ≤ gb74 from Nat.le_trans HN.out GEgb74.out); have hbt := below_step hx_ hb; have BK76 := qO (hp_.2); replace BK3 := qO (blk_below (g := gb1) BK3.out hbt); replace HO18 := qO (Kd.S_below HO18.out hbt); replace HO24 := qO (Kd.R_below HO24.out hbt); replace HO33 := qO (Kd.S_below HO33.out hbt); replace BK37 := qO (blk_below (g := gb35) BK37.out hbt); replace HO48 := qO (Kd.S_below HO48.out hbt); replace BK52 := qO (blk_below (g := gb50) BK52.out hbt); replace HO63 := qO (Kd.R_below HO63.out hbt); replace HO72 := qO (Kd.S_below HO72.out hbt); replace HN := qO (Nat.le_trans (hp_.1) hb.size); replace HB := qO (below_step HB.out hbt); replace HX := qO (Below.refl w86.heap.size w86); have IVgb74 := qO (show gb74 ≤ gb74 ∧ gb74 < gb74 + 1 from ⟨Nat.le_refl _, Nat.lt_succ_self _⟩); clear hb hbt hx_ hp_; skip))
   try go_wp2
   have hdr_ := qO (qbD HX.out); refine start_ (n := 5) (S := fun w' => w'.cell? ⟨gb50, 0, none⟩ = some (.slice Aoo49 t43.length coo49) ∧ w'.cell? ⟨gb50, 1, none⟩ = some (.int .i64 t44) ∧ w'.cell? ⟨gb1, 0, none⟩ = some (.slice A0_0 l0_0.length c0_0) ∧ w'.cell? ⟨gb1, 1, none⟩ = some (.int .i64 a0_1)) (ds := []) #[false, false, false, false, false] qa5 rfl rfl ⟨(blk_cell (blk_below (g := gb50) BK52.out hdr_.out) 0).trans rfl, (blk_cell (blk_below (g := gb50) BK52.out hdr_.out) 1).trans rfl, (blk_cell (blk_below (g := gb1) BK3.out hdr_.out) 0).trans rfl, (blk_cell (blk_below (g := gb1) BK3.out hdr_.out) 1).trans rfl⟩ (fun hHeld => ?_); generalize w86.drew = w88 at hdr_ hHeld ⊢; clear HX; have HX := hdr_; clear hdr_; refine take_ (i := 0) (N := some 64) (v := ?_) (a' := ?_) #[true, false, false, false, false] rfl rfl qa5 (fun _ _ _ h => h) (Or.inl ⟨by rfl, ?_⟩) hHeld ?_ ?_; rotate_left; exact qa40; rotate_left; exact qa2; refine take_ (i := 1) (N := some 65) (v := ?_) (a' := ?_) #[true, true, false, false, false] rfl rfl qa5 (fun _ _ _ h => h) (Or.inl ⟨by rfl, ?_⟩) hHeld ?_ ?_; rotate_left; exact qa40; rotate_left; exact qa2; refine one_ (i := 2) (N := some 66) #[true, true, true, false, false] rfl rfl qa5 qa59 (fun K hK => ?_); refine goes_ Try.func13 qa5 rfl #[.agg #[.slice A0_0 l0_0.length c0_0, .int .i64 a0_1]] (by rfl) rfl rfl qa35 ?_; (with_reducible refine (laws_toStore.calls k _ _ l0_0 a0_1 t89 t90 _ ?side1 ?side2 A91.out).mono ?_); (case side1 => exact Kd.C_below HR0_0.out (below_step HB.out HX.out)); (case side2 => exact HC0_0.out); rintro e w92 ⟨vt89, rfl, ho0, hb⟩; refine ⟨_, rfl, ?_⟩; have hx_ := lw5_hx hb HX.out; have hbt := below_step hx_ hb; obtain ⟨lo93, hi93, hl_, hh_, hc_⟩ := lw5_iv (Nat.le_trans HN.out (below_size hx_)) hb.size; have CHlo93 := qO (show gb74 + 1 ≤ lo93 ∧ lo93 ≤ hi93 from hc_); clear hc_; replace BK3 := qO (blk_below (g := gb1) BK3.out hbt); replace HO18 := qO (Kd.S_below HO18.out hbt); replace HO24 := qO (Kd.R_below HO24.out hbt); replace HO33 := qO (Kd.S_below HO33.out hbt); replace BK37 := qO (blk_below (g := gb35) BK37.out hbt); replace HO48 := qO (Kd.S_below HO48.out hbt); replace BK52 := qO (blk_below (g := gb50) BK52.out hbt); replace HO63 := qO (Kd.R_below HO63.out hbt); replace HO72 := qO (Kd.S_below HO72.out hbt); replace BK76 := qO (blk_below (g := gb74) BK76.out hbt); have HO94 := qO (Kd.S_mono (ok' := fun k_ => lo93 ≤ k_ ∧ k_ < hi93) (Kd.S_lower (Kd.S_bound ho0) (below_size (below_step HB.out hx_))) (fun k_ hk_ => ⟨qa137, qa118⟩)); replace HN := qO ((show hi93 ≤ w92.heap.size from Nat.le_of_eq hh_)); replace HB := qO (below_step HB.out hbt); replace HX := qO (Below.refl w92.heap.size w92); clear hb hbt hx_ hl_ hh_; (try clear ho0); obtain ⟨Aoo95, coo95, eoo95⟩ := Kd.S_slice HO94.out; (first | subst eoo95 | (injection eoo95 with f1_ f2_ f3_; have f4_ := f1_.symm; have f5_ := f3_.symm; clear f1_ f2_ f3_; subst f4_; subst f5_)); refine hK.out _ _ ⟨(blk_cell BK52.out 0).trans rfl, (blk_cell BK52.out 1).trans rfl, (blk_cell BK3.out 0).trans rfl, (blk_cell BK3.out 1).trans rfl⟩ (fun hHeld => ?_); clear hK K; refine norm_ (a' := ?_) ?_ ?_; rotate_left
   ·exact qa21
   refine one_ (i := 3) (N := some 67) #[true, true, true, true, false] rfl rfl qa5 qa59 (fun K hK => ?_); refine goes_ Try.func15 qa5 rfl #[.agg #[.slice Aoo49 t43.length coo49, .int .i64 t44], .agg #[.slice Aoo95 t89.length coo95, .int .i64 t90]] (by rfl) rfl rfl qa35 ?_; (with_reducible refine (laws_eqStore.calls k _ _ t43 t44 _ _ t89 t90 true _ ?side1 ?side2 ?side3 ?side4 A97.out).mono ?_); (case side1 => exact Kd.C_below (Kd.S_reads' HO48.out).2.2 HX.out); (case side2 => have z_ := Kd.S_reads' HO48.out; have y_ := z_.1; have x_ := z_.2.1; omega); (case side3 => exact Kd.C_below (Kd.S_reads' HO94.out).2.2 HX.out); (case side4 => have z_ := Kd.S_reads' HO94.out; have y_ := z_.1; have x_ := z_.2.1; omega); rintro e w98 ⟨rfl, hb⟩; refine ⟨_, rfl, ?_⟩; have hx_ := lw5_hx hb HX.out; have hbt := below_step hx_ hb; replace BK3 := qO (blk_below (g := gb1) BK3.out hbt); replace HO18 := qO (Kd.S_below HO18.out hbt); replace HO24 := qO (Kd.R_below HO24.out hbt); replace HO33 := qO (Kd.S_below HO33.out hbt); replace BK37 := qO (blk_below (g := gb35) BK37.out hbt); replace HO48 := qO (Kd.S_below HO48.out hbt); replace BK52 := qO (blk_below (g := gb50) BK52.out hbt); replace HO63 := qO (Kd.R_below HO63.out hbt); replace HO72 := qO (Kd.S_below HO72.out hbt); replace BK76 := qO (blk_below (g := gb74) BK76.out hbt); replace HO94 := qO (Kd.S_below HO94.out hbt); replace HN := qO (Nat.le_trans (Nat.le_trans HN.out (below_size hx_)) hb.size); replace HB := qO (below_step HB.out hbt); replace HX := qO (Below.refl w98.heap.size w98); clear hb hbt hx_; refine hK.out _ _ ⟨(blk_cell BK52.out 0).trans rfl, (blk_cell BK52.out 1).trans rfl, (blk_cell BK3.out 0).trans rfl, (blk_cell BK3.out 1).trans rfl⟩ (fun hHeld => ?_); clear hK K; refine norm_ (a' := ?_) ?_ ?_; rotate_left
   ·exact qa21
   refine pure_ (i := 4) (N := some 68) (v := ?_) (a' := ?_) #[true, true, true, true, true] rfl rfl qa5 (fun _ _ _ h => h) (Or.inl ⟨by rfl, ?_⟩) ?_ ?_; rotate_left; exact qa9; rotate_left; exact qa2; refine done_ qa5 ?_
   skip
   go_wp2_with (first | ((with_reducible refine gate_callee (f := 27) rfl ?_); refine goesL_ (some 71) rfl rfl Try.func27 qa5 rfl #[.slice A1 l1.length c1] rfl qa35 ?_; (with_reducible refine (laws_toPutS.calls k _ _ l1 t100 _ ?side1 ?side2 A101.out).mono ?_); (case side1 => exact qa73); (case side2 => exact HC1.out); rintro e w102 ⟨vt100, rfl, ho0, hb⟩; refine ⟨_, rfl, ?_⟩; have hx_ := lw5_hx hb qa15; have hbt := below_step hx_ hb; obtain ⟨lo103, hi103, hl_, hh_, hc_⟩ := lw5_iv (Nat.le_trans HN.out (below_size hx_)) hb.size; have CHlo103 := qO (show hi93 ≤ lo103 ∧ lo103 ≤ hi103 from hc_); clear hc_; replace BK3 := qO (blk_below (g := gb1) BK3.out hbt); replace HO18 := qO (Kd.S_below HO18.out hbt); replace HO24 := qO (Kd.R_below HO24.out hbt); replace HO33 := qO (Kd.S_below HO33.out hbt); replace BK37 := qO (blk_below (g := gb35) BK37.out hbt); replace HO48 := qO (Kd.S_below HO48.out hbt); replace BK52 := qO (blk_below (g := gb50) BK52.out hbt); replace HO63 := qO (Kd.R_below HO63.out hbt); replace HO72 := qO (Kd.S_below HO72.out hbt); replace BK76 := qO (blk_below (g := gb74) BK76.out hbt); replace HO94 := qO (Kd.S_below HO94.out hbt); have HO104 := qO (Kd.R_mono (ok' := fun k_ => lo103 ≤ k_ ∧ k_ < hi103) (Kd.R_lower (Kd.R_bound ho0) (below_size (below_step HB.out hx_))) (fun k_ hk_ => ⟨qa137, qa118⟩)); replace HN := qO ((show hi103 ≤ w102.heap.size from Nat.le_of_eq hh_)); replace HB := qO (below_step HB.out hbt); replace HX := qO (Below.refl w102.heap.size w102); clear hb hbt hx_ hl_ hh_; (try clear ho0); obtain ⟨Aoo105, coo105, eoo105⟩ := Kd.R_slice HO104.out; (first | subst eoo105 | (injection eoo105 with f1_ f2_ f3_; have f4_ := f1_.symm; have f5_ := f3_.symm; clear f1_ f2_ f3_; subst f4_; subst f5_)); skip) | ((with_reducible refine gate_callee (f := 29) rfl ?_); refine goesL_ (some 72) rfl rfl Try.func29 qa5 rfl #[.slice Aoo64 t59.length coo64, .slice Aoo105 t100.length coo105] rfl qa35 ?_; (with_reducible refine (laws_eqPutS.calls k _ _ t59 _ _ t100 true _ ?side1 ?side2 ?side3 ?side4 A107.out).mono ?_); (case side1 => exact qa131); (case side2 => have z_ := Kd.R_reads' HO63.out; have y_ := z_.1; have x_ := z_.2.1; omega); (case side3 => exact Kd.C_below (Kd.R_reads' HO104.out).2.2 (by repeat (first | (with_reducible first | exact HX.out | apply qbA | apply qbN | apply qbD) | exact HX.out))); (case side4 => have z_ := Kd.R_reads' HO104.out; have y_ := z_.1; have x_ := z_.2.1; omega); rintro e w108 ⟨rfl, hb⟩; refine ⟨_, rfl, ?_⟩; have hx_ := lw5_hx hb qa15; have hbt := below_step hx_ hb; replace BK3 := qO (blk_below (g := gb1) BK3.out hbt); replace HO18 := qO (Kd.S_below HO18.out hbt); replace HO24 := qO (Kd.R_below HO24.out hbt); replace HO33 := qO (Kd.S_below HO33.out hbt); replace BK37 := qO (blk_below (g := gb35) BK37.out hbt); replace HO48 := qO (Kd.S_below HO48.out hbt); replace BK52 := qO (blk_below (g := gb50) BK52.out hbt); replace HO63 := qO (Kd.R_below HO63.out hbt); replace HO72 := qO (Kd.S_below HO72.out hbt); replace BK76 := qO (blk_below (g := gb74) BK76.out hbt); replace HO94 := qO (Kd.S_below HO94.out hbt); replace HO104 := qO (Kd.R_below HO104.out hbt); replace HN := qO (Nat.le_trans (Nat.le_trans HN.out (below_size hx_)) hb.size); replace HB := qO (below_step HB.out hbt); replace HX := qO (Below.refl w108.heap.size w108); clear hb hbt hx_; have hcz15_0_BK52 : w108.cell? ⟨gb50, 0, none⟩ = some (.slice Aoo49 t43.length coo49) := (blk_cell BK52.out 0).trans rfl; have hcz15_1_BK52 : w108.cell? ⟨gb50, 1, none⟩ = some (.int .i64 t44) := (blk_cell BK52.out 1).trans rfl) | ((with_reducible refine gate_callee (f := 16) rfl ?_); refine goesL_ (some 76) rfl rfl Try.func16 qa5 rfl #[.agg #[.slice Aoo49 t43.length coo49, .int .i64 t44], .int .i64 1] rfl qa35 ?_; (with_reducible refine (laws_markStore.calls k (fun k_ => lo47 ≤ k_ ∧ k_ < hi47) _ t43 t44 1 t110 t111 w _ ?sB ?s0 A112.out).mono ?_); (case sB => exact qa114); (case s0 => exact Kd.S_below HO48.out (by repeat (first | (with_reducible first | exact HX.out | apply qbA | apply qbN | apply qbD) | exact HX.out))); rintro e w113 ⟨rfl, hy0, hb0, hkp⟩; refine ⟨_, rfl, ?_⟩; have hkt := Kept.then_ (Kept.of_below qa15 (fun k_ => (lo47 ≤ k_ ∧ k_ < hi47))) hkp (fun k_ h_ => .inl h_); have zz_ := And.intro CHlo4.out (And.intro CHlo17.out (And.intro CHlo23.out (And.intro CHlo32.out (And.intro CHgb35.out (And.intro CHlo47.out (And.intro CHgb50.out (And.intro CHlo62.out (And.intro CHlo71.out (And.intro CHgb74.out (And.intro CHlo93.out (CHlo103.out))))))))))); obtain ⟨lo114, hi114, hl_, hh_, hc_⟩ := lw5_ivk hkp (Nat.le_trans HN.out (below_size qa15)); have CHlo114 := qO (show hi103 ≤ lo114 ∧ lo114 ≤ hi114 from hc_); clear hc_; replace BK3 := qO (blk_kept (g := gb1) BK3.out hkt (fun h2_ => lw5_no IVgb1.out h2_ qa36)); replace HO18 := qO (Kd.S_kept HO18.out hkt (fun _ h1_ h2_ => lw5_no h1_ h2_ qa36)); replace HO24 := qO (Kd.R_kept HO24.out hkt (fun _ h1_ h2_ => lw5_no h1_ h2_ qa36)); replace HO33 := qO (Kd.S_kept HO33.out hkt (fun _ h1_ h2_ => lw5_no h1_ h2_ qa36)); replace BK37 := qO (blk_kept (g := gb35) BK37.out hkt (fun h2_ => lw5_no IVgb35.out h2_ qa36)); replace BK52 := qO (blk_kept (g := gb50) BK52.out hkt (fun h2_ => lw5_no IVgb50.out h2_ qa36)); replace HO63 := qO (Kd.R_kept HO63.out hkt (fun _ h1_ h2_ => lw5_no h1_ h2_ qa36)); replace HO72 := qO (Kd.S_kept HO72.out hkt (fun _ h1_ h2_ => lw5_no h1_ h2_ qa36)); replace BK76 := qO (blk_kept (g := gb74) BK76.out hkt (fun h2_ => lw5_no IVgb74.out h2_ qa36)); replace HO94 := qO (Kd.S_kept HO94.out hkt (fun _ h1_ h2_ => lw5_no h1_ h2_ qa36)); replace HO104 := qO (Kd.R_kept HO104.out hkt (fun _ h1_ h2_ => lw5_no h1_ h2_ qa36)); replace HO48 := qO ((show Kd.S (Kd.slice 43 k43) 41 w113 w.heap.size (fun k_ => (lo47 ≤ k_ ∧ k_ < hi47) ∨ (lo114 ≤ k_ ∧ k_ < hi114)) (.slice Aoo49 t43.length coo49) t111 from Kd.S_mono (Kd.S_bound hy0) (fun _ hk_ => hk_.1.elim (fun z_ => .inl z_) (fun z_ => .inr ⟨by rw [hl_]; exact z_, qa118⟩)))); replace HN := qO ((show hi114 ≤ w113.heap.size from Nat.le_of_eq hh_)); replace HB := qO (hb0); replace HX := qO (Below.refl w113.heap.size w113); clear hkp hb0 hkt zz_ hl_ hh_; (try clear hy0); have LEN115 := qO (Kd.S_reads' HO48.out).1; skip) | ((with_reducible refine gate_callee (f := 30) rfl ?_); refine goesL_ (some 79) rfl rfl Try.func30 qa5 rfl #[.slice Aoo64 t59.length coo64, .int .i64 t110] rfl qa35 ?_; (with_reducible refine (laws_markPutS.calls k (fun k_ => lo62 ≤ k_ ∧ k_ < hi62) _ t59 t110 t116 t117 w _ ?sB ?s0 A118.out).mono ?_); (case sB => exact qa114); (case s0 => exact Kd.R_below HO63.out (by repeat (first | (with_reducible first | exact HX.out | apply qbA | apply qbN | apply qbD) | exact HX.out))); rintro e w119 ⟨rfl, hy0, hb0, hkp⟩; refine ⟨_, rfl, ?_⟩; have hkt := Kept.then_ (Kept.of_below qa15 (fun k_ => (lo62 ≤ k_ ∧ k_ < hi62))) hkp (fun k_ h_ => .inl h_); have zz_ := And.intro CHlo4.out (And.intro CHlo17.out (And.intro CHlo23.out (And.intro CHlo32.out (And.intro CHgb35.out (And.intro CHlo47.out (And.intro CHgb50.out (And.intro CHlo62.out (And.intro CHlo71.out (And.intro CHgb74.out (And.intro CHlo93.out (And.intro CHlo103.out (CHlo114.out)))))))))))); obtain ⟨lo120, hi120, hl_, hh_, hc_⟩ := lw5_ivk hkp (Nat.le_trans HN.out (below_size qa15)); have CHlo120 := qO (show hi114 ≤ lo120 ∧ lo120 ≤ hi120 from hc_); clear hc_; replace BK3 := qO (blk_kept (g := gb1) BK3.out hkt (fun h2_ => lw5_no IVgb1.out h2_ qa36)); replace HO18 := qO (Kd.S_kept HO18.out hkt (fun _ h1_ h2_ => lw5_no h1_ h2_ qa36)); replace HO24 := qO (Kd.R_kept HO24.out hkt (fun _ h1_ h2_ => lw5_no h1_ h2_ qa36)); replace HO33 := qO (Kd.S_kept HO33.out hkt (fun _ h1_ h2_ => lw5_no h1_ h2_ qa36)); replace BK37 := qO (blk_kept (g := gb35) BK37.out hkt (fun h2_ => lw5_no IVgb35.out h2_ qa36)); replace HO48 := qO (Kd.S_kept HO48.out hkt (fun _ h1_ h2_ => lw5_on h1_ h2_ qa36)); replace BK52 := qO (blk_kept (g := gb50) BK52.out hkt (fun h2_ => lw5_no IVgb50.out h2_ qa36)); replace HO72 := qO (Kd.S_kept HO72.out hkt (fun _ h1_ h2_ => lw5_no h1_ h2_ qa36)); replace BK76 := qO (blk_kept (g := gb74) BK76.out hkt (fun h2_ => lw5_no IVgb74.out h2_ qa36)); replace HO94 := qO (Kd.S_kept HO94.out hkt (fun _ h1_ h2_ => lw5_no h1_ h2_ qa36)); replace HO104 := qO (Kd.R_kept HO104.out hkt (fun _ h1_ h2_ => lw5_no h1_ h2_ qa36)); replace HO63 := qO ((show Kd.R k58 58 w119 w.heap.size (fun k_ => (lo62 ≤ k_ ∧ k_ < hi62) ∨ (lo120 ≤ k_ ∧ k_ < hi120)) (.slice Aoo64 t59.length coo64) t117 from Kd.R_mono (Kd.R_bound hy0) (fun _ hk_ => hk_.1.elim (fun z_ => .inl z_) (fun z_ => .inr ⟨by rw [hl_]; exact z_, qa118⟩)))); replace HN := qO ((show hi120 ≤ w119.heap.size from Nat.le_of_eq hh_)); replace HB := qO (hb0); replace HX := qO (Below.refl w119.heap.size w119); clear hkp hb0 hkt zz_ hl_ hh_; (try clear hy0); have LEN121 := qO (Kd.R_reads' HO63.out).1; have hcz17_0_BK37 : w119.cell? ⟨gb35, 0, none⟩ = some (.slice Aoo34 t26.length coo34) := (blk_cell BK37.out 0).trans rfl; have hcz17_1_BK37 : w119.cell? ⟨gb35, 1, none⟩ = some (.int .i64 t27) := (blk_cell BK37.out 1).trans rfl; have hcz17_0_BK76 : w119.cell? ⟨gb74, 0, none⟩ = some (.slice Aoo73 t65.length coo73) := (blk_cell BK76.out 0).trans rfl; have hcz17_1_BK76 : w119.cell? ⟨gb74, 1, none⟩ = some (.int .i64 t66) := (blk_cell BK76.out 1).trans rfl) | (go_at_call 15; (with_reducible refine (laws_eqStore.calls k _ _ t65 t66 _ _ t26 t27 true _ ?side1 ?side2 ?side3 ?side4 A123.out).mono ?_); (case side1 => exact qa103); (case side2 => exact qa136); (case side3 => exact Kd.C_below (Kd.S_reads' HO33.out).2.2 (by repeat (first | (with_reducible first | exact HX.out | apply qbA | apply qbN | apply qbD) | exact HX.out))); (case side4 => exact qa150); rintro e w124 ⟨rfl, hb⟩; have hx_ := lw5_hx hb qa15; have hbt := below_step hx_ hb; replace BK3 := qO (blk_below (g := gb1) BK3.out hbt); replace HO18 := qO (Kd.S_below HO18.out hbt); replace HO24 := qO (Kd.R_below HO24.out hbt); replace HO33 := qO (Kd.S_below HO33.out hbt); replace BK37 := qO (blk_below (g := gb35) BK37.out hbt); replace HO48 := qO (Kd.S_below HO48.out hbt); replace BK52 := qO (blk_below (g := gb50) BK52.out hbt); replace HO63 := qO (Kd.R_below HO63.out hbt); replace HO72 := qO (Kd.S_below HO72.out hbt); replace BK76 := qO (blk_below (g := gb74) BK76.out hbt); replace HO94 := qO (Kd.S_below HO94.out hbt); replace HO104 := qO (Kd.R_below HO104.out hbt); replace HN := qO (Nat.le_trans (Nat.le_trans HN.out (below_size hx_)) hb.size); replace HB := qO (below_step HB.out hbt); replace HX := qO (Below.refl w124.heap.size w124); clear hb hbt hx_; have hcz18_0_BK76 : w124.cell? ⟨gb74, 0, none⟩ = some (.slice Aoo73 t65.length coo73) := (blk_cell BK76.out 0).trans rfl; have hcz18_1_BK76 : w124.cell? ⟨gb74, 1, none⟩ = some (.int .i64 t66) := (blk_cell BK76.out 1).trans rfl) | ((with_reducible refine gate_callee (f := 16) rfl ?_); refine goesL_ (some 100) rfl rfl Try.func16 qa5 rfl #[.agg #[.slice Aoo73 t65.length coo73, .int .i64 t66], .int .i64 1] rfl qa35 ?_; (with_reducible refine (laws_markStore.calls k (fun k_ => lo71 ≤ k_ ∧ k_ < hi71) _ t65 t66 1 t126 t127 w _ ?sB ?s0 A128.out).mono ?_); (case sB => exact qa114); (case s0 => exact Kd.S_below HO72.out (by repeat (first | (with_reducible first | exact HX.out | apply qbA | apply qbN | apply qbD) | exact HX.out))); rintro e w129 ⟨rfl, hy0, hb0, hkp⟩; refine ⟨_, rfl, ?_⟩; have hkt := Kept.then_ (Kept.of_below qa15 (fun k_ => (lo71 ≤ k_ ∧ k_ < hi71))) hkp (fun k_ h_ => .inl h_); have zz_ := And.intro CHlo4.out (And.intro CHlo17.out (And.intro CHlo23.out (And.intro CHlo32.out (And.intro CHgb35.out (And.intro CHlo47.out (And.intro CHgb50.out (And.intro CHlo62.out (And.intro CHlo71.out (And.intro CHgb74.out (And.intro CHlo93.out (And.intro CHlo103.out (And.intro CHlo114.out (CHlo120.out))))))))))))); obtain ⟨lo130, hi130, hl_, hh_, hc_⟩ := lw5_ivk hkp (Nat.le_trans HN.out (below_size qa15)); have CHlo130 := qO (show hi120 ≤ lo130 ∧ lo130 ≤ hi130 from hc_); clear hc_; replace BK3 := qO (blk_kept (g := gb1) BK3.out hkt (fun h2_ => lw5_no IVgb1.out h2_ qa36)); replace HO18 := qO (Kd.S_kept HO18.out hkt (fun _ h1_ h2_ => lw5_no h1_ h2_ qa36)); replace HO24 := qO (Kd.R_kept HO24.out hkt (fun _ h1_ h2_ => lw5_no h1_ h2_ qa36)); replace HO33 := qO (Kd.S_kept HO33.out hkt (fun _ h1_ h2_ => lw5_no h1_ h2_ qa36)); replace BK37 := qO (blk_kept (g := gb35) BK37.out hkt (fun h2_ => lw5_no IVgb35.out h2_ qa36)); replace HO48 := qO (Kd.S_kept HO48.out hkt (fun _ h1_ h2_ => lw5_on h1_ h2_ qa36)); replace BK52 := qO (blk_kept (g := gb50) BK52.out hkt (fun h2_ => lw5_no IVgb50.out h2_ qa36)); replace HO63 := qO (Kd.R_kept HO63.out hkt (fun _ h1_ h2_ => lw5_on h1_ h2_ qa36)); replace BK76 := qO (blk_kept (g := gb74) BK76.out hkt (fun h2_ => lw5_no IVgb74.out h2_ qa36)); replace HO94 := qO (Kd.S_kept HO94.out hkt (fun _ h1_ h2_ => lw5_no h1_ h2_ qa36)); replace HO104 := qO (Kd.R_kept HO104.out hkt (fun _ h1_ h2_ => lw5_no h1_ h2_ qa36)); replace HO72 := qO ((show Kd.S (Kd.slice 43 k43) 41 w129 w.heap.size (fun k_ => (lo71 ≤ k_ ∧ k_ < hi71) ∨ (lo130 ≤ k_ ∧ k_ < hi130)) (.slice Aoo73 t65.length coo73) t127 from Kd.S_mono (Kd.S_bound hy0) (fun _ hk_ => hk_.1.elim (fun z_ => .inl z_) (fun z_ => .inr ⟨by rw [hl_]; exact z_, qa118⟩)))); replace HN := qO ((show hi130 ≤ w129.heap.size from Nat.le_of_eq hh_)); replace HB := qO (hb0); replace HX := qO (Below.refl w129.heap.size w129); clear hkp hb0 hkt zz_ hl_ hh_; (try clear hy0); have LEN131 := qO (Kd.S_reads' HO72.out).1; have hcz19_0_BK76 : w129.cell? ⟨gb74, 0, none⟩ = some (.slice Aoo73 t65.length coo73) := (blk_cell BK76.out 0).trans rfl; have hcz19_1_BK76 : w129.cell? ⟨gb74, 1, none⟩ = some (.int .i64 t66) := (blk_cell BK76.out 1).trans rfl) | ((with_reducible refine gate_callee (f := 17) rfl ?_); refine goesL_ (some 103) rfl rfl Try.func17 qa5 rfl #[.agg #[.slice Aoo73 t127.length coo73, .int .i64 t66], .int .i64 1] rfl qa138 ?_; (with_reducible refine (laws_heldStore.calls k _ _ t127 t66 1 t132 _ ?side1 ?side2 A133.out).mono ?_); (case side1 => exact qa103); (case side2 => exact qa136); rintro e w134 ⟨rfl, hb⟩; refine ⟨_, rfl, ?_⟩; have hx_ := lw5_hx hb qa15; have hbt := below_step hx_ hb; replace BK3 := qO (blk_below (g := gb1) BK3.out hbt); replace HO18 := qO (Kd.S_below HO18.out hbt); replace HO24 := qO (Kd.R_below HO24.out hbt); replace HO33 := qO (Kd.S_below HO33.out hbt); replace BK37 := qO (blk_below (g := gb35) BK37.out hbt); replace HO48 := qO (Kd.S_below HO48.out hbt); replace BK52 := qO (blk_below (g := gb50) BK52.out hbt); replace HO63 := qO (Kd.R_below HO63.out hbt); replace HO72 := qO (Kd.S_below HO72.out hbt); replace BK76 := qO (blk_below (g := gb74) BK76.out hbt); replace HO94 := qO (Kd.S_below HO94.out hbt); replace HO104 := qO (Kd.R_below HO104.out hbt); replace HN := qO (Nat.le_trans (Nat.le_trans HN.out (below_size hx_)) hb.size); replace HB := qO (below_step HB.out hbt); replace HX := qO (Below.refl w134.heap.size w134); clear hb hbt hx_; have hcz20_0_BK3 : w134.cell? ⟨gb1, 0, none⟩ = some (.slice A0_0 l0_0.length c0_0) := (blk_cell BK3.out 0).trans rfl; have hcz20_1_BK3 : w134.cell? ⟨gb1, 1, none⟩ = some (.int .i64 a0_1) := (blk_cell BK3.out 1).trans rfl) | ((with_reducible refine gate_callee (f := 13) rfl ?_); refine goesL_ (some 111) rfl rfl Try.func13 qa5 rfl #[.agg #[.slice A0_0 l0_0.length c0_0, .int .i64 a0_1]] rfl qa35 ?_; (with_reducible refine (laws_toStore.calls k _ _ l0_0 a0_1 t136 t137 _ ?side1 ?side2 A138.out).mono ?_); (case side1 => exact qa72); (case side2 => exact HC0_0.out); rintro e w139 ⟨vt136, rfl, ho0, hb⟩; refine ⟨_, rfl, ?_⟩; have hx_ := lw5_hx hb qa15; have hbt := below_step hx_ hb; obtain ⟨lo140, hi140, hl_, hh_, hc_⟩ := lw5_iv (Nat.le_trans HN.out (below_size hx_)) hb.size; have CHlo140 := qO (show hi130 ≤ lo140 ∧ lo140 ≤ hi140 from hc_); clear hc_; replace BK3 := qO (blk_below (g := gb1) BK3.out hbt); replace HO18 := qO (Kd.S_below HO18.out hbt); replace HO24 := qO (Kd.R_below HO24.out hbt); replace HO33 := qO (Kd.S_below HO33.out hbt); replace BK37 := qO (blk_below (g := gb35) BK37.out hbt); replace HO48 := qO (Kd.S_below HO48.out hbt); replace BK52 := qO (blk_below (g := gb50) BK52.out hbt); replace HO63 := qO (Kd.R_below HO63.out hbt); replace HO72 := qO (Kd.S_below HO72.out hbt); replace BK76 := qO (blk_below (g := gb74) BK76.out hbt); replace HO94 := qO (Kd.S_below HO94.out hbt); replace HO104 := qO (Kd.R_below HO104.out hbt); have HO141 := qO (Kd.S_mono (ok' := fun k_ => lo140 ≤ k_ ∧ k_ < hi140) (Kd.S_lower (Kd.S_bound ho0) (below_size (below_step HB.out hx_))) (fun k_ hk_ => ⟨qa137, qa118⟩)); replace HN := qO ((show hi140 ≤ w139.heap.size from Nat.le_of_eq hh_)); replace HB := qO (below_step HB.out hbt); replace HX := qO (Below.refl w139.heap.size w139); clear hb hbt hx_ hl_ hh_; (try clear ho0); obtain ⟨Aoo142, coo142, eoo142⟩ := Kd.S_slice HO141.out; (first | subst eoo142 | (injection eoo142 with f1_ f2_ f3_; have f4_ := f1_.symm; have f5_ := f3_.symm; clear f1_ f2_ f3_; subst f4_; subst f5_)); skip) | ((with_reducible refine gate_callee (f := 27) rfl ?_); refine goesL_ (some 113) rfl rfl Try.func27 qa5 rfl #[.slice A1 l1.length c1] rfl qa35 ?_; (with_reducible refine (laws_toPutS.calls k _ _ l1 t143 _ ?side1 ?side2 A144.out).mono ?_); (case side1 => exact qa73); (case side2 => exact HC1.out); rintro e w145 ⟨vt143, rfl, ho0, hb⟩; refine ⟨_, rfl, ?_⟩; have hx_ := lw5_hx hb qa15; have hbt := below_step hx_ hb; obtain ⟨lo146, hi146, hl_, hh_, hc_⟩ := lw5_iv (Nat.le_trans HN.out (below_size hx_)) hb.size; have CHlo146 := qO (show hi140 ≤ lo146 ∧ lo146 ≤ hi146 from hc_); clear hc_; replace BK3 := qO (blk_below (g := gb1) BK3.out hbt); replace HO18 := qO (Kd.S_below HO18.out hbt); replace HO24 := qO (Kd.R_below HO24.out hbt); replace HO33 := qO (Kd.S_below HO33.out hbt); replace BK37 := qO (blk_below (g := gb35) BK37.out hbt); replace HO48 := qO (Kd.S_below HO48.out hbt); replace BK52 := qO (blk_below (g := gb50) BK52.out hbt); replace HO63 := qO (Kd.R_below HO63.out hbt); replace HO72 := qO (Kd.S_below HO72.out hbt); replace BK76 := qO (blk_below (g := gb74) BK76.out hbt); replace HO94 := qO (Kd.S_below HO94.out hbt); replace HO104 := qO (Kd.R_below HO104.out hbt); replace HO141 := qO (Kd.S_below HO141.out hbt); have HO147 := qO (Kd.R_mono (ok' := fun k_ => lo146 ≤ k_ ∧ k_ < hi146) (Kd.R_lower (Kd.R_bound ho0) (below_size (below_step HB.out hx_))) (fun k_ hk_ => ⟨qa137, qa118⟩)); replace HN := qO ((show hi146 ≤ w145.heap.size from Nat.le_of_eq hh_)); replace HB := qO (below_step HB.out hbt); replace HX := qO (Below.refl w145.heap.size w145); clear hb hbt hx_ hl_ hh_; (try clear ho0); obtain ⟨Aoo148, coo148, eoo148⟩ := Kd.R_slice HO147.out; (first | subst eoo148 | (injection eoo148 with f1_ f2_ f3_; have f4_ := f1_.symm; have f5_ := f3_.symm; clear f1_ f2_ f3_; subst f4_; subst f5_)); skip) | ((with_reducible refine gate_callee (f := 28) rfl ?_); refine goesL_ (some 114) rfl rfl Try.func28 qa5 rfl #[.agg #[.slice Aoo142 t136.length coo142, .int .i64 t137], .slice Aoo148 t143.length coo148] rfl qa35 ?_; (with_reducible refine (impl_WriteAll.calls k _ _ t136 t137 _ _ t143 t149 t150 t151 t152 _ ?side1 ?side2 ?side3 ?side4 A153.out).mono ?_); (case side1 => exact Kd.C_below (Kd.S_reads' HO141.out).2.2 (by repeat (first | (with_reducible first | exact HX.out | apply qbA | apply qbN | apply qbD) | exact HX.out))); (case side2 => have z_ := Kd.S_reads' HO141.out; have y_ := z_.1; have x_ := z_.2.1; omega); (case side3 => exact Kd.C_below (Kd.R_reads' HO147.out).2.2 (by repeat (first | (with_reducible first | exact HX.out | apply qbA | apply qbN | apply qbD) | exact HX.out))); (case side4 => have z_ := Kd.R_reads' HO147.out; have y_ := z_.1; have x_ := z_.2.1; omega); rintro e w154 ⟨vt149, rfl, ho0, hb⟩; refine ⟨_, rfl, ?_⟩; have hx_ := lw5_hx hb qa15; have hbt := below_step hx_ hb; obtain ⟨lo155, hi155, hl_, hh_, hc_⟩ := lw5_iv (Nat.le_trans HN.out (below_size hx_)) hb.size; have CHlo155 := qO (show hi146 ≤ lo155 ∧ lo155 ≤ hi155 from hc_); clear hc_; replace BK3 := qO (blk_below (g := gb1) BK3.out hbt); replace HO18 := qO (Kd.S_below HO18.out hbt); replace HO24 := qO (Kd.R_below HO24.out hbt); replace HO33 := qO (Kd.S_below HO33.out hbt); replace BK37 := qO (blk_below (g := gb35) BK37.out hbt); replace HO48 := qO (Kd.S_below HO48.out hbt); replace BK52 := qO (blk_below (g := gb50) BK52.out hbt); replace HO63 := qO (Kd.R_below HO63.out hbt); replace HO72 := qO (Kd.S_below HO72.out hbt); replace BK76 := qO (blk_below (g := gb74) BK76.out hbt); replace HO94 := qO (Kd.S_below HO94.out hbt); replace HO104 := qO (Kd.R_below HO104.out hbt); replace HO141 := qO (Kd.S_below HO141.out hbt); replace HO147 := qO (Kd.R_below HO147.out hbt); have HO156 := qO (Kd.S_mono (ok' := fun k_ => lo155 ≤ k_ ∧ k_ < hi155) (Kd.S_lower (Kd.S_bound ho0) (below_size (below_step HB.out hx_))) (fun k_ hk_ => ⟨qa137, qa118⟩)); replace HN := qO ((show hi155 ≤ w154.heap.size from Nat.le_of_eq hh_)); replace HB := qO (below_step HB.out hbt); replace HX := qO (Below.refl w154.heap.size w154); clear hb hbt hx_ hl_ hh_; (try clear ho0); obtain ⟨Aoo157, coo157, eoo157⟩ := Kd.S_slice HO156.out; (first | subst eoo157 | (injection eoo157 with f1_ f2_ f3_; have f4_ := f1_.symm; have f5_ := f3_.symm; clear f1_ f2_ f3_; subst f4_; subst f5_)); skip) | ((with_reducible refine gate_dst (N := 17) rfl ?_); refine box_event ?hg (N := 17) ?hd (cs := #[.slice none 0 0, .int .i64 0]) (t := 28) ?hr ?_; (case hd => rfl); (case hg => rfl); (case hr => exact qa11); intro gb158 hg w159 hbox hb; have GEgb158 := qO (qa94 : _ ≤ gb158); have BK160r := qO hbox; have n0_ := qO (below_step qa15 hb); have hnb161 : gb158 ≠ gb1 := (fun e_ => by have z1_ := GEgb158.out; have z2_ := blk_lt BK3.out; omega); have hnb161c : gb1 ≠ gb158 := fun e_ => hnb161 e_.symm; have hnb162 : gb158 ≠ gb35 := (fun e_ => by have z1_ := GEgb158.out; have z2_ := blk_lt BK37.out; omega); have hnb162c : gb35 ≠ gb158 := fun e_ => hnb162 e_.symm; have hnb163 : gb158 ≠ gb50 := (fun e_ => by have z1_ := GEgb158.out; have z2_ := blk_lt BK52.out; omega); have hnb163c : gb50 ≠ gb158 := fun e_ => hnb163 e_.symm; have hnb164 : gb158 ≠ gb74 := (fun e_ => by have z1_ := GEgb158.out; have z2_ := blk_lt BK76.out; omega); have hnb164c : gb74 ≠ gb158 := fun e_ => hnb164 e_.symm; clear HX; have HX := n0_; clear n0_ hb hg; have hcz165 : w159.cell? ⟨gb158, 0, none⟩ = some (.slice none 0 0) := (blk_cell BK160r.out 0).trans rfl; have hfz166 := blk_frozen BK160r.out 0; have hcz167 : w159.cell? ⟨gb158, 1, none⟩ = some (.int .i64 0) := (blk_cell BK160r.out 1).trans rfl; have hfz168 := blk_frozen BK160r.out 1; have hcz24_0_BK37 : w159.cell? ⟨gb35, 0, none⟩ = some (.slice Aoo34 t26.length coo34) := (blk_cell (blk_below (g := gb35) BK37.out HX.out) 0).trans rfl; have hcz24_1_BK37 : w159.cell? ⟨gb35, 1, none⟩ = some (.int .i64 t27) := (blk_cell (blk_below (g := gb35) BK37.out HX.out) 1).trans rfl; clear hbox) | ((with_reducible refine gate_callee (f := 15) rfl ?_); refine goesL_ (some 120) rfl rfl Try.func15 qa5 rfl #[.agg #[.slice Aoo157 t149.length coo157, .int .i64 t150], .agg #[.slice Aoo34 t26.length coo34, .int .i64 t27]] rfl qa35 ?_; (with_reducible refine (laws_eqStore.calls k _ _ t149 t150 _ _ t26 t27 true _ ?side1 ?side2 ?side3 ?side4 A170.out).mono ?_); (case side1 => exact Kd.C_below (Kd.S_reads' HO156.out).2.2 (by repeat (first | (with_reducible first | exact HX.out | apply qbA | apply qbN | apply qbD | refine qbS ?_ GEgb158.out) | exact HX.out))); (case side2 => have z_ := Kd.S_reads' HO156.out; have y_ := z_.1; have x_ := z_.2.1; omega); (case side3 => exact Kd.C_below (Kd.S_reads' HO33.out).2.2 (by repeat (first | (with_reducible first | exact HX.out | apply qbA | apply qbN | apply qbD | refine qbS ?_ GEgb158.out) | exact HX.out))); (case side4 => exact qa150); rintro e w171 ⟨rfl, hb⟩; refine ⟨_, rfl, ?_⟩; have hx_ := lw5_hx hb (by repeat (first | (with_reducible first | exact HX.out | apply qbA | apply qbN | apply qbD | refine qbS ?_ GEgb158.out) | exact HX.out)); have hp_ := lw5_lt (g := gb158) (o := .cells #[.slice Aoo157 t149.length coo157, .int .i64 t150] 28 (0, 0)) hb (by (with_reducible repeat (first | refine qkN ?_ _ | refine qkD ?_ | refine qkA ?_ _)); refine blk_put (cs := #[.slice Aoo157 t149.length coo157, .int .i64 0]) ?_ 1 _ rfl; (with_reducible repeat (first | refine qkN ?_ _ | refine qkD ?_ | refine qkA ?_ _)); refine blk_put (cs := #[.slice none 0 0, .int .i64 0]) ?_ 0 _ rfl; (with_reducible repeat (first | refine qkN ?_ _ | refine qkD ?_ | refine qkA ?_ _)); exact BK160r.out); have CHgb158 := qO (show hi155 ≤ gb158 from Nat.le_trans HN.out GEgb158.out); have hbt := below_step hx_ hb; have BK160 := qO (hp_.2); replace BK3 := qO (blk_below (g := gb1) BK3.out hbt); replace HO18 := qO (Kd.S_below HO18.out hbt); replace HO24 := qO (Kd.R_below HO24.out hbt); replace HO33 := qO (Kd.S_below HO33.out hbt); replace BK37 := qO (blk_below (g := gb35) BK37.out hbt); replace HO48 := qO (Kd.S_below HO48.out hbt); replace BK52 := qO (blk_below (g := gb50) BK52.out hbt); replace HO63 := qO (Kd.R_below HO63.out hbt); replace HO72 := qO (Kd.S_below HO72.out hbt); replace BK76 := qO (blk_below (g := gb74) BK76.out hbt); replace HO94 := qO (Kd.S_below HO94.out hbt); replace HO104 := qO (Kd.R_below HO104.out hbt); replace HO141 := qO (Kd.S_below HO141.out hbt); replace HO147 := qO (Kd.R_below HO147.out hbt); replace HO156 := qO (Kd.S_below HO156.out hbt); replace HN := qO (Nat.le_trans (hp_.1) hb.size); replace HB := qO (below_step HB.out hbt); replace HX := qO (Below.refl w171.heap.size w171); have IVgb158 := qO (show gb158 ≤ gb158 ∧ gb158 < gb158 + 1 from ⟨Nat.le_refl _, Nat.lt_succ_self _⟩); clear hb hbt hx_ hp_; have hcz25_0_BK76 : w171.cell? ⟨gb74, 0, none⟩ = some (.slice Aoo73 t65.length coo73) := (blk_cell BK76.out 0).trans rfl; have hcz25_1_BK76 : w171.cell? ⟨gb74, 1, none⟩ = some (.int .i64 t66) := (blk_cell BK76.out 1).trans rfl) | ((with_reducible refine gate_callee (f := 17) rfl ?_); refine goesL_ (some 134) rfl rfl Try.func17 qa5 rfl #[.agg #[.slice Aoo73 t127.length coo73, .int .i64 t66], .int .i64 1] rfl qa138 ?_; (with_reducible refine (laws_heldStore.calls k _ _ t127 t66 1 t173 _ ?side1 ?side2 A174.out).mono ?_); (case side1 => exact qa103); (case side2 => exact qa136); rintro e w175 ⟨rfl, hb⟩; refine ⟨_, rfl, ?_⟩; have hx_ := lw5_hx hb qa15; have hbt := below_step hx_ hb; replace BK3 := qO (blk_below (g := gb1) BK3.out hbt); replace HO18 := qO (Kd.S_below HO18.out hbt); replace HO24 := qO (Kd.R_below HO24.out hbt); replace HO33 := qO (Kd.S_below HO33.out hbt); replace BK37 := qO (blk_below (g := gb35) BK37.out hbt); replace HO48 := qO (Kd.S_below HO48.out hbt); replace BK52 := qO (blk_below (g := gb50) BK52.out hbt); replace HO63 := qO (Kd.R_below HO63.out hbt); replace HO72 := qO (Kd.S_below HO72.out hbt); replace BK76 := qO (blk_below (g := gb74) BK76.out hbt); replace HO94 := qO (Kd.S_below HO94.out hbt); replace HO104 := qO (Kd.R_below HO104.out hbt); replace HO141 := qO (Kd.S_below HO141.out hbt); replace HO147 := qO (Kd.R_below HO147.out hbt); replace HO156 := qO (Kd.S_below HO156.out hbt); replace BK160 := qO (blk_below (g := gb158) BK160.out hbt); replace HN := qO (Nat.le_trans (Nat.le_trans HN.out (below_size hx_)) hb.size); replace HB := qO (below_step HB.out hbt); replace HX := qO (Below.refl w175.heap.size w175); clear hb hbt hx_; skip))
   go_ret
   exact ⟨by first | rfl | (simp [*]; done), below_step HB.out qa15⟩

end Go.Proofs.Ytfiboooflebdpaa.Q
namespace Go.Proofs.Ytfiboooflebdpaa.Q
open Go.RowKit Go.Proofs.YtfiboooflebdpaaW.PrintWords Go.Proofs.Ytfiboooflebdpaa.Opens
set_option linter.unusedVariables false
def i141 (x : S141) : Prop := (Lit.int .i64 x.f0).wf = true ∧ (Lit.int .i64 x.f1).wf = true
theorem o141 : Opens Try.prog 141 k141 i141 := opens_struct (N := 2) Try.underlying141 qa5 (opensF_cons rfl qa5 (opens_int Try.underlying3) (opensF_one rfl rfl qa5 (opens_int Try.underlying3))) (fun y => ⟨y.1, y.2⟩) (fun _ => rfl)
def i24 (x : S24) : Prop := (x.f0.length ≤ 9223372036854775807 ∧ ∀ y1_ ∈ x.f0, (y1_.length ≤ 9223372036854775807 ∧ ∀ y2_ ∈ y1_, i141 y2_)) ∧ (Lit.int .i64 x.f1).wf = true
theorem o24 : Opens Try.prog 24 k24 i24 := opens_struct (N := 2) Try.underlying24 qa5 (opensF_cons rfl qa5 (opens_slice Try.underlying22 qa5 (opens_slice Try.underlying122 qa5 o141)) (opensF_one rfl rfl qa5 (opens_int Try.underlying3))) (fun y => ⟨y.1, y.2⟩) (fun _ => rfl)
def i76 (x : S76) : Prop := (Lit.int .i64 x.f0).wf = true ∧ (Lit.int .i64 x.f1).wf = true
theorem o76 : Opens Try.prog 76 k76 i76 := opens_struct (N := 2) Try.underlying76 qa5 (opensF_cons rfl qa5 (opens_int Try.underlying3) (opensF_one rfl rfl qa5 (opens_int Try.underlying3))) (fun y => ⟨y.1, y.2⟩) (fun _ => rfl)
def i75 (x : S75) : Prop := (Lit.int .i64 x.f0).wf = true ∧ (x.f1.length ≤ 9223372036854775807 ∧ ∀ y1_ ∈ x.f1, (Lit.int .i64 y1_).wf = true) ∧ (x.f2.length ≤ 9223372036854775807 ∧ ∀ y1_ ∈ x.f2, i76 y1_)
theorem o75 : Opens Try.prog 75 k75 i75 := opens_struct (N := 3) Try.underlying75 qa5 (opensF_cons rfl qa5 (opens_int Try.underlying3) (opensF_cons rfl qa5 (opens_slice Try.underlying60 qa5 (opens_int Try.underlying3)) (opensF_one rfl rfl qa5 (opens_slice Try.underlying48 qa5 o76)))) (fun y => ⟨y.1, y.2.1, y.2.2⟩) (fun _ => rfl)
def laws_FnExactWriteAll.Pure2 : Prop := ∀ (y0 : S24), ∀ (y1 : List (S76)), i24 y0 → (y1.length ≤ 9223372036854775807 ∧ ∀ y1_ ∈ y1, i76 y1_) → ∃ k, laws_FnExactWriteAll.f k y0.f0 y0.f1 y1 = some true
end Go.Proofs.Ytfiboooflebdpaa.Q
namespace Go.Proofs.Ytfiboooflebdpaa.Pure2
open Go.RowKit Go.Proofs.Ytfiboooflebdpaa.Q Go.Proofs.YtfiboooflebdpaaW.PrintWords Go.Proofs.YtfiboooflebdpaaW.PrintLast
set_option linter.unusedVariables false
set_option linter.unusedSimpArgs false
/-! small words -/
theorem wsucc {j n : Nat} (h : j < n) (hn : n ≤ 4611686018427387904) : wrap64 ((j : Int) + 1) = ((j + 1 : Nat) : Int) := by unfold wrap64; omega
theorem ev_step {α : Type} {g f : Nat → Option α} {r : α} (h : ∃ K, ∀ k, K ≤ k → g (k + 1) = f k) (k : Ev f r) : Ev g r := by
  obtain ⟨K, h⟩ := h
  obtain ⟨K', k⟩ := k
  refine ⟨max K K' + 1, fun n hn => ?_⟩
  obtain ⟨m, rfl⟩ : ∃ m, n = m + 1 := ⟨n - 1, qa36⟩
  rw [h m qa36, k m qa36]
theorem ev_now {α : Type} {g : Nat → Option α} {r : α} (h : ∃ K, ∀ k, K ≤ k → g (k + 1) = some r) : Ev g r := ev_step (f := fun _ => some r) h (Ev.now r)
theorem ev_same {α : Type} {g f : Nat → Option α} {r : α} (h : ∃ K, ∀ k, K ≤ k → g k = f k) (k : Ev f r) : Ev g r := by
  obtain ⟨K, h⟩ := h
  obtain ⟨K', k⟩ := k
  exact ⟨max K K', fun n hn => by rw [h n qa36, k n qa36]⟩
theorem ev_two {α β : Type} {g : Nat → Option α} {f : Nat → Option β} {r : α} {q : β} (h : Ev g r) (k : Ev f q) : ∃ K, ∀ n, K ≤ n → g n = some r ∧ f n = some q := by
  obtain ⟨K, h⟩ := h
  obtain ⟨K', k⟩ := k
  exact ⟨max K K', fun n hn => ⟨h n qa36, k n qa36⟩⟩
theorem ev_mk {α : Type} {g : Nat → Option α} {r : α} (K : Nat) (h : ∀ k, K ≤ k → g k = some r) : Ev g r := ⟨K, h⟩
theorem ev_at {α : Type} {g : Nat → Option α} {r : α} (h : Ev g r) : ∃ K, ∀ k, K ≤ k → g k = some r := h
/-- A loop that counts up to n: from the end back. -/
theorem count_loop {ρ : Type} (n : Nat) (L : Nat → Int → Option ρ) (Post : Nat → ρ → Prop) (hend : ∃ r, Post n r ∧ Ev (fun k => L k (n : Int)) r)
    (hstep : ∀ j, j < n → ∀ r, Post (j + 1) r → Ev (fun k => L k ((j + 1 : Nat) : Int)) r → ∃ r', Post j r' ∧ Ev (fun k => L k (j : Int)) r') :
    ∀ j, j ≤ n → ∃ r, Post j r ∧ Ev (fun k => L k (j : Int)) r := by
  have key : ∀ d j, j ≤ n → n - j = d → ∃ r, Post j r ∧ Ev (fun k => L k (j : Int)) r := by
    intro d
    induction d with
    | zero => intro j hj hd; obtain rfl : j = n := by omega
              exact hend
    | succ d ih =>
      intro j hj hd
      obtain ⟨r, hp, he⟩ := ih (j + 1) qa36 qa36
      exact hstep j qa36 r hp he
  intro j hj
  exact key _ j hj rfl
/-- A loop that carries a state up to n. -/
theorem state_loop {σ ρ : Type} (n : Nat) (L : Nat → σ → Int → Option ρ) (Inv : Nat → σ → Prop) (Post : Nat → σ → ρ → Prop) (hend : ∀ s, Inv n s → ∃ r, Post n s r ∧ Ev (fun k => L k s (n : Int)) r)
    (hstep : ∀ j s, j < n → Inv j s → (∃ r, Post j s r ∧ Ev (fun k => L k s (j : Int)) r) ∨ ∃ s', Inv (j + 1) s' ∧ (∀ r, Post (j + 1) s' r → Post j s r) ∧ ∃ K, ∀ k, K ≤ k → L (k + 1) s (j : Int) = L k s' ((j + 1 : Nat) : Int)) :
    ∀ j s, j ≤ n → Inv j s → ∃ r, Post j s r ∧ Ev (fun k => L k s (j : Int)) r := by
  have key : ∀ d j s, j ≤ n → n - j = d → Inv j s → ∃ r, Post j s r ∧ Ev (fun k => L k s (j : Int)) r := by
    intro d
    induction d with
    | zero => intro j s hj hd hi; obtain rfl : j = n := by omega
              exact hend s hi
    | succ d ih =>
      intro j s hj hd hi
      rcases hstep j s qa36 hi with h | ⟨s', hi', hp, hk⟩
      · exact h
      · obtain ⟨r, hr, he⟩ := ih (j + 1) s' qa36 qa36 hi'
        exact ⟨r, hp r hr, ev_step hk he⟩
  intro j s hj hi
  exact key _ j s hj rfl hi
/-- A loop that fills a row of its own. -/
theorem fill_loop {α β : Type} (xs : List α) (z : α) (g : α → β) (L : Nat → List β → Int → Option (List β)) (hend : ∀ y : List β, y.length = xs.length → ∃ K, ∀ k, K ≤ k → L (k + 1) y (xs.length : Int) = some y)
    (hstep : ∀ (j : Nat) (y : List β), j < xs.length → y.length = xs.length → ∃ K, ∀ k, K ≤ k → L (k + 1) y (j : Int) = L k (y.set j (g (xs.getD j z))) ((j + 1 : Nat) : Int)) (y : List β) (hy : y.length = xs.length) :
    Ev (fun k => L k y 0) (xs.map g) := by
  obtain ⟨r, hr, he⟩ := state_loop xs.length L (fun j y => y.length = xs.length ∧ ∀ i, i < j → y[i]? = (xs.map g)[i]?) (fun _ _ r => r = xs.map g) (fun y hi => ⟨y, List.ext_getElem? fun i => by
      by_cases hi' : i < xs.length
      · exact hi.2 i hi'
      · rw [List.getElem?_eq_none qa36, List.getElem?_eq_none (by simp; omega)], ev_now (hend y hi.1)⟩) (fun j y hj hi => .inr ⟨_, ⟨by simp [hi.1], fun i hij => by
      by_cases he : i = j
      · subst he
        rw [List.getElem?_set_self qa36]
        simp [List.getD_eq_getElem?_getD, List.getElem?_eq_getElem hj]
      · rw [List.getElem?_set_ne qa36]
        exact hi.2 i qa36⟩, fun r h => h, hstep j y hj hi.1⟩) 0 y qa36 ⟨hy, fun i hi => by omega⟩
  subst hr
  exact he
/-- The measure of a store that came in. -/
theorem sz_row (l : List S141) (a : Int) (h0 : 0 ≤ a) (h1 : a ≤ 1048576) (hl : l.length ≤ 9223372036854775807) : ∃ r, laws_szVersionS.f l a = some r ∧ (r < 0 ∨ 0 ≤ r ∧ r ≤ a ∧ l.length ≤ 1048576) := by
  have hw : wrap64 (a - (l.length : Int)) = a - (l.length : Int) := by unfold wrap64; omega
  unfold laws_szVersionS.f
  rw [hw]
  by_cases h : a - (l.length : Int) < 0
  · rw [if_pos h]; exact ⟨_, rfl, .inl qa36⟩
  · rw [if_neg h]; exact ⟨_, rfl, .inr ⟨qa36, qa36, qa36⟩⟩
theorem sz_rows (l : List (List S141)) (a : Int) (h0 : 0 ≤ a) (h1 : a ≤ 1048576) (hl : l.length ≤ 9223372036854775807) (hx : ∀ x ∈ l, x.length ≤ 9223372036854775807) :
    ∃ r, Ev (fun k => laws_szVersionSS.f k l a) r ∧ (r < 0 ∨ 0 ≤ r ∧ r ≤ a ∧ l.length ≤ 1048576 ∧ ∀ x ∈ l, x.length ≤ 1048576) := by
  have hw : wrap64 (a - (l.length : Int)) = a - (l.length : Int) := by unfold wrap64; omega
  by_cases h : a - (l.length : Int) < 0
  · exact ⟨-1, ev_mk 0 (fun k _ => by unfold laws_szVersionSS.f; rw [hw, if_pos h]), .inl qa36⟩
  · obtain ⟨r, hr, he⟩ := state_loop l.length (fun k s i => laws_szVersionSS.l0 k l s i) (fun j s => 0 ≤ s ∧ s ≤ a ∧ ∀ i, i < j → (l.getD i []).length ≤ 1048576) (fun _ _ r => r < 0 ∨ 0 ≤ r ∧ r ≤ a ∧ ∀ i, i < l.length → (l.getD i []).length ≤ 1048576)
      (fun s hi => ⟨s, .inr hi, ev_now ⟨0, fun k _ => by simp only [laws_szVersionSS.l0]; rw [if_neg qa36]⟩⟩)
      (fun j s hj hi => by
        have hm : (l.getD j []) ∈ l := by rw [List.getD_eq_getElem?_getD, List.getElem?_eq_getElem hj]; exact List.getElem_mem hj
        obtain ⟨t, e, ht⟩ := sz_row (l.getD j []) s hi.1 qa36 (hx _ hm)
        have e' : laws_szVersionS.f (rd_L2 l (j : Int)) s = some t := e
        rcases ht with ht | ⟨t0, t1, t2⟩
        · exact .inl ⟨-1, .inl qa36, ev_now ⟨0, fun k _ => by simp only [laws_szVersionSS.l0]; rw [if_pos qa36, if_pos qa36, e']; simp only [Option.bind_some]; rw [if_pos ht]⟩⟩
        · refine .inr ⟨t, ⟨t0, qa36, fun i hij => ?_⟩, fun r h => h, 0, fun k _ => by simp only [laws_szVersionSS.l0]; rw [if_pos qa36, if_pos qa36, e']; simp only [Option.bind_some]; rw [if_neg qa36, wsucc hj qa36]⟩
          rcases Nat.lt_or_eq_of_le (Nat.le_of_lt_succ hij) with h' | rfl
          · exact hi.2.2 i h'
          · exact t2) 0 (a - l.length) qa36 ⟨qa36, qa36, fun i hi => by omega⟩
    refine ⟨r, ev_same ⟨0, fun k _ => by unfold laws_szVersionSS.f; rw [hw, if_neg h]; rfl⟩ he, ?_⟩
    rcases hr with hr | ⟨h2, h3, h4⟩
    · exact .inl hr
    · refine .inr ⟨h2, h3, qa36, fun x hx' => ?_⟩
      obtain ⟨i, hi, rfl⟩ := List.getElem_of_mem hx'
      have := h4 i hi
      rw [List.getD_eq_getElem?_getD, List.getElem?_eq_getElem hi] at this
      exact this
def Small (l : List (List S141)) : Prop := l.length ≤ 1048576 ∧ ∀ x ∈ l, x.length ≤ 1048576
theorem sz_store (y : S24) (a : Int) (h0 : 0 ≤ a) (h1 : a ≤ 1048576) (hi : i24 y) : ∃ r, Ev (fun k => laws_szStore.f k y.f0 y.f1 a) r ∧ (r < 0 ∨ 0 ≤ r ∧ r ≤ a ∧ Small y.f0) := by
  obtain ⟨r, he, hr⟩ := sz_rows y.f0 a h0 h1 hi.1.1 (fun x hx => (hi.1.2 x hx).1)
  obtain ⟨K, he⟩ := ev_at he
  rcases hr with hr | ⟨h2, h3, h4⟩
  · exact ⟨-1, ev_mk K (fun k hk => by unfold laws_szStore.f; rw [he k hk]; simp only [Option.bind_some]; rw [if_pos hr]), .inl qa36⟩
  · exact ⟨r, ev_mk K (fun k hk => by unfold laws_szStore.f; rw [he k hk]; simp only [Option.bind_some]; rw [if_neg qa36]), .inr ⟨h2, h3, h4⟩⟩
def cvV (x : S141) : S43 := ⟨x.f0, x.f1⟩
def cvS (l : List (List S141)) : List (List S43) := l.map (List.map cvV)
theorem to_row (l : List S141) (hl : l.length ≤ 1048576) : Ev (fun k => laws_toVersionS.f k l) (l.map cvV) := by
  have h := fill_loop l z141 cvV (fun k y i => laws_toVersionS.l0 k l y i) (fun y hy => ⟨0, fun k _ => by simp only [laws_toVersionS.l0]; rw [if_neg qa36]⟩)
    (fun j y hj hy => ⟨0, fun k _ => by
      simp only [laws_toVersionS.l0, laws_toVersion.f]; rw [if_pos qa36, if_pos qa36]; simp only [Option.bind_some]; rw [if_pos qa36, wsucc hj qa36]; rfl⟩) (List.replicate l.length z43) qa113
  refine ev_same ⟨0, fun k _ => ?_⟩ h
  unfold laws_toVersionS.f
  rw [if_pos qa36, if_pos (by simp; omega), Int.toNat_natCast]
theorem to_rows (l : List (List S141)) (hl : Small l) : Ev (fun k => laws_toVersionSS.f k l) (cvS l) := by
  have h := fill_loop l [] (List.map cvV) (fun k y i => laws_toVersionSS.l0 k l y i) (fun y hy => ⟨0, fun k _ => by simp only [laws_toVersionSS.l0]; rw [if_neg qa36]⟩)
    (fun j y hj hy => by
      have hm : (l.getD j []) ∈ l := by rw [List.getD_eq_getElem?_getD, List.getElem?_eq_getElem hj]; exact List.getElem_mem hj
      obtain ⟨K, hk⟩ := to_row (l.getD j []) (hl.2 _ hm)
      refine ⟨K, fun k hK => ?_⟩
      have e' : laws_toVersionS.f k (rd_L2 l (j : Int)) = some ((l.getD j []).map cvV) := hk k hK
      have hl' := hl.1
      simp only [laws_toVersionSS.l0]; rw [if_pos qa36, if_pos qa36, e']; simp only [Option.bind_some]; rw [if_pos qa36, wsucc hj qa36]; rfl) (List.replicate l.length []) qa113
  refine ev_same ⟨0, fun k _ => ?_⟩ h
  have hl' := hl.1
  unfold laws_toVersionSS.f
  rw [if_pos qa36, if_pos (by simp; omega), Int.toNat_natCast]
theorem to_store (l : List (List S141)) (n : Int) (hl : Small l) : Ev (fun k => laws_toStore.f k l n) (cvS l, n) := by
  obtain ⟨K, h⟩ := ev_at (to_rows l hl)
  exact ev_mk K (fun k hk => by unfold laws_toStore.f; rw [h k hk]; rfl)
theorem eq_row (l : List S43) (hl : l.length ≤ 1048576) : Ev (fun k => laws_eqVersionS.f k l l) true := by
  obtain ⟨r, hr, he⟩ := count_loop l.length (fun k i => laws_eqVersionS.l0 k l l i) (fun _ r => r = true) ⟨true, rfl, ev_now ⟨0, fun k _ => by simp only [laws_eqVersionS.l0]; rw [if_neg qa36]⟩⟩
    (fun j hj r hr he => ⟨r, hr, ev_step ⟨0, fun k _ => by simp only [laws_eqVersionS.l0, laws_eqVersion.f]; rw [if_pos qa36, if_pos qa36, if_pos qa36]; simp only [if_true, Option.bind_some]; rw [wsucc hj qa36]⟩ he⟩) 0 qa36
  subst hr
  exact ev_same ⟨0, fun k _ => by unfold laws_eqVersionS.f; rw [if_pos rfl]; rfl⟩ he
theorem eq_rows (l : List (List S43)) (hl : l.length ≤ 1048576) (hx : ∀ x ∈ l, x.length ≤ 1048576) : Ev (fun k => laws_eqVersionSS.f k l l) true := by
  obtain ⟨r, hr, he⟩ := count_loop l.length (fun k i => laws_eqVersionSS.l0 k l l i) (fun _ r => r = true) ⟨true, rfl, ev_now ⟨0, fun k _ => by simp only [laws_eqVersionSS.l0]; rw [if_neg qa36]⟩⟩
    (fun j hj r hr he => by
      have hm : (l.getD j []) ∈ l := by rw [List.getD_eq_getElem?_getD, List.getElem?_eq_getElem hj]; exact List.getElem_mem hj
      obtain ⟨K, hk⟩ := eq_row (l.getD j []) (hx _ hm)
      exact ⟨r, hr, ev_step ⟨K, fun k hK => by
        have e' : laws_eqVersionS.f k (rd_L4 l (j : Int)) (rd_L4 l (j : Int)) = some true := hk k hK
        simp only [laws_eqVersionSS.l0]; rw [if_pos qa36, if_pos qa36, if_pos qa36, e']; simp only [if_true, Option.bind_some]; rw [wsucc hj qa36]⟩ he⟩) 0 qa36
  subst hr
  exact ev_same ⟨0, fun k _ => by unfold laws_eqVersionSS.f; rw [if_pos rfl]; rfl⟩ he
theorem eq_store (l : List (List S43)) (n : Int) (hl : l.length ≤ 1048576) (hx : ∀ x ∈ l, x.length ≤ 1048576) : Ev (fun k => laws_eqStore.f k l n l n) true := by
  obtain ⟨K, h⟩ := ev_at (eq_rows l hl hx)
  exact ev_mk K (fun k hk => by unfold laws_eqStore.f; rw [h k hk]; simp)
theorem small_cv (l : List (List S141)) (h : Small l) : (cvS l).length ≤ 1048576 ∧ ∀ x ∈ cvS l, x.length ≤ 1048576 := by
  refine ⟨by simpa [cvS] using h.1, fun x hx => ?_⟩
  simp only [cvS, List.mem_map] at hx
  obtain ⟨y, hy, rfl⟩ := hx
  simpa using h.2 y hy
def fitsB (key v : Int) : Bool := if Int.tmod key 2 = 1 then decide (0 ≤ v ∧ v ≤ 8) else decide (-2147483648 ≤ v ∧ v ≤ 2147483647)
theorem spec_in (a b c : Int) : spec_l01In.f a b c = some (decide (b ≤ a ∧ a ≤ c)) := by
  unfold spec_l01In.f
  by_cases h : b ≤ a
  · rw [if_pos h]; simp [h]
  · rw [if_neg h]; simp [h]
theorem impl_in (a b c : Int) : impl_within.f a b c = some (decide (b ≤ a ∧ a ≤ c)) := spec_in a b c
theorem spec_fits (a b : Int) : spec_l06Value.f a b = some (fitsB a b) := by
  unfold spec_l06Value.f spec_IsInt.f fitsB
  by_cases h : Int.tmod a 2 = 1
  · rw [if_pos h, if_pos h, spec_in]; rfl
  · rw [if_neg h, if_neg h, spec_in]; rfl
theorem impl_fits (a b : Int) : impl_fits.f a b = some (fitsB a b) := by
  unfold impl_fits.f impl_IsInt.f fitsB
  by_cases h : Int.tmod a 2 = 1
  · rw [if_pos h, if_pos h, impl_in]; rfl
  · rw [if_neg h, if_neg h, impl_in]; rfl
/-- A version that is right at its place. -/
def VerOK (now : Int) (key : Nat) (c : List S43) (i : Nat) : Prop :=
  1 ≤ (c.getD i z43).f0 ∧ (c.getD i z43).f0 ≤ now ∧ fitsB key (c.getD i z43).f1 = true ∧ (0 < i → (c.getD (i - 1) z43).f0 < (c.getD i z43).f0)
def IsStore (cs : List (List S43)) (now : Int) : Prop := cs.length = 16 ∧ 0 ≤ now ∧ now ≤ 100000 ∧ ∀ i, i < 16 → ∀ j, j < (cs.getD i []).length → VerOK now i (cs.getD i []) j
theorem spec_chain (cs : List (List S43)) (now : Int) (hl : cs.length = 16) (i : Nat) (hi : i < 16) (hx : (cs.getD i []).length ≤ 1048576) (R : Bool) (hR : Ev (fun k => spec_StoreOK.l0 k ((i + 1 : Nat) : Int) cs now) R) :
    ∃ r, Ev (fun k => spec_StoreOK.l1 k i 0 cs now) r ∧ (r = true ↔ (∀ j, j < (cs.getD i []).length → VerOK now i (cs.getD i []) j) ∧ R = true) := by
  obtain ⟨r, hr, he⟩ := count_loop (cs.getD i []).length (fun k j => spec_StoreOK.l1 k i j cs now) (fun j r => r = true ↔ (∀ j', j ≤ j' → j' < (cs.getD i []).length → VerOK now i (cs.getD i []) j') ∧ R = true)
    ⟨R, ⟨fun h => ⟨fun j' h1 h2 => by omega, h⟩, fun h => h.2⟩, ev_step ⟨0, fun k _ => by
      simp only [spec_StoreOK.l1]; rw [if_pos qa36, if_pos qa36, if_neg (by show ¬ ((cs.getD i []).length : Int) < ((rd_L4 cs (i : Int)).length : Int); simp [rd_L4]), wsucc (n := 16) hi qa36]⟩ hR⟩
    (fun j hj r hr he => by
      have hd : rd_L4 cs (i : Int) = cs.getD i [] := rfl
      have hv : rd_T43 (cs.getD i []) (j : Int) = (cs.getD i []).getD j z43 := rfl
      have hw1 : 0 < j → rd_T43 (cs.getD i []) (wrap64 ((j : Int) - 1)) = (cs.getD i []).getD (j - 1) z43 := fun h0 => by
        have : wrap64 ((j : Int) - 1) = ((j - 1 : Nat) : Int) := by unfold wrap64; omega
        rw [this]; rfl
      have hw2 : 0 < j → 0 ≤ wrap64 ((j : Int) - 1) ∧ wrap64 ((j : Int) - 1) < ((cs.getD i []).length : Int) := fun h0 => by
        have : wrap64 ((j : Int) - 1) = ((j - 1 : Nat) : Int) := by unfold wrap64; omega
        rw [this]; omega
      have no : ¬ VerOK now i (cs.getD i []) j → (∃ K, ∀ k, K ≤ k → spec_StoreOK.l1 (k + 1) i j cs now = some false) → ∃ r', (r' = true ↔ (∀ j', j ≤ j' → j' < (cs.getD i []).length → VerOK now i (cs.getD i []) j') ∧ R = true) ∧ Ev (fun k => spec_StoreOK.l1 k i j cs now) r' :=
        fun hn hk => ⟨false, ⟨fun h => (by cases h), fun h => absurd (h.1 j (Nat.le_refl _) hj) hn⟩, ev_now hk⟩
      have yes : VerOK now i (cs.getD i []) j → (∃ K, ∀ k, K ≤ k → spec_StoreOK.l1 (k + 1) i j cs now = spec_StoreOK.l1 k i ((j + 1 : Nat) : Int) cs now) → ∃ r', (r' = true ↔ (∀ j', j ≤ j' → j' < (cs.getD i []).length → VerOK now i (cs.getD i []) j') ∧ R = true) ∧ Ev (fun k => spec_StoreOK.l1 k i j cs now) r' :=
        fun hn hk => ⟨r, hr.trans ⟨fun h => ⟨fun j' h1 h2 => by
          rcases Nat.lt_or_eq_of_le h1 with h3 | rfl
          · exact h.1 j' h3 h2
          · exact hn, h.2⟩, fun h => ⟨fun j' h1 h2 => h.1 j' qa36 h2, h.2⟩⟩, ev_step hk he⟩
      have hh : ∀ k, spec_StoreOK.l1 (k + 1) i j cs now = if (decide (1 ≤ ((cs.getD i []).getD j z43).f0 ∧ ((cs.getD i []).getD j z43).f0 ≤ now)) = true then (if fitsB i ((cs.getD i []).getD j z43).f1 = true then (if (j : Int) > 0 then (if ((cs.getD i []).getD (j - 1) z43).f0 ≥ ((cs.getD i []).getD j z43).f0 then some false else spec_StoreOK.l1 k i ((j + 1 : Nat) : Int) cs now) else spec_StoreOK.l1 k i ((j + 1 : Nat) : Int) cs now) else some false) else some false := by
        intro k
        conv => lhs; simp only [spec_StoreOK.l1]
        rw [hd, if_pos qa36, if_pos qa36, if_pos qa36, if_pos qa36, spec_in, spec_fits, hv]
        simp only [Option.bind_some, wsucc hj qa36]
        by_cases h0 : 0 < j
        · rw [hw1 h0, if_pos (hw2 h0).1, if_pos (hw2 h0).2]
        · simp only [if_neg (show ¬ ((j : Int) > 0) by omega)]
      by_cases h1 : 1 ≤ ((cs.getD i []).getD j z43).f0 ∧ ((cs.getD i []).getD j z43).f0 ≤ now
      · by_cases h2 : fitsB i ((cs.getD i []).getD j z43).f1 = true
        · by_cases h3 : 0 < j
          · by_cases h4 : ((cs.getD i []).getD (j - 1) z43).f0 ≥ ((cs.getD i []).getD j z43).f0
            · exact no (fun h => absurd (h.2.2.2 h3) qa36) ⟨0, fun k _ => by rw [hh, if_pos (decide_eq_true h1), if_pos h2, if_pos qa36, if_pos h4]⟩
            · exact yes ⟨h1.1, h1.2, h2, fun _ => by omega⟩ ⟨0, fun k _ => by rw [hh, if_pos (decide_eq_true h1), if_pos h2, if_pos qa36, if_neg h4]⟩
          · exact yes ⟨h1.1, h1.2, h2, fun h => absurd h h3⟩ ⟨0, fun k _ => by rw [hh, if_pos (decide_eq_true h1), if_pos h2, if_neg qa36]⟩
        · exact no (fun h => h2 h.2.2.1) ⟨0, fun k _ => by rw [hh, if_pos (decide_eq_true h1), if_neg h2]⟩
      · exact no (fun h => h1 ⟨h.1, h.2.1⟩) ⟨0, fun k _ => by rw [hh, if_neg (by simpa using h1)]⟩) 0 qa36
  exact ⟨r, he, hr.trans ⟨fun h => ⟨fun j hj => h.1 j qa36 hj, h.2⟩, fun h => ⟨fun j _ hj => h.1 j hj, h.2⟩⟩⟩
theorem spec_store_ok (cs : List (List S43)) (now : Int) (hx : ∀ x ∈ cs, x.length ≤ 1048576) : ∃ r, Ev (fun k => spec_StoreOK.f k cs now) r ∧ (r = true ↔ IsStore cs now) := by
  by_cases hl : cs.length = 16
  · by_cases hn : 0 ≤ now ∧ now ≤ 100000
    · obtain ⟨r, hr, he⟩ := count_loop 16 (fun k i => spec_StoreOK.l0 k i cs now) (fun i r => r = true ↔ ∀ i', i ≤ i' → i' < 16 → ∀ j, j < (cs.getD i' []).length → VerOK now i' (cs.getD i' []) j)
        ⟨true, ⟨fun _ i' h1 h2 => by omega, fun _ => rfl⟩, ev_now ⟨0, fun k _ => by simp only [spec_StoreOK.l0]; rw [if_neg qa36]⟩⟩
        (fun i hi R hR he => by
          have hm : (cs.getD i []) ∈ cs := by rw [List.getD_eq_getElem?_getD, List.getElem?_eq_getElem qa36]; exact List.getElem_mem qa36
          obtain ⟨r, he', hr⟩ := spec_chain cs now hl i hi (hx _ hm) R he
          refine ⟨r, ?_, ev_step ⟨0, fun k _ => by simp only [spec_StoreOK.l0]; rw [if_pos qa36]⟩ he'⟩
          rw [hr, hR]
          constructor
          · rintro ⟨h1, h2⟩ i' h3 h4
            rcases Nat.lt_or_eq_of_le h3 with h5 | rfl
            · exact h2 i' h5 h4
            · exact h1
          · intro h; exact ⟨h i (Nat.le_refl _) hi, fun i' h3 h4 => h i' qa36 h4⟩) 0 qa36
      refine ⟨r, ?_, hr.trans ⟨fun h => ⟨hl, hn.1, hn.2, fun i hi => h i qa36 hi⟩, fun h i _ hi => h.2.2.2 i hi⟩⟩
      refine ev_step (f := fun k => spec_StoreOK.l0 k 0 cs now) ⟨0, fun k _ => ?_⟩ he
      unfold spec_StoreOK.f
      rw [if_pos qa36, spec_in]
      simp only [Option.bind_some, decide_eq_true hn, Bool.not_true, spec_StoreOK.j0]
      rw [if_neg qa113]
    · refine ⟨false, ev_now ⟨0, fun k _ => ?_⟩, ⟨fun h => (by cases h), fun h => absurd ⟨h.2.1, h.2.2.1⟩ hn⟩⟩
      unfold spec_StoreOK.f
      rw [if_pos qa36, spec_in]
      simp only [Option.bind_some, decide_eq_false hn, Bool.not_false, spec_StoreOK.j0]
      exact if_pos trivial
  · refine ⟨false, ev_now ⟨0, fun k _ => ?_⟩, ⟨fun h => (by cases h), fun h => absurd h.1 hl⟩⟩
    unfold spec_StoreOK.f
    rw [if_neg qa36]
    simp only [spec_StoreOK.j0]
    exact if_pos trivial
theorem impl_chain (cs : List (List S43)) (now : Int) (i : Nat) (hi : i < 16) (c : List S43) (hc : c = cs.getD i []) (hx : c.length ≤ 1048576) (R : Bool) (hR : Ev (fun k => impl_StoreOK.l0 k cs 16 ((i + 1 : Nat) : Int) cs now) R) :
    ∃ r, Ev (fun k => impl_StoreOK.l1 k i c cs 16 i c (c.length : Int) 0 cs now) r ∧ (r = true ↔ (∀ j, j < c.length → VerOK now i c j) ∧ R = true) := by
  obtain ⟨r, hr, he⟩ := count_loop c.length (fun k j => impl_StoreOK.l1 k i c cs 16 i c (c.length : Int) j cs now) (fun j r => r = true ↔ (∀ j', j ≤ j' → j' < c.length → VerOK now i c j') ∧ R = true)
    ⟨R, ⟨fun h => ⟨fun j' h1 h2 => by omega, h⟩, fun h => h.2⟩, ev_step ⟨0, fun k _ => by
      simp only [impl_StoreOK.l1]; rw [if_neg qa36, wsucc (n := 16) hi qa36]⟩ hR⟩
    (fun j hj r hr he => by
      have hv : rd_T43 c (j : Int) = c.getD j z43 := rfl
      have hw1 : 0 < j → rd_T43 c (wrap64 ((j : Int) - 1)) = c.getD (j - 1) z43 := fun h0 => by
        have : wrap64 ((j : Int) - 1) = ((j - 1 : Nat) : Int) := by unfold wrap64; omega
        rw [this]; rfl
      have hw2 : 0 < j → 0 ≤ wrap64 ((j : Int) - 1) ∧ wrap64 ((j : Int) - 1) < (c.length : Int) := fun h0 => by
        have : wrap64 ((j : Int) - 1) = ((j - 1 : Nat) : Int) := by unfold wrap64; omega
        rw [this]; omega
      have no : ¬ VerOK now i c j → (∃ K, ∀ k, K ≤ k → impl_StoreOK.l1 (k + 1) i c cs 16 i c (c.length : Int) j cs now = some false) → ∃ r', (r' = true ↔ (∀ j', j ≤ j' → j' < c.length → VerOK now i c j') ∧ R = true) ∧ Ev (fun k => impl_StoreOK.l1 k i c cs 16 i c (c.length : Int) j cs now) r' :=
        fun hn hk => ⟨false, ⟨fun h => (by cases h), fun h => absurd (h.1 j (Nat.le_refl _) hj) hn⟩, ev_now hk⟩
      have yes : VerOK now i c j → (∃ K, ∀ k, K ≤ k → impl_StoreOK.l1 (k + 1) i c cs 16 i c (c.length : Int) j cs now = impl_StoreOK.l1 k i c cs 16 i c (c.length : Int) ((j + 1 : Nat) : Int) cs now) → ∃ r', (r' = true ↔ (∀ j', j ≤ j' → j' < c.length → VerOK now i c j') ∧ R = true) ∧ Ev (fun k => impl_StoreOK.l1 k i c cs 16 i c (c.length : Int) j cs now) r' :=
        fun hn hk => ⟨r, hr.trans ⟨fun h => ⟨fun j' h1 h2 => by
          rcases Nat.lt_or_eq_of_le h1 with h3 | rfl
          · exact h.1 j' h3 h2
          · exact hn, h.2⟩, fun h => ⟨fun j' h1 h2 => h.1 j' qa36 h2, h.2⟩⟩, ev_step hk he⟩
      have hh : ∀ k, impl_StoreOK.l1 (k + 1) i c cs 16 i c (c.length : Int) j cs now = if (decide (1 ≤ (c.getD j z43).f0 ∧ (c.getD j z43).f0 ≤ now)) = true then (if (j : Int) > 0 then (if (c.getD (j - 1) z43).f0 ≥ (c.getD j z43).f0 then some false else (if fitsB i (c.getD j z43).f1 = true then impl_StoreOK.l1 k i c cs 16 i c (c.length : Int) ((j + 1 : Nat) : Int) cs now else some false)) else (if fitsB i (c.getD j z43).f1 = true then impl_StoreOK.l1 k i c cs 16 i c (c.length : Int) ((j + 1 : Nat) : Int) cs now else some false)) else some false := by
        intro k
        conv => lhs; simp only [impl_StoreOK.l1]
        rw [if_pos qa36, if_pos qa36, if_pos qa36, impl_in, impl_fits, hv]
        simp only [Option.bind_some, wsucc hj qa36]
        by_cases h0 : 0 < j
        · rw [hw1 h0, if_pos (hw2 h0).1, if_pos (hw2 h0).2]
        · simp only [if_neg (show ¬ ((j : Int) > 0) by omega)]
      by_cases h1 : 1 ≤ (c.getD j z43).f0 ∧ (c.getD j z43).f0 ≤ now
      · by_cases h2 : fitsB i (c.getD j z43).f1 = true
        · by_cases h3 : 0 < j
          · by_cases h4 : (c.getD (j - 1) z43).f0 ≥ (c.getD j z43).f0
            · exact no (fun h => absurd (h.2.2.2 h3) qa36) ⟨0, fun k _ => by rw [hh, if_pos (decide_eq_true h1), if_pos qa36, if_pos h4]⟩
            · exact yes ⟨h1.1, h1.2, h2, fun _ => by omega⟩ ⟨0, fun k _ => by rw [hh, if_pos (decide_eq_true h1), if_pos qa36, if_neg h4, if_pos h2]⟩
          · exact yes ⟨h1.1, h1.2, h2, fun h => absurd h h3⟩ ⟨0, fun k _ => by rw [hh, if_pos (decide_eq_true h1), if_neg qa36, if_pos h2]⟩
        · refine no (fun h => h2 h.2.2.1) ⟨0, fun k _ => ?_⟩
          rw [hh, if_pos (decide_eq_true h1)]
          simp only [if_neg h2]
          repeat' split
          all_goals rfl
      · exact no (fun h => h1 ⟨h.1, h.2.1⟩) ⟨0, fun k _ => by rw [hh, if_neg (by simpa using h1)]⟩) 0 qa36
  exact ⟨r, he, hr.trans ⟨fun h => ⟨fun j hj => h.1 j qa36 hj, h.2⟩, fun h => ⟨fun j _ hj => h.1 j hj, h.2⟩⟩⟩
theorem impl_store_ok (cs : List (List S43)) (now : Int) (hx : ∀ x ∈ cs, x.length ≤ 1048576) : ∃ r, Ev (fun k => impl_StoreOK.f k cs now) r ∧ (r = true ↔ IsStore cs now) := by
  by_cases hl : cs.length = 16
  · by_cases hn : 0 ≤ now ∧ now ≤ 100000
    · obtain ⟨r, hr, he⟩ := count_loop 16 (fun k i => impl_StoreOK.l0 k cs 16 i cs now) (fun i r => r = true ↔ ∀ i', i ≤ i' → i' < 16 → ∀ j, j < (cs.getD i' []).length → VerOK now i' (cs.getD i' []) j)
        ⟨true, ⟨fun _ i' h1 h2 => by omega, fun _ => rfl⟩, ev_now ⟨0, fun k _ => by simp only [impl_StoreOK.l0]; rw [if_neg qa36]⟩⟩
        (fun i hi R hR he => by
          have hm : (cs.getD i []) ∈ cs := by rw [List.getD_eq_getElem?_getD, List.getElem?_eq_getElem qa36]; exact List.getElem_mem qa36
          obtain ⟨r, he', hr⟩ := impl_chain cs now i hi (cs.getD i []) rfl (hx _ hm) R he
          refine ⟨r, ?_, ev_step ⟨0, fun k _ => by simp only [impl_StoreOK.l0]; rw [if_pos qa36, if_pos qa36, if_pos qa36]; rfl⟩ he'⟩
          rw [hr, hR]
          constructor
          · rintro ⟨h1, h2⟩ i' h3 h4
            rcases Nat.lt_or_eq_of_le h3 with h5 | rfl
            · exact h2 i' h5 h4
            · exact h1
          · intro h; exact ⟨h i (Nat.le_refl _) hi, fun i' h3 h4 => h i' qa36 h4⟩) 0 qa36
      refine ⟨r, ?_, hr.trans ⟨fun h => ⟨hl, hn.1, hn.2, fun i hi => h i qa36 hi⟩, fun h i _ hi => h.2.2.2 i hi⟩⟩
      refine ev_step (f := fun k => impl_StoreOK.l0 k cs 16 0 cs now) ⟨0, fun k _ => ?_⟩ he
      unfold impl_StoreOK.f
      rw [if_pos qa36, impl_in]
      simp only [Option.bind_some, decide_eq_true hn, Bool.not_true, impl_StoreOK.j0]
      rw [if_neg qa113, hl]
      rfl
    · refine ⟨false, ev_now ⟨0, fun k _ => ?_⟩, ⟨fun h => (by cases h), fun h => absurd ⟨h.2.1, h.2.2.1⟩ hn⟩⟩
      unfold impl_StoreOK.f
      rw [if_pos qa36, impl_in]
      simp only [Option.bind_some, decide_eq_false hn, Bool.not_false, impl_StoreOK.j0]
      exact if_pos trivial
  · refine ⟨false, ev_now ⟨0, fun k _ => ?_⟩, ⟨fun h => (by cases h), fun h => absurd h.1 hl⟩⟩
    unfold impl_StoreOK.f
    rw [if_neg qa36]
    simp only [impl_StoreOK.j0]
    exact if_pos trivial
/-- Both say the same of a store. -/
theorem stores_agree (cs : List (List S43)) (now : Int) (hx : ∀ x ∈ cs, x.length ≤ 1048576) : ∃ r, Ev (fun k => spec_StoreOK.f k cs now) r ∧ Ev (fun k => impl_StoreOK.f k cs now) r ∧ (r = true ↔ IsStore cs now) := by
  obtain ⟨r, e, hr⟩ := spec_store_ok cs now hx
  obtain ⟨r', e', hr'⟩ := impl_store_ok cs now hx
  have : r' = r := by rw [Bool.eq_iff_iff, hr, hr']
  subst this
  exact ⟨r', e, e', hr⟩
end Go.Proofs.Ytfiboooflebdpaa.Pure2
namespace Go.Proofs.Ytfiboooflebdpaa.Pure2
open Go.RowKit Go.Proofs.Ytfiboooflebdpaa.Q Go.Proofs.YtfiboooflebdpaaW.PrintWords Go.Proofs.YtfiboooflebdpaaW.PrintLast
set_option linter.unusedVariables false
set_option linter.unusedSimpArgs false
/-! marks of rows of versions -/
def mkV (m : Int) (n : Nat) : List S43 := (List.range n).map (fun (j : Nat) => ⟨m + 2 * (j : Int), m + 2 * (j : Int) + 1⟩)
theorem mkV_len (m : Int) (n : Nat) : (mkV m n).length = n := by simp [mkV]
theorem mkV_at (m : Int) (n i : Nat) (h : i < n) : (mkV m n)[i]? = some ⟨m + 2 * (i : Int), m + 2 * (i : Int) + 1⟩ := by simp [mkV, h]
theorem mark_row (l : List S43) (m : Int) (h0 : 0 ≤ m) (hm : m ≤ 4611686018427387904) (hl : l.length ≤ 1048576) : Ev (fun k => laws_markVersionS.f k l m) (m + 2 * (l.length : Int), mkV m l.length) := by
  obtain ⟨r, hr, he⟩ := state_loop l.length (fun k (s : List S43 × Int) i => laws_markVersionS.l0 k s.1 s.2 i) (fun j s => s.2 = m + 2 * (j : Int) ∧ s.1.length = l.length ∧ ∀ i, i < j → s.1[i]? = some ⟨m + 2 * (i : Int), m + 2 * (i : Int) + 1⟩) (fun _ _ r => r = (m + 2 * (l.length : Int), mkV m l.length))
    (fun s hi => ⟨(s.2, s.1), by
      obtain ⟨h1, h2, h3⟩ := hi
      refine Prod.ext h1 (List.ext_getElem? fun i => ?_)
      by_cases h : i < l.length
      · rw [h3 i h, mkV_at m _ i h]
      · rw [List.getElem?_eq_none (show s.1.length ≤ i by omega), List.getElem?_eq_none (by rw [mkV_len]; omega)], ev_now ⟨0, fun k _ => by
        have h2 := hi.2.1
        simp only [laws_markVersionS.l0]; rw [if_neg qa36]⟩⟩)
    (fun j s hj hi => by
      obtain ⟨h1, h2, h3⟩ := hi
      have hw : wrap64 (s.2 + 1) = s.2 + 1 := by unfold wrap64; omega
      have hw2 : wrap64 ((wrap64 (s.2 + 1)) + 1) = s.2 + 2 := by rw [hw]; unfold wrap64; omega
      have hg : ((s.1.set j (⟨s.2, (s.1.getD j z43).f1⟩ : S43)).getD j z43) = ⟨s.2, (s.1.getD j z43).f1⟩ := by
        rw [List.getD_eq_getElem?_getD, List.getElem?_set_self qa36]; rfl
      refine .inr ⟨((s.1.set j (⟨s.2, (s.1.getD j z43).f1⟩ : S43)).set j (⟨s.2, s.2 + 1⟩ : S43), s.2 + 2), ⟨by show s.2 + 2 = _; omega, by simp [h2], fun i hij => ?_⟩, fun r h => h, 0, fun k _ => ?_⟩
      · by_cases he : i = j
        · subst he
          rw [List.getElem?_set_self (by simp; omega), h1]
        · rw [List.getElem?_set_ne qa36, List.getElem?_set_ne qa36]
          exact h3 i qa36
      · simp only [laws_markVersionS.l0]
        rw [if_pos qa36, if_pos qa36]
        simp only [Option.bind_some]
        rw [hw2, wsucc hj qa36, hw]
        show laws_markVersionS.l0 k ((s.1.set j (⟨s.2, (s.1.getD j z43).f1⟩ : S43)).set j (⟨((s.1.set j (⟨s.2, (s.1.getD j z43).f1⟩ : S43)).getD j z43).f0, s.2 + 1⟩ : S43)) (s.2 + 2) _ = _
        rw [hg]) 0 (l, m) qa36 ⟨by show m = _; omega, rfl, fun i hi => by omega⟩
  subst hr
  exact ev_same ⟨0, fun k _ => by unfold laws_markVersionS.f; rfl⟩ he
def posV (m : Int) (ls : List (List S43)) (i : Nat) : Int := m + 2 * ((((ls.take i).map List.length).sum : Nat) : Int)
theorem posV_zero (m : Int) (ls : List (List S43)) : posV m ls 0 = m := by simp [posV]
theorem posV_succ (m : Int) (ls : List (List S43)) (i : Nat) (h : i < ls.length) : posV m ls (i + 1) = posV m ls i + 2 * (((ls.getD i []).length : Nat) : Int) := by
  unfold posV
  rw [List.take_add_one, List.getElem?_eq_getElem h, List.getD_eq_getElem?_getD, List.getElem?_eq_getElem h]
  simp only [Option.toList, List.map_append, List.map_cons, List.map_nil, List.sum_append, List.sum_cons, List.sum_nil, Option.getD_some]
  omega
theorem posV_bound (m : Int) (ls : List (List S43)) (hx : ∀ x ∈ ls, x.length ≤ 1048576) : ∀ i, i ≤ ls.length → m ≤ posV m ls i ∧ posV m ls i ≤ m + 2097152 * (i : Int) := by
  intro i
  induction i with
  | zero => intro _; rw [posV_zero]; omega
  | succ i ih =>
    intro h
    have hm : (ls.getD i []) ∈ ls := by rw [List.getD_eq_getElem?_getD, List.getElem?_eq_getElem qa36]; exact List.getElem_mem qa36
    have := ih qa36
    have := hx _ hm
    rw [posV_succ m ls i qa36]
    omega
def mkS (m : Int) (ls : List (List S43)) : List (List S43) := (List.range ls.length).map (fun (i : Nat) => mkV (posV m ls i) (ls.getD i []).length)
theorem mkS_len (m : Int) (ls : List (List S43)) : (mkS m ls).length = ls.length := by simp [mkS]
theorem mkS_at (m : Int) (ls : List (List S43)) (i : Nat) (h : i < ls.length) : (mkS m ls)[i]? = some (mkV (posV m ls i) (ls.getD i []).length) := by simp [mkS, h]
theorem mark_rows (ls : List (List S43)) (m : Int) (h0 : 0 ≤ m) (hm : m ≤ 1099511627776) (hl : ls.length ≤ 1048576) (hx : ∀ x ∈ ls, x.length ≤ 1048576) : Ev (fun k => laws_markVersionSS.f k ls m) (posV m ls ls.length, mkS m ls) := by
  obtain ⟨r, hr, he⟩ := state_loop ls.length (fun k (s : List (List S43) × Int) i => laws_markVersionSS.l0 k s.1 s.2 i) (fun j s => s.2 = posV m ls j ∧ s.1.length = ls.length ∧ (∀ i, i < j → s.1[i]? = (mkS m ls)[i]?) ∧ ∀ i, j ≤ i → s.1[i]? = ls[i]?) (fun _ _ r => r = (posV m ls ls.length, mkS m ls))
    (fun s hi => ⟨(s.2, s.1), by
      obtain ⟨h1, h2, h3, _⟩ := hi
      refine Prod.ext h1 (List.ext_getElem? fun i => ?_)
      by_cases h : i < ls.length
      · exact h3 i h
      · rw [List.getElem?_eq_none (show s.1.length ≤ i by omega), List.getElem?_eq_none (by rw [mkS_len]; omega)], ev_now ⟨0, fun k _ => by
        have h2 := hi.2.1
        simp only [laws_markVersionSS.l0]; rw [if_neg qa36]⟩⟩)
    (fun j s hj hi => by
      obtain ⟨h1, h2, h3, h4⟩ := hi
      have hmem : (ls.getD j []) ∈ ls := by rw [List.getD_eq_getElem?_getD, List.getElem?_eq_getElem hj]; exact List.getElem_mem hj
      have hb := posV_bound m ls hx j qa36
      have hrow : s.1.getD j [] = ls.getD j [] := by rw [List.getD_eq_getElem?_getD, List.getD_eq_getElem?_getD, h4 j (Nat.le_refl _)]
      obtain ⟨K, hk⟩ := ev_at (mark_row (ls.getD j []) (posV m ls j) qa36 qa36 (hx _ hmem))
      refine .inr ⟨(s.1.set j (mkV (posV m ls j) (ls.getD j []).length), posV m ls (j + 1)), ⟨rfl, by simp [h2], fun i hij => ?_, fun i hij => ?_⟩, fun r h => h, K, fun k hK => ?_⟩
      · by_cases he : i = j
        · subst he
          rw [List.getElem?_set_self qa36, mkS_at m ls i hj]
        · rw [List.getElem?_set_ne qa36]
          exact h3 i qa36
      · rw [List.getElem?_set_ne qa36]
        exact h4 i qa36
      · have e' : laws_markVersionS.f k (s.1.getD j []) s.2 = some (posV m ls j + 2 * ((ls.getD j []).length : Int), mkV (posV m ls j) (ls.getD j []).length) := by rw [hrow, h1]; exact hk k hK
        simp only [laws_markVersionSS.l0]
        rw [if_pos qa36, if_pos qa36]
        show (laws_markVersionS.f k (s.1.getD j []) s.2).bind _ = _
        rw [e']
        simp only [Option.bind_some, Int.toNat_natCast]
        rw [wsucc hj qa36, posV_succ m ls j hj]) 0 (ls, m) qa36 ⟨(posV_zero m ls).symm, rfl, fun i hi => by omega, fun i _ => rfl⟩
  subst hr
  exact ev_same ⟨0, fun k _ => by unfold laws_markVersionSS.f; rfl⟩ he
theorem held_row (n : Nat) (m : Int) (h0 : 0 ≤ m) (hm : m ≤ 4611686018427387904) (hl : n ≤ 1048576) : Ev (fun k => laws_heldVersionS.f k (mkV m n) m) (m + 2 * (n : Int)) := by
  have hlen := mkV_len m n
  obtain ⟨r, hr, he⟩ := state_loop n (fun k (s : Int) i => laws_heldVersionS.l0 k (mkV m n) s i) (fun j s => s = m + 2 * (j : Int)) (fun _ _ r => r = m + 2 * (n : Int))
    (fun s hi => ⟨s, hi, ev_now ⟨0, fun k _ => by simp only [laws_heldVersionS.l0]; rw [if_neg qa36]⟩⟩)
    (fun j s hj hi => by
      have hw : wrap64 (s + 1) = s + 1 := by unfold wrap64; omega
      have hw2 : wrap64 ((wrap64 (s + 1)) + 1) = s + 2 := by rw [hw]; unfold wrap64; omega
      have hg : rd_T43 (mkV m n) (j : Int) = ⟨m + 2 * (j : Int), m + 2 * (j : Int) + 1⟩ := by
        show (mkV m n).getD j z43 = _
        rw [List.getD_eq_getElem?_getD, mkV_at m n j hj]; rfl
      refine .inr ⟨s + 2, by show s + 2 = _; omega, fun r h => h, 0, fun k _ => ?_⟩
      simp only [laws_heldVersionS.l0]
      rw [if_pos qa36, if_pos qa36, hg, if_pos hi.symm, hw, if_pos (by show m + 2 * (j : Int) + 1 = _; omega), wsucc hj qa36]
      have : wrap64 (s + 1 + 1) = s + 2 := by unfold wrap64; omega
      rw [this]) 0 m qa36 qa36
  subst hr
  exact ev_same ⟨0, fun k _ => by unfold laws_heldVersionS.f; rfl⟩ he
theorem held_rows (ls : List (List S43)) (m : Int) (h0 : 0 ≤ m) (hm : m ≤ 1099511627776) (hl : ls.length ≤ 1048576) (hx : ∀ x ∈ ls, x.length ≤ 1048576) : Ev (fun k => laws_heldVersionSS.f k (mkS m ls) m) (posV m ls ls.length) := by
  have hlen := mkS_len m ls
  obtain ⟨r, hr, he⟩ := state_loop ls.length (fun k (s : Int) i => laws_heldVersionSS.l0 k (mkS m ls) s i) (fun j s => s = posV m ls j) (fun _ _ r => r = posV m ls ls.length)
    (fun s hi => ⟨s, hi, ev_now ⟨0, fun k _ => by simp only [laws_heldVersionSS.l0]; rw [if_neg qa36]⟩⟩)
    (fun j s hj hi => by
      have hmem : (ls.getD j []) ∈ ls := by rw [List.getD_eq_getElem?_getD, List.getElem?_eq_getElem hj]; exact List.getElem_mem hj
      have hb := posV_bound m ls hx j qa36
      have hg : (mkS m ls).getD j [] = mkV (posV m ls j) (ls.getD j []).length := by rw [List.getD_eq_getElem?_getD, mkS_at m ls j hj]; rfl
      obtain ⟨K, hk⟩ := ev_at (held_row (ls.getD j []).length (posV m ls j) qa36 qa36 (hx _ hmem))
      refine .inr ⟨posV m ls (j + 1), rfl, fun r h => h, K, fun k hK => ?_⟩
      have e' : laws_heldVersionS.f k ((mkS m ls).getD j []) s = some (posV m ls (j + 1)) := by rw [hg, hi, posV_succ m ls j hj]; exact hk k hK
      have hb2 := posV_bound m ls hx (j + 1) qa36
      simp only [laws_heldVersionSS.l0]
      rw [if_pos qa36, if_pos qa36]
      show (laws_heldVersionS.f k ((mkS m ls).getD j []) s).bind _ = _
      rw [e']
      simp only [Option.bind_some]
      rw [if_neg qa36, wsucc hj qa36]) 0 m qa36 (posV_zero m ls).symm
  subst hr
  exact ev_same ⟨0, fun k _ => by unfold laws_heldVersionSS.f; rfl⟩ he
theorem mark_store (ls : List (List S43)) (n : Int) (hl : ls.length ≤ 1048576) (hx : ∀ x ∈ ls, x.length ≤ 1048576) : ∃ m l', Ev (fun k => laws_markStore.f k ls n 1) (m, l') ∧ Ev (fun k => laws_heldStore.f k l' n 1) m ∧ 0 ≤ m := by
  have hb := posV_bound 1 ls hx ls.length (Nat.le_refl _)
  refine ⟨_, _, mark_rows ls 1 qa36 qa36 hl hx, ?_, qa36⟩
  obtain ⟨K, hk⟩ := ev_at (held_rows ls 1 qa36 qa36 hl hx)
  exact ev_mk K fun k hK => by unfold laws_heldStore.f; rw [hk k hK]; simp only [Option.bind_some]; rw [if_neg qa36]
theorem mark_store_arg (ls : List (List S43)) (n : Int) (hl : ls.length ≤ 1048576) (hx : ∀ x ∈ ls, x.length ≤ 1048576) : ∃ m, Ev (fun k => laws_markStore.f k ls n 1) (m, mkS 1 ls) ∧ 0 ≤ m ∧ m ≤ 4398046511104 := by
  have hb := posV_bound 1 ls hx ls.length (Nat.le_refl _)
  exact ⟨_, mark_rows ls 1 qa36 qa36 hl hx, qa36, qa36⟩
end Go.Proofs.Ytfiboooflebdpaa.Pure2
namespace Go.Proofs.Ytfiboooflebdpaa.Pure2
open Go.RowKit Go.Proofs.Ytfiboooflebdpaa.Q Go.Proofs.YtfiboooflebdpaaW.PrintWords Go.Proofs.YtfiboooflebdpaaW.PrintLast
set_option linter.unusedVariables false
set_option linter.unusedSimpArgs false
/-! a store's copy -/
theorem clone_row (c : List S43) (h : c.length ≤ 1048576) : impl_Version.f c = some c := by
  unfold impl_Version.f
  rw [if_pos qa36]
theorem row_mem (cs : List (List S43)) (j : Nat) (h : j < cs.length) : cs.getD j [] ∈ cs := by rw [List.getD_eq_getElem?_getD, List.getElem?_eq_getElem h]; exact List.getElem_mem h
theorem take_next (cs : List (List S43)) (j : Nat) (h : j < cs.length) : cs.take (j + 1) = cs.take j ++ [cs.getD j []] := by
  rw [List.take_add_one, List.getElem?_eq_getElem h, List.getD_eq_getElem?_getD, List.getElem?_eq_getElem h]; rfl
theorem impl_copy (cs : List (List S43)) (now : Int) (hl : cs.length ≤ 1048576) (hx : ∀ x ∈ cs, x.length ≤ 1048576) : Ev (fun k => impl_copyStore.f k cs now) (cs, now) := by
  obtain ⟨r, hr, he⟩ := state_loop cs.length (fun k (s : List (List S43)) i => impl_copyStore.l0 k cs (cs.length : Int) i s now) (fun j s => s = cs.take j) (fun _ _ r => r = (cs, now))
    (fun s hi => ⟨(cs, now), rfl, ev_now ⟨0, fun k _ => by simp only [impl_copyStore.l0]; rw [if_neg qa36, hi, List.take_length]⟩⟩)
    (fun j s hj hi => by
      have hn : s.length = j := by rw [hi, List.length_take]; omega
      refine .inr ⟨cs.take (j + 1), rfl, fun r h => h, 0, fun k _ => ?_⟩
      have e : impl_Version.f (rd_L4 cs (j : Int)) = some (cs.getD j []) := clone_row _ (hx _ (row_mem cs j hj))
      simp only [impl_copyStore.l0]
      rw [if_pos qa36, if_pos qa36, if_pos qa36, e]
      simp only [Option.bind_some]
      rw [if_pos qa36, wsucc hj qa36, take_next cs j hj, hi]) 0 [] qa36 rfl
  subst hr
  exact ev_same ⟨0, fun k _ => by unfold impl_copyStore.f; rfl⟩ he
theorem spec_own (cs : List (List S43)) (now : Int) (hl : cs.length ≤ 1048576) (hx : ∀ x ∈ cs, x.length ≤ 1048576) : Ev (fun k => spec_l06Own.f k cs now) (cs, now) := by
  obtain ⟨r, hr, he⟩ := state_loop cs.length (fun k (s : List (List S43)) i => spec_l06Own.l0 k i cs now s now) (fun j s => s = cs.take j) (fun _ _ r => r = (cs, now))
    (fun s hi => ⟨(cs, now), rfl, ev_now ⟨0, fun k _ => by simp only [spec_l06Own.l0]; rw [if_neg qa36, hi, List.take_length]⟩⟩)
    (fun j s hj hi => by
      have hn : s.length = j := by rw [hi, List.length_take]; omega
      refine .inr ⟨cs.take (j + 1), rfl, fun r h => h, 0, fun k _ => ?_⟩
      have hd : rd_L4 cs (j : Int) = cs.getD j [] := rfl
      have hc := hx _ (row_mem cs j hj)
      simp only [spec_l06Own.l0, Option.bind_some]
      rw [if_pos qa36, if_pos qa36, hd, List.length_nil, if_pos qa36, if_pos qa36, wsucc hj qa36, take_next cs j hj, hi, List.nil_append]) 0 [] qa36 rfl
  subst hr
  exact ev_same ⟨0, fun k _ => by unfold spec_l06Own.f; rfl⟩ he
end Go.Proofs.Ytfiboooflebdpaa.Pure2
namespace Go.Proofs.Ytfiboooflebdpaa.Pure2
open Go.RowKit Go.Proofs.Ytfiboooflebdpaa.Q Go.Proofs.YtfiboooflebdpaaW.PrintWords Go.Proofs.YtfiboooflebdpaaW.PrintLast
set_option linter.unusedVariables false
set_option linter.unusedSimpArgs false
/-! puts that came in, their copies, whether they are right -/
theorem sz_puts (l : List S76) (a : Int) (h0 : 0 ≤ a) (h1 : a ≤ 1048576) (hl : l.length ≤ 9223372036854775807) : ∃ r, laws_szPutS.f l a = some r ∧ (r < 0 ∨ 0 ≤ r ∧ r ≤ a ∧ l.length ≤ 1048576) := by
  have hw : wrap64 (a - (l.length : Int)) = a - (l.length : Int) := by unfold wrap64; omega
  unfold laws_szPutS.f
  rw [hw]
  by_cases h : a - (l.length : Int) < 0
  · rw [if_pos h]; exact ⟨_, rfl, .inl qa36⟩
  · rw [if_neg h]; exact ⟨_, rfl, .inr ⟨qa36, qa36, qa36⟩⟩
def cvP (x : S76) : S58 := ⟨x.f0, x.f1⟩
theorem to_puts (l : List S76) (hl : l.length ≤ 1048576) : Ev (fun k => laws_toPutS.f k l) (l.map cvP) := by
  have h := fill_loop l z76 cvP (fun k y i => laws_toPutS.l0 k l y i) (fun y hy => ⟨0, fun k _ => by simp only [laws_toPutS.l0]; rw [if_neg qa36]⟩)
    (fun j y hj hy => ⟨0, fun k _ => by
      simp only [laws_toPutS.l0, laws_toPut.f]; rw [if_pos qa36, if_pos qa36]; simp only [Option.bind_some]; rw [if_pos qa36, wsucc hj qa36]; rfl⟩) (List.replicate l.length z58) qa113
  refine ev_same ⟨0, fun k _ => ?_⟩ h
  unfold laws_toPutS.f
  rw [if_pos qa36, if_pos (by simp; omega), Int.toNat_natCast]
theorem eq_puts (l : List S58) (hl : l.length ≤ 1048576) : Ev (fun k => laws_eqPutS.f k l l) true := by
  obtain ⟨r, hr, he⟩ := count_loop l.length (fun k i => laws_eqPutS.l0 k l l i) (fun _ r => r = true) ⟨true, rfl, ev_now ⟨0, fun k _ => by simp only [laws_eqPutS.l0]; rw [if_neg qa36]⟩⟩
    (fun j hj r hr he => ⟨r, hr, ev_step ⟨0, fun k _ => by simp only [laws_eqPutS.l0, laws_eqPut.f]; rw [if_pos qa36, if_pos qa36, if_pos qa36]; simp only [if_true, Option.bind_some]; rw [wsucc hj qa36]⟩ he⟩) 0 qa36
  subst hr
  exact ev_same ⟨0, fun k _ => by unfold laws_eqPutS.f; rw [if_pos rfl]; rfl⟩ he
def IsPut (x : S58) : Prop := (0 ≤ x.f0 ∧ x.f0 ≤ 15) ∧ fitsB x.f0 x.f1 = true
def IsPuts (l : List S58) : Prop := l.length ≤ 400 ∧ ∀ j, j < l.length → IsPut (l.getD j z58)
theorem spec_puts (l : List S58) (hl : l.length ≤ 1048576) : ∃ r, Ev (fun k => spec_l06Puts.f k l) r ∧ (r = true ↔ IsPuts l) := by
  obtain ⟨r, hr, he⟩ := count_loop l.length (fun k i => spec_l06Puts.l0 k l i) (fun j r => r = true ↔ l.length ≤ 400 ∧ ∀ j', j ≤ j' → j' < l.length → IsPut (l.getD j' z58))
    ⟨decide ((l.length : Int) ≤ 400), ⟨fun h => ⟨by have := of_decide_eq_true h; omega, fun j' h1 h2 => by omega⟩, fun h => decide_eq_true (by have := h.1; omega)⟩, ev_now ⟨0, fun k _ => by simp only [spec_l06Puts.l0]; rw [if_neg qa36]⟩⟩
    (fun j hj r hr he => by
      have hd : rd_T58 l (j : Int) = l.getD j z58 := rfl
      have hh : ∀ k, spec_l06Puts.l0 (k + 1) l (j : Int) = if decide (0 ≤ (l.getD j z58).f0 ∧ (l.getD j z58).f0 ≤ 15) = true then (if fitsB (l.getD j z58).f0 (l.getD j z58).f1 = true then spec_l06Puts.l0 k l ((j + 1 : Nat) : Int) else some false) else some false := by
        intro k
        conv => lhs; simp only [spec_l06Puts.l0]
        rw [if_pos qa36, if_pos qa36, hd, spec_in, spec_fits]
        simp only [Option.bind_some, wsucc hj qa36]
      by_cases h1 : 0 ≤ (l.getD j z58).f0 ∧ (l.getD j z58).f0 ≤ 15
      · by_cases h2 : fitsB (l.getD j z58).f0 (l.getD j z58).f1 = true
        · refine ⟨r, hr.trans ⟨fun h => ⟨h.1, fun j' h3 h4 => ?_⟩, fun h => ⟨h.1, fun j' h3 h4 => h.2 j' qa36 h4⟩⟩, ev_step ⟨0, fun k _ => by rw [hh, if_pos (decide_eq_true h1), if_pos h2]⟩ he⟩
          rcases Nat.lt_or_eq_of_le h3 with h5 | rfl
          · exact h.2 j' h5 h4
          · exact ⟨h1, h2⟩
        · exact ⟨false, ⟨fun h => (by cases h), fun h => absurd (h.2 j (Nat.le_refl _) hj).2 h2⟩, ev_now ⟨0, fun k _ => by rw [hh, if_pos (decide_eq_true h1), if_neg h2]⟩⟩
      · exact ⟨false, ⟨fun h => (by cases h), fun h => absurd (h.2 j (Nat.le_refl _) hj).1 h1⟩, ev_now ⟨0, fun k _ => by rw [hh, if_neg (by simpa using h1)]⟩⟩) 0 qa36
  exact ⟨r, ev_same ⟨0, fun k _ => by unfold spec_l06Puts.f; rfl⟩ he, hr.trans ⟨fun h => ⟨h.1, fun j hj => h.2 j qa36 hj⟩, fun h => ⟨h.1, fun j _ hj => h.2 j hj⟩⟩⟩
theorem impl_put (a b : Int) : impl_isPut.f a b = some (decide (0 ≤ a ∧ a ≤ 15) && fitsB a b) := by
  unfold impl_isPut.f impl_isKey.f
  rw [impl_in, impl_fits]
  by_cases h : 0 ≤ a ∧ a ≤ 15
  · simp [h]
  · simp only [Option.bind_some, decide_eq_false h]; rfl
theorem impl_puts (l : List S58) : ∃ r, impl_arePuts.f l = some r ∧ (r = true ↔ IsPuts l) := by
  have hp : ∀ x, impl_arePuts.p x = false ↔ IsPut x := by
    intro x
    unfold impl_arePuts.p impl_arePuts_1.f
    rw [impl_put]
    simp only [Option.bind_some, IsPut]
    by_cases h : 0 ≤ x.f0 ∧ x.f0 ≤ 15
    · simp [h]
    · simp only [decide_eq_false h, Bool.false_and, Bool.not_false]
      exact ⟨fun h2 => (by cases h2), fun h2 => absurd h2.1 h⟩
  unfold impl_arePuts.f
  by_cases hl : (l.length : Int) ≤ 400
  · rw [if_pos hl]
    refine ⟨_, rfl, ?_⟩
    rw [Bool.not_eq_true', List.any_eq_false]
    constructor
    · intro h
      refine ⟨qa36, fun j hj => ?_⟩
      rw [List.getD_eq_getElem?_getD, List.getElem?_eq_getElem hj]
      exact (hp _).1 (by simpa using h _ (List.getElem_mem hj))
    · rintro ⟨_, h⟩ x hx
      obtain ⟨j, hj, rfl⟩ := List.getElem_of_mem hx
      have := h j hj
      rw [List.getD_eq_getElem?_getD, List.getElem?_eq_getElem hj] at this
      simpa using (hp _).2 this
  · rw [if_neg hl]
    exact ⟨false, rfl, ⟨fun h => (by cases h), fun h => absurd h.1 qa36⟩⟩
end Go.Proofs.Ytfiboooflebdpaa.Pure2
namespace Go.Proofs.Ytfiboooflebdpaa.Pure2
open Go.RowKit Go.Proofs.Ytfiboooflebdpaa.Q Go.Proofs.YtfiboooflebdpaaW.PrintWords Go.Proofs.YtfiboooflebdpaaW.PrintLast
set_option linter.unusedVariables false
set_option linter.unusedSimpArgs false
/-! what is written at one hour -/
def putRow (now v : Int) (c : List S43) : List S43 := (if 0 < c.length ∧ (c.getD (c.length - 1) z43).f0 = now then c.take (c.length - 1) else c) ++ [⟨now, v⟩]
def putOne (now : Int) (cs : List (List S43)) (p : S58) : List (List S43) := cs.set p.f0.toNat (putRow now p.f1 (cs.getD p.f0.toNat []))
def putsIn (now : Int) (cs : List (List S43)) (l : List S58) : List (List S43) := l.foldl (putOne now) cs
theorem putRow_len (now v : Int) (c : List S43) : (putRow now v c).length ≤ c.length + 1 := by
  unfold putRow
  rw [List.length_append]
  split
  · rw [List.length_take]; simp only [List.length_cons, List.length_nil]; omega
  · simp only [List.length_cons, List.length_nil]; omega
theorem putOne_len (now : Int) (cs : List (List S43)) (p : S58) : (putOne now cs p).length = cs.length := by unfold putOne; rw [List.length_set]
theorem putOne_rows (now : Int) (cs : List (List S43)) (p : S58) (n : Nat) (hx : ∀ x ∈ cs, x.length ≤ n) : ∀ x ∈ putOne now cs p, x.length ≤ n + 1 := by
  intro x hx'
  unfold putOne at hx'
  rcases List.mem_or_eq_of_mem_set hx' with h | rfl
  · have := hx x h; omega
  · have h1 := putRow_len now p.f1 (cs.getD p.f0.toNat [])
    by_cases h : p.f0.toNat < cs.length
    · have h2 := hx _ (row_mem cs p.f0.toNat h); omega
    · rw [List.getD_eq_getElem?_getD, List.getElem?_eq_none qa36] at h1 ⊢
      simp only [Option.getD_none, List.length_nil] at h1
      simp only [Option.getD_none]
      omega
theorem puts_next (l : List S58) (j : Nat) (hj : j < l.length) (now : Int) (cs : List (List S43)) : putsIn now cs (l.drop j) = putsIn now (putOne now cs (l.getD j z58)) (l.drop (j + 1)) := by
  have hg : l.getD j z58 = l[j] := by rw [List.getD_eq_getElem?_getD, List.getElem?_eq_getElem hj]; rfl
  unfold putsIn
  rw [List.drop_eq_getElem_cons hj, List.foldl_cons, hg]
theorem spec_write_loop (l : List S58) (now : Int) (hl : l.length ≤ 400) (hp : ∀ j, j < l.length → 0 ≤ (l.getD j z58).f0 ∧ (l.getD j z58).f0 ≤ 15) : ∀ d j cs, j ≤ l.length → l.length - j = d → cs.length = 16 → (∀ x ∈ cs, x.length ≤ 200000 + j) →
    Ev (fun k => spec_l06Write.l0 k l (j : Int) cs now) (putsIn now cs (l.drop j), now) := by
  intro d
  induction d with
  | zero =>
    intro j cs hj hd hc hx
    obtain rfl : j = l.length := by omega
    rw [List.drop_eq_nil_of_le (Nat.le_refl _)]
    exact ev_now ⟨0, fun k _ => by simp only [spec_l06Write.l0]; rw [if_neg qa36]; rfl⟩
  | succ d ih =>
    intro j cs hj hd hc hx
    have hjl : j < l.length := by omega
    have hk := hp j hjl
    have hrd : rd_T58 l (j : Int) = l.getD j z58 := rfl
    have hn := ih (j + 1) (putOne now cs (l.getD j z58)) qa36 qa36 (by rw [putOne_len]; exact hc) (putOne_rows now cs _ _ hx)
    rw [puts_next l j hjl]
    refine ev_step ⟨0, fun k _ => ?_⟩ hn
    unfold putOne putRow
    generalize l.getD j z58 = p at *
    have hrow : rd_L4 cs p.f0 = cs.getD p.f0.toNat [] := rfl
    have hm := hx _ (row_mem cs p.f0.toNat qa36)
    conv => lhs; simp only [spec_l06Write.l0]
    rw [if_pos qa36, if_pos qa36, hrd, if_pos qa36, if_pos qa36, hrow, wsucc hjl qa36]
    generalize cs.getD p.f0.toNat [] = c at *
    by_cases h0 : 0 < c.length
    · have hw : wrap64 ((c.length : Int) - 1) = ((c.length - 1 : Nat) : Int) := by unfold wrap64; omega
      have hv : rd_T43 c ((c.length - 1 : Nat) : Int) = c.getD (c.length - 1) z43 := rfl
      rw [if_pos qa36, hw, if_pos qa36, if_pos qa36, hv]
      by_cases ht : (c.getD (c.length - 1) z43).f0 = now
      · rw [if_pos ht, if_pos qa36, if_pos ⟨h0, ht⟩]
        simp only [Option.bind_some, Int.toNat_natCast, List.nil_append, List.length_nil, List.length_take, List.length_cons]
        rw [if_pos qa36, if_pos qa36]
      · rw [if_neg ht, if_neg (fun h => ht h.2)]
        simp only [Option.bind_some, List.nil_append, List.length_nil, List.length_cons]
        rw [if_pos qa36, if_pos qa36]
    · rw [if_neg qa36, if_neg (fun h => h0 h.1)]
      simp only [Option.bind_some, List.nil_append, List.length_nil, List.length_cons]
      rw [if_pos qa36, if_pos qa36]
theorem impl_write_loop (l : List S58) (now : Int) (hl : l.length ≤ 400) (hp : ∀ j, j < l.length → 0 ≤ (l.getD j z58).f0 ∧ (l.getD j z58).f0 ≤ 15) : ∀ d j cs, j ≤ l.length → l.length - j = d → cs.length = 16 → (∀ x ∈ cs, x.length ≤ 200000 + j) →
    Ev (fun k => impl_Store_writeAll.l0 k l (l.length : Int) (j : Int) cs now) (putsIn now cs (l.drop j), now, now, 0) := by
  intro d
  induction d with
  | zero =>
    intro j cs hj hd hc hx
    obtain rfl : j = l.length := by omega
    rw [List.drop_eq_nil_of_le (Nat.le_refl _)]
    exact ev_now ⟨0, fun k _ => by simp only [impl_Store_writeAll.l0]; rw [if_neg qa36]; rfl⟩
  | succ d ih =>
    intro j cs hj hd hc hx
    have hjl : j < l.length := by omega
    have hk := hp j hjl
    have hrd : rd_T58 l (j : Int) = l.getD j z58 := rfl
    have hn := ih (j + 1) (putOne now cs (l.getD j z58)) qa36 qa36 (by rw [putOne_len]; exact hc) (putOne_rows now cs _ _ hx)
    rw [puts_next l j hjl]
    refine ev_step ⟨0, fun k _ => ?_⟩ hn
    unfold putOne putRow
    generalize l.getD j z58 = p at *
    have hrow : rd_L4 cs p.f0 = cs.getD p.f0.toNat [] := rfl
    have hm := hx _ (row_mem cs p.f0.toNat qa36)
    conv => lhs; simp only [impl_Store_writeAll.l0]
    rw [if_pos qa36, if_pos qa36, if_pos qa36, hrd, if_pos qa36, if_pos qa36, hrow, wsucc hjl qa36]
    generalize cs.getD p.f0.toNat [] = c at *
    by_cases h0 : 0 < c.length
    · have hw : wrap64 ((c.length : Int) - 1) = ((c.length - 1 : Nat) : Int) := by unfold wrap64; omega
      have hv : rd_T43 c ((c.length - 1 : Nat) : Int) = c.getD (c.length - 1) z43 := rfl
      rw [hw, if_pos qa36, if_pos qa36, if_pos qa36, hv]
      by_cases ht : (c.getD (c.length - 1) z43).f0 = now
      · rw [if_pos ht, if_pos qa36, if_pos qa36, if_pos ⟨h0, ht⟩, Int.toNat_natCast]
      · rw [if_neg ht, if_pos qa36, if_neg (fun h => ht h.2)]
    · have hw : wrap64 ((c.length : Int) - 1) = -1 := by unfold wrap64; omega
      rw [hw, if_neg qa36, if_pos qa36, if_neg (fun h => h0 h.1)]
theorem rows_le (cs : List (List S43)) (now : Int) (h : IsStore cs now) : ∀ x ∈ cs, x.length ≤ 100000 := by
  intro x hx
  obtain ⟨i, hi, rfl⟩ := List.getElem_of_mem hx
  have h16 : i < 16 := by have := h.1; omega
  have hg : cs.getD i [] = cs[i] := by rw [List.getD_eq_getElem?_getD, List.getElem?_eq_getElem hi]; rfl
  have hv := h.2.2.2 i h16
  rw [hg] at hv
  have key : ∀ j, j < cs[i].length → ((j : Int) + 1) ≤ (cs[i].getD j z43).f0 := by
    intro j
    induction j with
    | zero => intro hj; have := (hv 0 hj).1; omega
    | succ j ih => intro hj; have h1 := ih qa36; have h2 := (hv (j + 1) hj).2.2.2 qa36; rw [Nat.add_sub_cancel] at h2; omega
  by_cases hb : cs[i].length ≤ 100000
  · exact hb
  · have h1 := key 100000 qa36; have h2 := (hv 100000 qa36).2.1; have h3 := h.2.2.1; omega
theorem putsIn_small (now : Int) : ∀ (l : List S58) (cs : List (List S43)) (n : Nat), (∀ x ∈ cs, x.length ≤ n) → (putsIn now cs l).length = cs.length ∧ ∀ x ∈ putsIn now cs l, x.length ≤ n + l.length := by
  intro l
  induction l with
  | nil => intro cs n hx; exact ⟨rfl, hx⟩
  | cons p l ih =>
    intro cs n hx
    have h := ih (putOne now cs p) (n + 1) (putOne_rows now cs p n hx)
    refine ⟨h.1.trans (putOne_len now cs p), fun x hx' => ?_⟩
    have := h.2 x hx'
    rw [List.length_cons]
    omega
theorem ask_write_all (cs : List (List S43)) (now : Int) (l : List S58) (hx : ∀ x ∈ cs, x.length ≤ 1048576) (hl : l.length ≤ 1048576) :
    ∃ r : List (List S43) × Int × Int × Int, Ev (fun k => spec_WriteAll.f k cs now l) r ∧ Ev (fun k => impl_WriteAll.f k cs now l) r ∧ r.1.length ≤ 1048576 ∧ ∀ x ∈ r.1, x.length ≤ 1048576 := by
  have hP : impl_Put_74.f l = some (decide ((l.length : Int) ≤ 4096)) := rfl
  by_cases h4 : (l.length : Int) > 4096
  · exact ⟨([], 0, 0, 2), ev_mk 0 fun k hk => by unfold spec_WriteAll.f; rw [if_pos h4], ev_mk 0 fun k hk => by unfold impl_WriteAll.f; rw [hP, decide_eq_false qa36]; rfl, qa113, qa113⟩
  have hP' : impl_Put_74.f l = some true := by rw [hP, decide_eq_true qa36]
  obtain ⟨b, e1, e2, hb⟩ := stores_agree cs now hx
  obtain ⟨K1, h1⟩ := ev_at e1
  obtain ⟨K2, h2⟩ := ev_at e2
  cases b with
  | false =>
    refine ⟨([], 0, 0, 1), ev_mk K1 fun k hk => ?_, ev_mk K2 fun k hk => ?_, qa113, qa113⟩
    · unfold spec_WriteAll.f; rw [if_neg h4, h1 k hk]; rfl
    · unfold impl_WriteAll.f; rw [hP', Option.bind_some, if_pos rfl, h2 k hk]; rfl
  | true =>
    have hs := hb.1 rfl
    have hr := rows_le cs now hs
    obtain ⟨c, e3, hc⟩ := spec_puts l hl
    obtain ⟨c', e4, hc'⟩ := impl_puts l
    have hcc : c' = c := by
      cases c with
      | true => exact hc'.2 (hc.1 rfl)
      | false => cases c' with
                 | false => rfl
                 | true => exact absurd (hc.2 (hc'.1 rfl)) qa113
    rw [hcc] at e4
    obtain ⟨K3, h3⟩ := ev_at e3
    cases c with
    | false =>
      refine ⟨([], 0, 0, 4), ev_mk (K1 + K3) fun k hk => ?_, ev_mk K2 fun k hk => ?_, qa113, qa113⟩
      · unfold spec_WriteAll.f; rw [if_neg h4, h1 k qa36, Option.bind_some, if_pos rfl, h3 k qa36]; rfl
      · unfold impl_WriteAll.f; rw [hP', Option.bind_some, if_pos rfl, h2 k hk, Option.bind_some, if_pos rfl, e4]; rfl
    | true =>
      have hp := hc.1 rfl
      obtain ⟨K4, h4s⟩ := ev_at (spec_own cs now (by rw [hs.1]; omega) hx)
      obtain ⟨K5, h5⟩ := ev_at (impl_copy cs now (by rw [hs.1]; omega) hx)
      by_cases hn : now = 100000
      · refine ⟨(cs, now, 0, 7), ev_mk (K1 + K3 + K4) fun k hk => ?_, ev_mk (K2 + K5) fun k hk => ?_, by show cs.length ≤ _; rw [hs.1]; omega, hx⟩
        · unfold spec_WriteAll.f; rw [if_neg h4, h1 k qa36, Option.bind_some, if_pos rfl, h3 k qa36, Option.bind_some, if_pos rfl, if_pos hn, h4s k qa36]; rfl
        · unfold impl_WriteAll.f impl_Store_writeAll.f; rw [hP', Option.bind_some, if_pos rfl, h2 k qa36, Option.bind_some, if_pos rfl, e4, Option.bind_some, if_pos rfl, h5 k qa36, Option.bind_some, if_pos hn]; rfl
      · by_cases h0 : (l.length : Int) = 0
        · refine ⟨(cs, now, now, 0), ev_mk (K1 + K3 + K4) fun k hk => ?_, ev_mk (K2 + K5) fun k hk => ?_, by show cs.length ≤ _; rw [hs.1]; omega, hx⟩
          · unfold spec_WriteAll.f spec_l06Write.f; rw [if_neg h4, h1 k qa36, Option.bind_some, if_pos rfl, h3 k qa36, Option.bind_some, if_pos rfl, if_neg hn, if_pos h0, Option.bind_some, h4s k qa36]; rfl
          · unfold impl_WriteAll.f impl_Store_writeAll.f; rw [hP', Option.bind_some, if_pos rfl, h2 k qa36, Option.bind_some, if_pos rfl, e4, Option.bind_some, if_pos rfl, h5 k qa36, Option.bind_some, if_neg hn, if_pos h0]; rfl
        · have hw : wrap64 (now + 1) = now + 1 := by have := hs.2.1; have := hs.2.2.1; unfold wrap64; omega
          have hk' : ∀ j, j < l.length → 0 ≤ (l.getD j z58).f0 ∧ (l.getD j z58).f0 ≤ 15 := fun j hj => (hp.2 j hj).1
          have hrr : ∀ x ∈ cs, x.length ≤ 200000 + 0 := fun x hx' => by have := hr x hx'; omega
          have ws := spec_write_loop l (now + 1) hp.1 hk' l.length 0 cs qa36 qa36 hs.1 hrr
          have wi := impl_write_loop l (now + 1) hp.1 hk' l.length 0 cs qa36 qa36 hs.1 hrr
          rw [List.drop_zero] at ws wi
          obtain ⟨K6, h6⟩ := ev_at ws
          obtain ⟨K7, h7⟩ := ev_at wi
          have hsm := putsIn_small (now + 1) l cs 100000 hr
          have hl4 := hp.1
          have hx2 : ∀ x ∈ putsIn (now + 1) cs l, x.length ≤ 1048576 := fun x hx' => by have := hsm.2 x hx'; omega
          have hl2 : (putsIn (now + 1) cs l).length ≤ 1048576 := by rw [hsm.1, hs.1]; omega
          obtain ⟨K8, h8⟩ := ev_at (spec_own (putsIn (now + 1) cs l) (now + 1) hl2 hx2)
          refine ⟨(putsIn (now + 1) cs l, now + 1, now + 1, 0), ev_mk (K1 + K3 + K4 + K6 + K8) fun k hk => ?_, ev_mk (K2 + K5 + K7) fun k hk => ?_, hl2, hx2⟩
          · unfold spec_WriteAll.f spec_l06Write.f
            rw [if_neg h4, h1 k qa36, Option.bind_some, if_pos rfl, h3 k qa36, Option.bind_some, if_pos rfl, if_neg hn, if_neg h0, h4s k qa36, Option.bind_some, hw]
            have h6' := h6 k qa36
            rw [show spec_l06Write.l0 k l 0 cs (now + 1) = some (putsIn (now + 1) cs l, now + 1) from h6', Option.bind_some, h8 k qa36]
            rfl
          · unfold impl_WriteAll.f impl_Store_writeAll.f
            rw [hP', Option.bind_some, if_pos rfl, h2 k qa36, Option.bind_some, if_pos rfl, e4, Option.bind_some, if_pos rfl, h5 k qa36, Option.bind_some, if_neg hn, if_neg h0, hw]
            have h7' := h7 k qa36
            rw [show impl_Store_writeAll.l0 k l (l.length : Int) 0 cs (now + 1) = some (putsIn (now + 1) cs l, now + 1, now + 1, 0) from h7']
            rfl
end Go.Proofs.Ytfiboooflebdpaa.Pure2
namespace Go.Proofs.Ytfiboooflebdpaa.Pure2
open Go.RowKit Go.Proofs.Ytfiboooflebdpaa.Q Go.Proofs.YtfiboooflebdpaaW.PrintWords Go.Proofs.YtfiboooflebdpaaW.PrintLast
set_option linter.unusedVariables false
set_option linter.unusedSimpArgs false
/-! marks of puts -/
def mkP (m : Int) (n : Nat) : List S58 := (List.range n).map (fun (j : Nat) => ⟨m + 2 * (j : Int), m + 2 * (j : Int) + 1⟩)
theorem mkP_len (m : Int) (n : Nat) : (mkP m n).length = n := by simp [mkP]
theorem mkP_at (m : Int) (n i : Nat) (h : i < n) : (mkP m n)[i]? = some ⟨m + 2 * (i : Int), m + 2 * (i : Int) + 1⟩ := by simp [mkP, h]
theorem mark_puts (l : List S58) (m : Int) (h0 : 0 ≤ m) (hm : m ≤ 4611686018427387904) (hl : l.length ≤ 1048576) : Ev (fun k => laws_markPutS.f k l m) (m + 2 * (l.length : Int), mkP m l.length) := by
  obtain ⟨r, hr, he⟩ := state_loop l.length (fun k (s : List S58 × Int) i => laws_markPutS.l0 k s.1 s.2 i) (fun j s => s.2 = m + 2 * (j : Int) ∧ s.1.length = l.length ∧ ∀ i, i < j → s.1[i]? = some ⟨m + 2 * (i : Int), m + 2 * (i : Int) + 1⟩) (fun _ _ r => r = (m + 2 * (l.length : Int), mkP m l.length))
    (fun s hi => ⟨(s.2, s.1), by
      obtain ⟨h1, h2, h3⟩ := hi
      refine Prod.ext h1 (List.ext_getElem? fun i => ?_)
      by_cases h : i < l.length
      · rw [h3 i h, mkP_at m _ i h]
      · rw [List.getElem?_eq_none (show s.1.length ≤ i by omega), List.getElem?_eq_none (by rw [mkP_len]; omega)], ev_now ⟨0, fun k _ => by
        have h2 := hi.2.1
        simp only [laws_markPutS.l0]; rw [if_neg qa36]⟩⟩)
    (fun j s hj hi => by
      obtain ⟨h1, h2, h3⟩ := hi
      have hw : wrap64 (s.2 + 1) = s.2 + 1 := by unfold wrap64; omega
      have hw2 : wrap64 ((wrap64 (s.2 + 1)) + 1) = s.2 + 2 := by rw [hw]; unfold wrap64; omega
      have hg : ((s.1.set j (⟨s.2, (s.1.getD j z58).f1⟩ : S58)).getD j z58) = ⟨s.2, (s.1.getD j z58).f1⟩ := by
        rw [List.getD_eq_getElem?_getD, List.getElem?_set_self qa36]; rfl
      refine .inr ⟨((s.1.set j (⟨s.2, (s.1.getD j z58).f1⟩ : S58)).set j (⟨s.2, s.2 + 1⟩ : S58), s.2 + 2), ⟨by show s.2 + 2 = _; omega, by simp [h2], fun i hij => ?_⟩, fun r h => h, 0, fun k _ => ?_⟩
      · by_cases he : i = j
        · subst he
          rw [List.getElem?_set_self (by simp; omega), h1]
        · rw [List.getElem?_set_ne qa36, List.getElem?_set_ne qa36]
          exact h3 i qa36
      · simp only [laws_markPutS.l0]
        rw [if_pos qa36, if_pos qa36]
        simp only [Option.bind_some]
        rw [hw2, wsucc hj qa36, hw]
        show laws_markPutS.l0 k ((s.1.set j (⟨s.2, (s.1.getD j z58).f1⟩ : S58)).set j (⟨((s.1.set j (⟨s.2, (s.1.getD j z58).f1⟩ : S58)).getD j z58).f0, s.2 + 1⟩ : S58)) (s.2 + 2) _ = _
        rw [hg]) 0 (l, m) qa36 ⟨by show m = _; omega, rfl, fun i hi => by omega⟩
  subst hr
  exact ev_same ⟨0, fun k _ => by unfold laws_markPutS.f; rfl⟩ he
end Go.Proofs.Ytfiboooflebdpaa.Pure2
namespace Go.Proofs.Ytfiboooflebdpaa.Pure2
open Go.RowKit Go.Proofs.Ytfiboooflebdpaa.Q Go.Proofs.YtfiboooflebdpaaW.PrintWords Go.Proofs.YtfiboooflebdpaaW.PrintLast
set_option linter.unusedVariables false
set_option linter.unusedSimpArgs false
theorem FnExactWriteAll : laws_FnExactWriteAll.Pure2 := by
  intro y z hy hz
  obtain ⟨r, he, hr⟩ := sz_store y 1048576 qa36 qa36 hy
  refine Ev.rounds (r := true) ?_
  obtain ⟨K1, h1⟩ := ev_at he
  rcases hr with hr | ⟨hr0, hr1, hs⟩
  · exact ev_mk K1 fun k hk => by unfold laws_FnExactWriteAll.f; rw [h1 k hk]; simp only [Option.bind_some]; rw [if_pos hr]
  · obtain ⟨q, e2, hq⟩ := sz_puts z r hr0 qa36 hz.1
    rcases hq with hq | ⟨_, _, hp⟩
    · exact ev_mk K1 fun k hk => by unfold laws_FnExactWriteAll.f; rw [h1 k hk]; simp only [Option.bind_some]; rw [if_neg qa36, e2]; simp only [Option.bind_some]; rw [if_pos hq]
    · have hpl : (z.map cvP).length ≤ 1048576 := by rw [List.length_map]; exact hp
      obtain ⟨K2, h2⟩ := ev_at (to_store y.f0 y.f1 hs)
      obtain ⟨K3, h3⟩ := ev_at (to_puts z hp)
      obtain ⟨⟨x, n, g, c⟩, g1, g2, hl', hx'⟩ := ask_write_all (cvS y.f0) y.f1 (z.map cvP) (small_cv _ hs).2 hpl
      obtain ⟨K4, h4⟩ := ev_at g1
      obtain ⟨K5, h5⟩ := ev_at g2
      obtain ⟨K6, h6⟩ := ev_at (eq_store (cvS y.f0) y.f1 (small_cv _ hs).1 (small_cv _ hs).2)
      obtain ⟨K7, h7⟩ := ev_at (eq_puts (z.map cvP) hpl)
      obtain ⟨K8, h8⟩ := ev_at (eq_store x n hl' hx')
      obtain ⟨m, e9, hm0, hm⟩ := mark_store_arg (cvS y.f0) y.f1 (small_cv _ hs).1 (small_cv _ hs).2
      obtain ⟨K9, h9⟩ := ev_at e9
      obtain ⟨K10, h10⟩ := ev_at (mark_puts (z.map cvP) m qa36 qa36 hpl)
      obtain ⟨m2, l2, e11, e12, hm2⟩ := mark_store x n hl' hx'
      obtain ⟨K11, h11⟩ := ev_at e11
      obtain ⟨K12, h12⟩ := ev_at e12
      refine ev_mk (K1 + K2 + K3 + K4 + K5 + K6 + K7 + K8 + K9 + K10 + K11 + K12) fun k hk => ?_
      unfold laws_FnExactWriteAll.f
      rw [h1 _ qa36]; simp only [Option.bind_some]; rw [if_neg qa36, e2]; simp only [Option.bind_some]; rw [if_neg qa36, h2 _ qa36]; simp only [Option.bind_some]
      rw [h3 _ qa36]; simp only [Option.bind_some]; rw [h4 _ qa36]; simp only [Option.bind_some]; rw [h5 _ qa36]; simp only [Option.bind_some]
      rw [h8 _ qa36]; simp only [Option.bind_some, if_true]; rw [h6 _ qa36]; simp only [Option.bind_some, if_true]; rw [h7 _ qa36]; simp only [Option.bind_some, if_true]
      rw [h9 _ qa36]; simp only [Option.bind_some]; rw [h10 _ qa36]; simp only [Option.bind_some]; rw [if_pos qa36]
      rw [h11 _ qa36]; simp only [Option.bind_some]; rw [h12 _ qa36]; simp only [Option.bind_some]; rw [if_pos qa36]; simp only [if_true]
      rw [if_pos qa36]
end Go.Proofs.Ytfiboooflebdpaa.Pure2
