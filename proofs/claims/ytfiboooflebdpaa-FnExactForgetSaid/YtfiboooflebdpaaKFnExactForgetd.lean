/- Texts of the claim on FnExactForget, gathered by a program of this session: what the program's functions compute (proved by walks), and the plain part. -/
import Derived.Test.YtfiboooflebdpaaKFnExactForgetc
import Derived.Test.YtfiboooflebdpaaKFnExactForgetOpens
import Derived.KernelRfl
namespace Go.Proofs.Ytfiboooflebdpaa.Q
open Go.RowKit Go.Proofs.YtfiboooflebdpaaW.PrintWords Go.Proofs.YtfiboooflebdpaaW.PrintLast Go.Proofs.YtfiboooflebdpaaW.PrintMore
attribute [local go_sem] max2_int min2_int max_two min_two max_three min_three max_four min_four   -- for this text's walks alone
set_option linter.unusedVariables false
set_option linter.unusedSimpArgs false

/-! ### a law's walk: small words -/
theorem lw3_iv {W W' : World} {n : Nat} (hn : n ≤ W.heap.size) (hb : W.heap.size ≤ W'.heap.size) : ∃ lo hi, lo = W.heap.size ∧ hi = W'.heap.size ∧ (n ≤ lo ∧ lo ≤ hi) := ⟨_, _, rfl, rfl, hn, hb⟩
theorem lw3_need {α : Type} {p : Prop} [Decidable p] {X : Option α} {r : α} (h : (if p then X else none) = some r) : p ∧ X = some r := by
 by_cases c : p
 ·rw [if_pos c] at h; exact ⟨c, h⟩
 ·rw [if_neg c] at h; cases h
def lw3_sets (g : Nat) : Nat → List Value → World → World
 | _, [], w => w
 | j, v :: vs, w => lw3_sets g (j + 1) vs (w.setCell ⟨g, j, none⟩ v)
def lw3_all : Nat → List Value → Array Value → Array Value
 | _, [], cs => cs
 | j, v :: vs, cs => lw3_all (j + 1) vs (cs.setIfInBounds j v)
theorem lw3_sets_heap {g t : Nat} : ∀ (vs : List Value) (j : Nat) (cs : Array Value) (w : World), w.heap[g]? = some (.cells cs t (0, 0)) → (lw3_sets g j vs w).heap[g]? = some (.cells (lw3_all j vs cs) t (0, 0))
 | [], _, _, _, h => h
 | v :: vs, j, cs, w, h => lw3_sets_heap vs (j + 1) _ _ (blk_set h j v)
theorem lw3_sets_kept {g : Nat} : ∀ (vs : List Value) (j : Nat) (w : World), Kept w (lw3_sets g j vs w) (fun k_ => g ≤ k_ ∧ k_ < g + 1)
 | [], _, w => Kept.refl w _
 | v :: vs, j, w => Kept.then_ (Kept.setCell (Kept.refl w _) (.inl (show g ≤ g ∧ g < g + 1 from ⟨Nat.le_refl _, Nat.lt_succ_self _⟩)) v) (lw3_sets_kept vs (j + 1) _) (fun _ h => .inl h)
theorem lw3_sets_below {g : Nat} {w0 : World} (hg : w0.heap.size ≤ g) : ∀ (vs : List Value) (j : Nat) (w : World), Below w0.heap.size w0 w → Below w0.heap.size w0 (lw3_sets g j vs w)
 | [], _, _, h => h
 | v :: vs, j, w, h => lw3_sets_below hg vs (j + 1) _ (below_set h hg)
theorem lw3_store {P : Program} {ops : Array Oper} {o : Oper} {a : Act} {Q : Exit → Act → World → Prop} {Kc : Act → World → Prop} {w0 W : World} (g t : Nat) (vs : List Value) (cs : Array Value) (hw : Region.wanted o (yielded ops a.tmps) = true) (hN : o.dst = none)
  (hrun : (execOp a.eval o).run P W = .ok .skip (lw3_sets g 0 vs W)) (hg : w0.heap.size ≤ g) (HB : Below w0.heap.size w0 W) (hb : W.heap[g]? = some (.cells cs t (0, 0)))
  (h : ∀ w1, w1.heap[g]? = some (.cells (lw3_all 0 vs cs) t (0, 0)) → Kept W w1 (fun k_ => g ≤ k_ ∧ k_ < g + 1) → Below w0.heap.size w0 w1 → Kc a w1) : if Region.wanted o (yielded ops a.tmps) = true then Oper.wp P o a W Kc Q else Kc (a.put none undef) W := by
 rw [if_pos hw]
 unfold Oper.wp
 rw [hrun]
 show Kc (a.put o.dst undef) _
 rw [hN]
 exact h _ (lw3_sets_heap vs 0 cs W hb) (lw3_sets_kept vs 0 W) (lw3_sets_below hg vs 0 W HB)
theorem lw3_no {lo hi a b k : Nat} (h1 : lo ≤ k ∧ k < hi) (h2 : a ≤ k ∧ k < b) (h : hi ≤ a ∨ b ≤ lo) : False := by omega
theorem lw3_no2 {lo hi a b c d k : Nat} (h1 : lo ≤ k ∧ k < hi) (h2 : (a ≤ k ∧ k < b) ∨ (c ≤ k ∧ k < d)) (h : (hi ≤ a ∨ b ≤ lo) ∧ (hi ≤ c ∨ d ≤ lo)) : False := by omega
theorem lw3_on {lo hi c d a b k : Nat} (h1 : (lo ≤ k ∧ k < hi) ∨ (c ≤ k ∧ k < d)) (h2 : a ≤ k ∧ k < b) (h : (hi ≤ a ∨ b ≤ lo) ∧ (d ≤ a ∨ b ≤ c)) : False := by omega
theorem lw3_on2 {lo hi c d a b x y k : Nat} (h1 : (lo ≤ k ∧ k < hi) ∨ (c ≤ k ∧ k < d)) (h2 : (a ≤ k ∧ k < b) ∨ (x ≤ k ∧ k < y)) (h : ((hi ≤ a ∨ b ≤ lo) ∧ (d ≤ a ∨ b ≤ c)) ∧ ((hi ≤ x ∨ y ≤ lo) ∧ (d ≤ x ∨ y ≤ c))) : False := by omega
theorem lw3_ivk {W W' : World} {S : Nat → Prop} {n : Nat} (hk : Kept W W' S) (hn : n ≤ W.heap.size) : ∃ lo hi, lo = W.heap.size ∧ hi = W'.heap.size ∧ (n ≤ lo ∧ lo ≤ hi) := ⟨_, _, rfl, rfl, hn, hk.1⟩
theorem lw3_hx {w0 W wn : World} (_hb : Below W.heap.size W wn) (hx : Below w0.heap.size w0 W) : Below w0.heap.size w0 W := hx
theorem lw3_bind {α β : Type} {X : Option α} {f : α → Option β} {r : β} (h : X.bind f = some r) : ∃ x, X = some x ∧ f x = some r := Option.bind_eq_some_iff.mp h
theorem lw3_draw {P : Program} {Q : Exit → Act → World → Prop} {id : Nat} {ops : Array Oper} {a : Act} {W : World} (h : ∀ w1, w1 = W → Below W.heap.size W w1 → (Code.region id ops true).wp P Q a w1) : (Code.region id ops true).wp P Q a W := h W rfl (Below.refl _ _)
theorem lw3_lt {W w' : World} {g : Nat} {o : Obj} (hb : Below W.heap.size W w') (h : W.heap[g]? = some o) : g + 1 ≤ W.heap.size ∧ w'.heap[g]? = some o := ⟨blk_lt h, blk_below h hb⟩
/-! ### laws_FnExactForget: function 3 -/
def laws_FnExactForget.f (k : Nat) (l0_0 : List (List (S141))) (a0_1 : Int) (a1 : Int) : Option (Bool) := ((laws_szStore.f k l0_0 a0_1 1048576).bind fun b0_ => (if b0_ < 0 then (some true) else ((laws_toStore.f k l0_0 a0_1).bind fun b2_ => ((spec_Forget.f k b2_.1 b2_.2 a1).bind fun b3_ => ((laws_toStore.f k l0_0 a0_1).bind fun b4_ => ((impl_Forget.f k b4_.1 b4_.2 a1).bind fun b5_ => ((laws_eqStore.f k b5_.1 b5_.2.1 b3_.1 b3_.2.1).bind fun b6_ => (if b6_ = true then (if b5_.2.2.1 = b3_.2.2.1 then (if b5_.2.2.2 = b3_.2.2.2 then ((laws_toStore.f k l0_0 a0_1).bind fun b10_ => ((laws_eqStore.f k b4_.1 b4_.2 b10_.1 b10_.2).bind fun b11_ => (if b11_ = true then ((laws_markStore.f k b4_.1 b4_.2 1).bind fun b13_ => (if ¬ (b13_.1 < 0) then ((laws_eqStore.f k b5_.1 b5_.2.1 b3_.1 b3_.2.1).bind fun b15_ => (if b15_ = true then ((laws_markStore.f k b5_.1 b5_.2.1 1).bind fun b17_ => ((laws_heldStore.f k b17_.2 b5_.2.1 1).bind fun b18_ => (if ¬ (b18_ < 0) then (if b18_ = b17_.1 then ((laws_toStore.f k l0_0 a0_1).bind fun b21_ => ((impl_Forget.f k b21_.1 b21_.2 a1).bind fun b22_ => ((laws_eqStore.f k b22_.1 b22_.2.1 b3_.1 b3_.2.1).bind fun b23_ => (if b23_ = true then (if b22_.2.2.1 = b3_.2.2.1 then (if b22_.2.2.2 = b3_.2.2.2 then ((laws_heldStore.f k b17_.2 b5_.2.1 1).bind fun b27_ => (if ¬ (b27_ < 0) then (if b27_ = b17_.1 then (some true) else (none)) else (none))) else (none)) else (none)) else (none))))) else (none)) else (none)))) else (none))) else (none))) else (none)))) else (none)) else (none)) else (none)))))))))
set_option maxHeartbeats 8000000 in
set_option maxRecDepth 100000 in
theorem laws_FnExactForget.calls (k : Nat) (A0_0 : Option Addr) (c0_0 : Nat) (l0_0 : List (List (S141))) (a0_1 : Int) (a1 : Int) (r : Bool) (w : World) (hr0_0 : Kd.C (Kd.slice 141 k141) w A0_0 l0_0.length l0_0) (hc0_0 : l0_0.length ≤ c0_0) (h : laws_FnExactForget.f k l0_0 a0_1 a1 = some r) :
  Calls Try.prog 3 #[.agg #[.slice A0_0 l0_0.length c0_0, .int .i64 a0_1], .int .i64 a1] w fun e w' => e = .returned (.bool r) ∧ Below w.heap.size w w' := by
 have hu24 := Try.underlying24
 have hu28 := Try.underlying28
 have HR0_0 := Aside0.mk hr0_0
 have HC0_0 := Aside0.mk hc0_0
 clear hr0_0 hc0_0
 have HB := Aside0.mk (Below.refl w.heap.size w)
 have HX := Aside0.mk (Below.refl w.heap.size w)
 have HN := Aside0.mk (Nat.le_refl w.heap.size)
 have H : ((laws_szStore.f k l0_0 a0_1 1048576).bind fun b0_ => (if b0_ < 0 then (some true) else ((laws_toStore.f k l0_0 a0_1).bind fun b2_ => ((spec_Forget.f k b2_.1 b2_.2 a1).bind fun b3_ => ((laws_toStore.f k l0_0 a0_1).bind fun b4_ => ((impl_Forget.f k b4_.1 b4_.2 a1).bind fun b5_ => ((laws_eqStore.f k b5_.1 b5_.2.1 b3_.1 b3_.2.1).bind fun b6_ => (if b6_ = true then (if b5_.2.2.1 = b3_.2.2.1 then (if b5_.2.2.2 = b3_.2.2.2 then ((laws_toStore.f k l0_0 a0_1).bind fun b10_ => ((laws_eqStore.f k b4_.1 b4_.2 b10_.1 b10_.2).bind fun b11_ => (if b11_ = true then ((laws_markStore.f k b4_.1 b4_.2 1).bind fun b13_ => (if ¬ (b13_.1 < 0) then ((laws_eqStore.f k b5_.1 b5_.2.1 b3_.1 b3_.2.1).bind fun b15_ => (if b15_ = true then ((laws_markStore.f k b5_.1 b5_.2.1 1).bind fun b17_ => ((laws_heldStore.f k b17_.2 b5_.2.1 1).bind fun b18_ => (if ¬ (b18_ < 0) then (if b18_ = b17_.1 then ((laws_toStore.f k l0_0 a0_1).bind fun b21_ => ((impl_Forget.f k b21_.1 b21_.2 a1).bind fun b22_ => ((laws_eqStore.f k b22_.1 b22_.2.1 b3_.1 b3_.2.1).bind fun b23_ => (if b23_ = true then (if b22_.2.2.1 = b3_.2.2.1 then (if b22_.2.2.2 = b3_.2.2.2 then ((laws_heldStore.f k b17_.2 b5_.2.1 1).bind fun b27_ => (if ¬ (b27_ < 0) then (if b27_ = b17_.1 then (some true) else (none)) else (none))) else (none)) else (none)) else (none))))) else (none)) else (none)))) else (none))) else (none))) else (none)))) else (none)) else (none)) else (none))))))))) = some r := h
 clear h
 obtain ⟨t5, A0_, H⟩ := lw3_bind H
 (try dsimp only at H)
 have A6 := Aside0.mk A0_
 clear A0_
 by_cases c1 : t5 < 0
 ·rw [if_pos c1] at H
  have c1b : decide (t5 < 0) = true := decide_eq_true c1
  clear c1
  obtain rfl := Option.some.inj H
  go_enter Try.func3, Try.ntmps3
  go_wp2_with (first | ((with_reducible refine gate_dst (N := 2) rfl ?_); refine box_event ?hg (N := 2) ?hd (cs := #[.slice A0_0 l0_0.length c0_0, .int .i64 a0_1]) (t := 24) ?hr ?_; (case hd => rfl); (case hg => rfl); (case hr => first | (go_simp; done) | (go_simp; rfl)); intro gb1 hg w2 hbox hb; have hx_ := lw3_hx hb (by repeat (first | (with_reducible first | exact HX.out | apply below_alloc | apply pw_below_drewN | apply below_drew1) | exact HX.out)); have hbt := below_step hx_ hb; obtain ⟨lo4, hi4, hl_, hh_, hc_⟩ := lw3_iv (Nat.le_trans HN.out (below_size hx_)) hb.size; have CHlo4 := Aside0.mk (show w.heap.size ≤ lo4 ∧ lo4 ≤ hi4 from hc_); clear hc_; have BK3 := Aside0.mk (hbox); replace HN := Aside0.mk ((show hi4 ≤ w2.heap.size from Nat.le_of_eq hh_)); replace HB := Aside0.mk (below_step HB.out hbt); replace HX := Aside0.mk (Below.refl w2.heap.size w2); have IVgb1 := Aside0.mk (show lo4 ≤ gb1 ∧ gb1 < hi4 from ⟨Nat.le_of_eq (hl_.trans hg.symm), by rw [hh_]; exact blk_lt hbox⟩); clear hb hbt hx_ hl_ hh_; clear hg hbox; have hcz0_0_BK3 : w2.cell? ⟨gb1, 0, none⟩ = some (.slice A0_0 l0_0.length c0_0) := (blk_cell BK3.out 0).trans rfl; have hcz0_1_BK3 : w2.cell? ⟨gb1, 1, none⟩ = some (.int .i64 a0_1) := (blk_cell BK3.out 1).trans rfl) | ((with_reducible refine gate_callee (f := 11) rfl ?_); refine goesL_ (some 21) rfl rfl Try.func11 (by kernel_rfl) rfl #[.agg #[.slice A0_0 l0_0.length c0_0, .int .i64 a0_1], .int .i64 1048576] rfl (by (try simp only [List.map_toArray, List.map_cons, List.map_nil]); first | done | rfl) ?_; (with_reducible refine (laws_szStore.calls k _ _ l0_0 a0_1 1048576 t5 _ ?side1 ?side2 A6.out).mono ?_); (case side1 => exact Kd.C_below HR0_0.out (below_step HB.out (by repeat (first | (with_reducible first | exact HX.out | apply below_alloc | apply pw_below_drewN | apply below_drew1) | exact HX.out)))); (case side2 => exact HC0_0.out); rintro e w7 ⟨rfl, hb⟩; refine ⟨_, rfl, ?_⟩; have hx_ := lw3_hx hb (by repeat (first | (with_reducible first | exact HX.out | apply below_alloc | apply pw_below_drewN | apply below_drew1) | exact HX.out)); have hbt := below_step hx_ hb; replace BK3 := Aside0.mk (blk_below (g := gb1) BK3.out hbt); replace HN := Aside0.mk (Nat.le_trans (Nat.le_trans HN.out (below_size hx_)) hb.size); replace HB := Aside0.mk (below_step HB.out hbt); replace HX := Aside0.mk (Below.refl w7.heap.size w7); clear hb hbt hx_; have hcz1_0_BK3 : w7.cell? ⟨gb1, 0, none⟩ = some (.slice A0_0 l0_0.length c0_0) := (blk_cell BK3.out 0).trans rfl; have hcz1_1_BK3 : w7.cell? ⟨gb1, 1, none⟩ = some (.int .i64 a0_1) := (blk_cell BK3.out 1).trans rfl))
  go_ret
  exact ⟨by first | rfl | (simp [*]; done), below_step HB.out (by repeat (first | (with_reducible first | exact HX.out | apply below_alloc | apply pw_below_drewN | apply below_drew1) | exact HX.out))⟩
 ·rw [if_neg c1] at H
  have c1b : decide (t5 < 0) = false := decide_eq_false c1
  clear c1
  obtain ⟨⟨t9, t10⟩, A0_, H⟩ := lw3_bind H
  (try dsimp only at H)
  have A11 := Aside0.mk A0_
  clear A0_
  obtain ⟨⟨t16, t17, t18, t19⟩, A0_, H⟩ := lw3_bind H
  (try dsimp only at H)
  have A20 := Aside0.mk A0_
  clear A0_
  obtain ⟨⟨t33, t34⟩, A0_, H⟩ := lw3_bind H
  (try dsimp only at H)
  have A35 := Aside0.mk A0_
  clear A0_
  obtain ⟨⟨t49, t50, t51, t52⟩, A0_, H⟩ := lw3_bind H
  (try dsimp only at H)
  have A53 := Aside0.mk A0_
  clear A0_
  obtain ⟨t68, A0_, H⟩ := lw3_bind H
  (try dsimp only at H)
  have A69 := Aside0.mk A0_
  clear A0_
  replace H := lw3_need H
  obtain ⟨c7, H⟩ := H
  subst c7
  replace H := lw3_need H
  obtain ⟨c8, H⟩ := H
  have c8b0 : (t51 == t18) = true := beq_iff_eq.mpr c8
  have c8b1 : (t51 != t18) = false := bne_eq_false_iff_eq.mpr c8
  clear c8
  replace H := lw3_need H
  obtain ⟨c9, H⟩ := H
  have c9b0 : (t52 == t19) = true := beq_iff_eq.mpr c9
  have c9b1 : (t52 != t19) = false := bne_eq_false_iff_eq.mpr c9
  clear c9
  obtain ⟨⟨t73, t74⟩, A0_, H⟩ := lw3_bind H
  (try dsimp only at H)
  have A75 := Aside0.mk A0_
  clear A0_
  obtain ⟨t80, A0_, H⟩ := lw3_bind H
  (try dsimp only at H)
  have A81 := Aside0.mk A0_
  clear A0_
  replace H := lw3_need H
  obtain ⟨c12, H⟩ := H
  subst c12
  obtain ⟨⟨t84, t85⟩, A0_, H⟩ := lw3_bind H
  (try dsimp only at H)
  have A86 := Aside0.mk A0_
  clear A0_
  replace H := lw3_need H
  obtain ⟨c14, H⟩ := H
  have c14b0 : decide (t84 < 0) = false := decide_eq_false c14
  clear c14
  obtain ⟨t90, A0_, H⟩ := lw3_bind H
  (try dsimp only at H)
  have A91 := Aside0.mk A0_
  clear A0_
  replace H := lw3_need H
  obtain ⟨c16, H⟩ := H
  subst c16
  obtain ⟨⟨t94, t95⟩, A0_, H⟩ := lw3_bind H
  (try dsimp only at H)
  have A96 := Aside0.mk A0_
  clear A0_
  obtain ⟨t100, A0_, H⟩ := lw3_bind H
  (try dsimp only at H)
  have A101 := Aside0.mk A0_
  clear A0_
  replace H := lw3_need H
  obtain ⟨c19, H⟩ := H
  have c19b0 : decide (t100 < 0) = false := decide_eq_false c19
  clear c19
  replace H := lw3_need H
  obtain ⟨c20, H⟩ := H
  have c20b0 : (t100 == t94) = true := beq_iff_eq.mpr c20
  have c20b1 : (t100 != t94) = false := bne_eq_false_iff_eq.mpr c20
  clear c20
  obtain ⟨⟨t104, t105⟩, A0_, H⟩ := lw3_bind H
  (try dsimp only at H)
  have A106 := Aside0.mk A0_
  clear A0_
  obtain ⟨⟨t111, t112, t113, t114⟩, A0_, H⟩ := lw3_bind H
  (try dsimp only at H)
  have A115 := Aside0.mk A0_
  clear A0_
  obtain ⟨t131, A0_, H⟩ := lw3_bind H
  (try dsimp only at H)
  have A132 := Aside0.mk A0_
  clear A0_
  replace H := lw3_need H
  obtain ⟨c24, H⟩ := H
  subst c24
  replace H := lw3_need H
  obtain ⟨c25, H⟩ := H
  have c25b0 : (t113 == t18) = true := beq_iff_eq.mpr c25
  have c25b1 : (t113 != t18) = false := bne_eq_false_iff_eq.mpr c25
  clear c25
  replace H := lw3_need H
  obtain ⟨c26, H⟩ := H
  have c26b0 : (t114 == t19) = true := beq_iff_eq.mpr c26
  have c26b1 : (t114 != t19) = false := bne_eq_false_iff_eq.mpr c26
  clear c26
  obtain ⟨t135, A0_, H⟩ := lw3_bind H
  (try dsimp only at H)
  have A136 := Aside0.mk A0_
  clear A0_
  replace H := lw3_need H
  obtain ⟨c28, H⟩ := H
  have c28b0 : decide (t135 < 0) = false := decide_eq_false c28
  clear c28
  replace H := lw3_need H
  obtain ⟨c29, H⟩ := H
  have c29b0 : (t135 == t94) = true := beq_iff_eq.mpr c29
  have c29b1 : (t135 != t94) = false := bne_eq_false_iff_eq.mpr c29
  clear c29
  obtain rfl := Option.some.inj H
  go_enter Try.func3, Try.ntmps3
  go_wp2_with (first | ((with_reducible refine gate_dst (N := 2) rfl ?_); refine box_event ?hg (N := 2) ?hd (cs := #[.slice A0_0 l0_0.length c0_0, .int .i64 a0_1]) (t := 24) ?hr ?_; (case hd => rfl); (case hg => rfl); (case hr => first | (go_simp; done) | (go_simp; rfl)); intro gb1 hg w2 hbox hb; have hx_ := lw3_hx hb (by repeat (first | (with_reducible first | exact HX.out | apply below_alloc | apply pw_below_drewN | apply below_drew1) | exact HX.out)); have hbt := below_step hx_ hb; obtain ⟨lo4, hi4, hl_, hh_, hc_⟩ := lw3_iv (Nat.le_trans HN.out (below_size hx_)) hb.size; have CHlo4 := Aside0.mk (show w.heap.size ≤ lo4 ∧ lo4 ≤ hi4 from hc_); clear hc_; have BK3 := Aside0.mk (hbox); replace HN := Aside0.mk ((show hi4 ≤ w2.heap.size from Nat.le_of_eq hh_)); replace HB := Aside0.mk (below_step HB.out hbt); replace HX := Aside0.mk (Below.refl w2.heap.size w2); have IVgb1 := Aside0.mk (show lo4 ≤ gb1 ∧ gb1 < hi4 from ⟨Nat.le_of_eq (hl_.trans hg.symm), by rw [hh_]; exact blk_lt hbox⟩); clear hb hbt hx_ hl_ hh_; clear hg hbox; have hcz0_0_BK3 : w2.cell? ⟨gb1, 0, none⟩ = some (.slice A0_0 l0_0.length c0_0) := (blk_cell BK3.out 0).trans rfl; have hcz0_1_BK3 : w2.cell? ⟨gb1, 1, none⟩ = some (.int .i64 a0_1) := (blk_cell BK3.out 1).trans rfl) | ((with_reducible refine gate_callee (f := 11) rfl ?_); refine goesL_ (some 21) rfl rfl Try.func11 (by kernel_rfl) rfl #[.agg #[.slice A0_0 l0_0.length c0_0, .int .i64 a0_1], .int .i64 1048576] rfl (by (try simp only [List.map_toArray, List.map_cons, List.map_nil]); first | done | rfl) ?_; (with_reducible refine (laws_szStore.calls k _ _ l0_0 a0_1 1048576 t5 _ ?side1 ?side2 A6.out).mono ?_); (case side1 => exact Kd.C_below HR0_0.out (below_step HB.out (by repeat (first | (with_reducible first | exact HX.out | apply below_alloc | apply pw_below_drewN | apply below_drew1) | exact HX.out)))); (case side2 => exact HC0_0.out); rintro e w7 ⟨rfl, hb⟩; refine ⟨_, rfl, ?_⟩; have hx_ := lw3_hx hb (by repeat (first | (with_reducible first | exact HX.out | apply below_alloc | apply pw_below_drewN | apply below_drew1) | exact HX.out)); have hbt := below_step hx_ hb; replace BK3 := Aside0.mk (blk_below (g := gb1) BK3.out hbt); replace HN := Aside0.mk (Nat.le_trans (Nat.le_trans HN.out (below_size hx_)) hb.size); replace HB := Aside0.mk (below_step HB.out hbt); replace HX := Aside0.mk (Below.refl w7.heap.size w7); clear hb hbt hx_; have hcz1_0_BK3 : w7.cell? ⟨gb1, 0, none⟩ = some (.slice A0_0 l0_0.length c0_0) := (blk_cell BK3.out 0).trans rfl; have hcz1_1_BK3 : w7.cell? ⟨gb1, 1, none⟩ = some (.int .i64 a0_1) := (blk_cell BK3.out 1).trans rfl) | ((with_reducible refine gate_callee (f := 13) rfl ?_); refine goesL_ (some 26) rfl rfl Try.func13 (by kernel_rfl) rfl #[.agg #[.slice A0_0 l0_0.length c0_0, .int .i64 a0_1]] rfl (by (try simp only [List.map_toArray, List.map_cons, List.map_nil]); first | done | rfl) ?_; (with_reducible refine (laws_toStore.calls k _ _ l0_0 a0_1 t9 t10 _ ?side1 ?side2 A11.out).mono ?_); (case side1 => exact Kd.C_below HR0_0.out (below_step HB.out (by repeat (first | (with_reducible first | exact HX.out | apply below_alloc | apply pw_below_drewN | apply below_drew1) | exact HX.out)))); (case side2 => exact HC0_0.out); rintro e w12 ⟨vt9, rfl, ho0, hb⟩; refine ⟨_, rfl, ?_⟩; have hx_ := lw3_hx hb (by repeat (first | (with_reducible first | exact HX.out | apply below_alloc | apply pw_below_drewN | apply below_drew1) | exact HX.out)); have hbt := below_step hx_ hb; obtain ⟨lo13, hi13, hl_, hh_, hc_⟩ := lw3_iv (Nat.le_trans HN.out (below_size hx_)) hb.size; have CHlo13 := Aside0.mk (show hi4 ≤ lo13 ∧ lo13 ≤ hi13 from hc_); clear hc_; replace BK3 := Aside0.mk (blk_below (g := gb1) BK3.out hbt); have HO14 := Aside0.mk (Kd.S_mono (ok' := fun k_ => lo13 ≤ k_ ∧ k_ < hi13) (Kd.S_lower (Kd.S_bound ho0) (below_size (below_step HB.out hx_))) (fun k_ hk_ => ⟨by rw [hl_]; exact hk_.2.1, by rw [hh_]; exact hk_.2.2.1⟩)); replace HN := Aside0.mk ((show hi13 ≤ w12.heap.size from Nat.le_of_eq hh_)); replace HB := Aside0.mk (below_step HB.out hbt); replace HX := Aside0.mk (Below.refl w12.heap.size w12); clear hb hbt hx_ hl_ hh_; (try clear ho0); obtain ⟨Aoo15, coo15, eoo15⟩ := Kd.S_slice HO14.out; (first | subst eoo15 | (injection eoo15 with f1_ f2_ f3_; have f4_ := f1_.symm; have f5_ := f3_.symm; clear f1_ f2_ f3_; subst f4_; subst f5_)); skip) | ((with_reducible refine gate_callee (f := 12) rfl ?_); refine goesL_ (some 28) rfl rfl Try.func12 (by kernel_rfl) rfl #[.agg #[.slice Aoo15 t9.length coo15, .int .i64 t10], .int .i64 a1] rfl (by (try simp only [List.map_toArray, List.map_cons, List.map_nil]); first | done | rfl) ?_; (with_reducible refine (spec_Forget.calls k _ _ t9 t10 a1 t16 t17 t18 t19 _ ?side1 ?side2 A20.out).mono ?_); (case side1 => exact Kd.C_below (Kd.S_reads' HO14.out).2.2 (by repeat (first | (with_reducible first | exact HX.out | apply below_alloc | apply pw_below_drewN | apply below_drew1) | exact HX.out))); (case side2 => have z_ := Kd.S_reads' HO14.out; have y_ := z_.1; have x_ := z_.2.1; omega); rintro e w21 ⟨vt16, rfl, ho0, hb⟩; refine ⟨_, rfl, ?_⟩; have hx_ := lw3_hx hb (by repeat (first | (with_reducible first | exact HX.out | apply below_alloc | apply pw_below_drewN | apply below_drew1) | exact HX.out)); have hbt := below_step hx_ hb; obtain ⟨lo22, hi22, hl_, hh_, hc_⟩ := lw3_iv (Nat.le_trans HN.out (below_size hx_)) hb.size; have CHlo22 := Aside0.mk (show hi13 ≤ lo22 ∧ lo22 ≤ hi22 from hc_); clear hc_; replace BK3 := Aside0.mk (blk_below (g := gb1) BK3.out hbt); replace HO14 := Aside0.mk (Kd.S_below HO14.out hbt); have HO23 := Aside0.mk (Kd.S_mono (ok' := fun k_ => lo22 ≤ k_ ∧ k_ < hi22) (Kd.S_lower (Kd.S_bound ho0) (below_size (below_step HB.out hx_))) (fun k_ hk_ => ⟨by rw [hl_]; exact hk_.2.1, by rw [hh_]; exact hk_.2.2.1⟩)); replace HN := Aside0.mk ((show hi22 ≤ w21.heap.size from Nat.le_of_eq hh_)); replace HB := Aside0.mk (below_step HB.out hbt); replace HX := Aside0.mk (Below.refl w21.heap.size w21); clear hb hbt hx_ hl_ hh_; (try clear ho0); obtain ⟨Aoo24, coo24, eoo24⟩ := Kd.S_slice HO23.out; (first | subst eoo24 | (injection eoo24 with f1_ f2_ f3_; have f4_ := f1_.symm; have f5_ := f3_.symm; clear f1_ f2_ f3_; subst f4_; subst f5_)); skip) | ((with_reducible refine gate_dst (N := 6) rfl ?_); refine box_event ?hg (N := 6) ?hd (cs := #[.slice none 0 0, .int .i64 0]) (t := 28) ?hr ?_; (case hd => rfl); (case hg => rfl); (case hr => first | (go_simp; done) | (go_simp; rfl)); intro gb25 hg w26 hbox hb; have GEgb25 := Aside0.mk (by rw [hg]; exact (below_size (by repeat (first | (with_reducible first | exact HX.out | apply below_alloc | apply pw_below_drewN | apply below_drew1) | exact HX.out))) : _ ≤ gb25); have BK27r := Aside0.mk hbox; have n0_ := Aside0.mk (below_step (by repeat (first | (with_reducible first | exact HX.out | apply below_alloc | apply pw_below_drewN | apply below_drew1) | exact HX.out)) hb); have hnb28 : gb25 ≠ gb1 := (fun e_ => by have z1_ := GEgb25.out; have z2_ := blk_lt BK3.out; omega); have hnb28c : gb1 ≠ gb25 := fun e_ => hnb28 e_.symm; clear HX; have HX := n0_; clear n0_ hb hg; have hcz29 : w26.cell? ⟨gb25, 0, none⟩ = some (.slice none 0 0) := (blk_cell BK27r.out 0).trans rfl; have hfz30 := blk_frozen BK27r.out 0; have hcz31 : w26.cell? ⟨gb25, 1, none⟩ = some (.int .i64 0) := (blk_cell BK27r.out 1).trans rfl; have hfz32 := blk_frozen BK27r.out 1; have hcz4_0_BK3 : w26.cell? ⟨gb1, 0, none⟩ = some (.slice A0_0 l0_0.length c0_0) := (blk_cell (blk_below (g := gb1) BK3.out HX.out) 0).trans rfl; have hcz4_1_BK3 : w26.cell? ⟨gb1, 1, none⟩ = some (.int .i64 a0_1) := (blk_cell (blk_below (g := gb1) BK3.out HX.out) 1).trans rfl; clear hbox) | ((with_reducible refine gate_callee (f := 13) rfl ?_); refine goesL_ (some 33) rfl rfl Try.func13 (by kernel_rfl) rfl #[.agg #[.slice A0_0 l0_0.length c0_0, .int .i64 a0_1]] rfl (by (try simp only [List.map_toArray, List.map_cons, List.map_nil]); first | done | rfl) ?_; (with_reducible refine (laws_toStore.calls k _ _ l0_0 a0_1 t33 t34 _ ?side1 ?side2 A35.out).mono ?_); (case side1 => exact Kd.C_below HR0_0.out (below_step HB.out (by repeat (first | (with_reducible first | exact HX.out | apply below_alloc | apply pw_below_drewN | apply below_drew1 | refine below_set ?_ GEgb25.out) | exact HX.out)))); (case side2 => exact HC0_0.out); rintro e w36 ⟨vt33, rfl, ho0, hb⟩; refine ⟨_, rfl, ?_⟩; have hx_ := lw3_hx hb (by repeat (first | (with_reducible first | exact HX.out | apply below_alloc | apply pw_below_drewN | apply below_drew1 | refine below_set ?_ GEgb25.out) | exact HX.out)); have hp_ := lw3_lt (g := gb25) (o := .cells #[.slice Aoo24 t16.length coo24, .int .i64 t17] 28 (0, 0)) hb (by (with_reducible repeat (first | refine blk_drewN ?_ _ | refine blk_drew ?_ | refine blk_alloc ?_ _)); refine blk_put (cs := #[.slice Aoo24 t16.length coo24, .int .i64 0]) ?_ 1 _ rfl; (with_reducible repeat (first | refine blk_drewN ?_ _ | refine blk_drew ?_ | refine blk_alloc ?_ _)); refine blk_put (cs := #[.slice none 0 0, .int .i64 0]) ?_ 0 _ rfl; (with_reducible repeat (first | refine blk_drewN ?_ _ | refine blk_drew ?_ | refine blk_alloc ?_ _)); exact BK27r.out); have CHgb25 := Aside0.mk (show hi22 ≤ gb25 from Nat.le_trans HN.out GEgb25.out); have hbt := below_step hx_ hb; obtain ⟨lo37, hi37, hl_, hh_, hc_⟩ := lw3_iv (hp_.1) hb.size; have CHlo37 := Aside0.mk (show gb25 + 1 ≤ lo37 ∧ lo37 ≤ hi37 from hc_); clear hc_; have BK27 := Aside0.mk (hp_.2); replace BK3 := Aside0.mk (blk_below (g := gb1) BK3.out hbt); replace HO14 := Aside0.mk (Kd.S_below HO14.out hbt); replace HO23 := Aside0.mk (Kd.S_below HO23.out hbt); have HO38 := Aside0.mk (Kd.S_mono (ok' := fun k_ => lo37 ≤ k_ ∧ k_ < hi37) (Kd.S_lower (Kd.S_bound ho0) (below_size (below_step HB.out hx_))) (fun k_ hk_ => ⟨by rw [hl_]; exact hk_.2.1, by rw [hh_]; exact hk_.2.2.1⟩)); replace HN := Aside0.mk ((show hi37 ≤ w36.heap.size from Nat.le_of_eq hh_)); replace HB := Aside0.mk (below_step HB.out hbt); replace HX := Aside0.mk (Below.refl w36.heap.size w36); have IVgb25 := Aside0.mk (show gb25 ≤ gb25 ∧ gb25 < gb25 + 1 from ⟨Nat.le_refl _, Nat.lt_succ_self _⟩); clear hb hbt hx_ hp_ hl_ hh_; (try clear ho0); obtain ⟨Aoo39, coo39, eoo39⟩ := Kd.S_slice HO38.out; (first | subst eoo39 | (injection eoo39 with f1_ f2_ f3_; have f4_ := f1_.symm; have f5_ := f3_.symm; clear f1_ f2_ f3_; subst f4_; subst f5_)); skip) | ((with_reducible refine gate_dst (N := 9) rfl ?_); refine box_event ?hg (N := 9) ?hd (cs := #[.slice none 0 0, .int .i64 0]) (t := 28) ?hr ?_; (case hd => rfl); (case hg => rfl); (case hr => first | (go_simp; done) | (go_simp; rfl)); intro gb40 hg w41 hbox hb; have GEgb40 := Aside0.mk (by rw [hg]; exact (below_size (by repeat (first | (with_reducible first | exact HX.out | apply below_alloc | apply pw_below_drewN | apply below_drew1) | exact HX.out))) : _ ≤ gb40); have BK42r := Aside0.mk hbox; have n0_ := Aside0.mk (below_step (by repeat (first | (with_reducible first | exact HX.out | apply below_alloc | apply pw_below_drewN | apply below_drew1) | exact HX.out)) hb); have hnb43 : gb40 ≠ gb1 := (fun e_ => by have z1_ := GEgb40.out; have z2_ := blk_lt BK3.out; omega); have hnb43c : gb1 ≠ gb40 := fun e_ => hnb43 e_.symm; have hnb44 : gb40 ≠ gb25 := (fun e_ => by have z1_ := GEgb40.out; have z2_ := blk_lt BK27.out; omega); have hnb44c : gb25 ≠ gb40 := fun e_ => hnb44 e_.symm; clear HX; have HX := n0_; clear n0_ hb hg; have hcz45 : w41.cell? ⟨gb40, 0, none⟩ = some (.slice none 0 0) := (blk_cell BK42r.out 0).trans rfl; have hfz46 := blk_frozen BK42r.out 0; have hcz47 : w41.cell? ⟨gb40, 1, none⟩ = some (.int .i64 0) := (blk_cell BK42r.out 1).trans rfl; have hfz48 := blk_frozen BK42r.out 1; skip; clear hbox) | ((with_reducible refine gate_callee (f := 14) rfl ?_); refine goesL_ (some 37) rfl rfl Try.func14 (by kernel_rfl) rfl #[.agg #[.slice Aoo39 t33.length coo39, .int .i64 t34], .int .i64 a1] rfl (by (try simp only [List.map_toArray, List.map_cons, List.map_nil]); first | done | rfl) ?_; (with_reducible refine (impl_Forget.calls k _ _ t33 t34 a1 t49 t50 t51 t52 _ ?side1 ?side2 A53.out).mono ?_); (case side1 => exact Kd.C_below (Kd.S_reads' HO38.out).2.2 (by repeat (first | (with_reducible first | exact HX.out | apply below_alloc | apply pw_below_drewN | apply below_drew1 | refine below_set ?_ GEgb40.out) | exact HX.out))); (case side2 => have z_ := Kd.S_reads' HO38.out; have y_ := z_.1; have x_ := z_.2.1; omega); rintro e w54 ⟨vt49, rfl, ho0, hb⟩; refine ⟨_, rfl, ?_⟩; have hx_ := lw3_hx hb (by repeat (first | (with_reducible first | exact HX.out | apply below_alloc | apply pw_below_drewN | apply below_drew1 | refine below_set ?_ GEgb40.out) | exact HX.out)); have hp_ := lw3_lt (g := gb40) (o := .cells #[.slice Aoo39 t33.length coo39, .int .i64 t34] 28 (0, 0)) hb (by (with_reducible repeat (first | refine blk_drewN ?_ _ | refine blk_drew ?_ | refine blk_alloc ?_ _)); refine blk_put (cs := #[.slice Aoo39 t33.length coo39, .int .i64 0]) ?_ 1 _ rfl; (with_reducible repeat (first | refine blk_drewN ?_ _ | refine blk_drew ?_ | refine blk_alloc ?_ _)); refine blk_put (cs := #[.slice none 0 0, .int .i64 0]) ?_ 0 _ rfl; (with_reducible repeat (first | refine blk_drewN ?_ _ | refine blk_drew ?_ | refine blk_alloc ?_ _)); exact BK42r.out); have CHgb40 := Aside0.mk (show hi37 ≤ gb40 from Nat.le_trans HN.out GEgb40.out); have hbt := below_step hx_ hb; obtain ⟨lo55, hi55, hl_, hh_, hc_⟩ := lw3_iv (hp_.1) hb.size; have CHlo55 := Aside0.mk (show gb40 + 1 ≤ lo55 ∧ lo55 ≤ hi55 from hc_); clear hc_; have BK42 := Aside0.mk (hp_.2); replace BK3 := Aside0.mk (blk_below (g := gb1) BK3.out hbt); replace HO14 := Aside0.mk (Kd.S_below HO14.out hbt); replace HO23 := Aside0.mk (Kd.S_below HO23.out hbt); replace BK27 := Aside0.mk (blk_below (g := gb25) BK27.out hbt); replace HO38 := Aside0.mk (Kd.S_below HO38.out hbt); have HO56 := Aside0.mk (Kd.S_mono (ok' := fun k_ => lo55 ≤ k_ ∧ k_ < hi55) (Kd.S_lower (Kd.S_bound ho0) (below_size (below_step HB.out hx_))) (fun k_ hk_ => ⟨by rw [hl_]; exact hk_.2.1, by rw [hh_]; exact hk_.2.2.1⟩)); replace HN := Aside0.mk ((show hi55 ≤ w54.heap.size from Nat.le_of_eq hh_)); replace HB := Aside0.mk (below_step HB.out hbt); replace HX := Aside0.mk (Below.refl w54.heap.size w54); have IVgb40 := Aside0.mk (show gb40 ≤ gb40 ∧ gb40 < gb40 + 1 from ⟨Nat.le_refl _, Nat.lt_succ_self _⟩); clear hb hbt hx_ hp_ hl_ hh_; (try clear ho0); obtain ⟨Aoo57, coo57, eoo57⟩ := Kd.S_slice HO56.out; (first | subst eoo57 | (injection eoo57 with f1_ f2_ f3_; have f4_ := f1_.symm; have f5_ := f3_.symm; clear f1_ f2_ f3_; subst f4_; subst f5_)); skip) | ((with_reducible refine gate_dst (N := 10) rfl ?_); refine box_event ?hg (N := 10) ?hd (cs := #[.slice none 0 0, .int .i64 0]) (t := 28) ?hr ?_; (case hd => rfl); (case hg => rfl); (case hr => first | (go_simp; done) | (go_simp; rfl)); intro gb58 hg w59 hbox hb; have GEgb58 := Aside0.mk (by rw [hg]; exact (below_size (by repeat (first | (with_reducible first | exact HX.out | apply below_alloc | apply pw_below_drewN | apply below_drew1) | exact HX.out))) : _ ≤ gb58); have BK60r := Aside0.mk hbox; have n0_ := Aside0.mk (below_step (by repeat (first | (with_reducible first | exact HX.out | apply below_alloc | apply pw_below_drewN | apply below_drew1) | exact HX.out)) hb); have hnb61 : gb58 ≠ gb1 := (fun e_ => by have z1_ := GEgb58.out; have z2_ := blk_lt BK3.out; omega); have hnb61c : gb1 ≠ gb58 := fun e_ => hnb61 e_.symm; have hnb62 : gb58 ≠ gb25 := (fun e_ => by have z1_ := GEgb58.out; have z2_ := blk_lt BK27.out; omega); have hnb62c : gb25 ≠ gb58 := fun e_ => hnb62 e_.symm; have hnb63 : gb58 ≠ gb40 := (fun e_ => by have z1_ := GEgb58.out; have z2_ := blk_lt BK42.out; omega); have hnb63c : gb40 ≠ gb58 := fun e_ => hnb63 e_.symm; clear HX; have HX := n0_; clear n0_ hb hg; have hcz64 : w59.cell? ⟨gb58, 0, none⟩ = some (.slice none 0 0) := (blk_cell BK60r.out 0).trans rfl; have hfz65 := blk_frozen BK60r.out 0; have hcz66 : w59.cell? ⟨gb58, 1, none⟩ = some (.int .i64 0) := (blk_cell BK60r.out 1).trans rfl; have hfz67 := blk_frozen BK60r.out 1; have hcz8_0_BK27 : w59.cell? ⟨gb25, 0, none⟩ = some (.slice Aoo24 t16.length coo24) := (blk_cell (blk_below (g := gb25) BK27.out HX.out) 0).trans rfl; have hcz8_1_BK27 : w59.cell? ⟨gb25, 1, none⟩ = some (.int .i64 t17) := (blk_cell (blk_below (g := gb25) BK27.out HX.out) 1).trans rfl; clear hbox) | ((with_reducible refine gate_callee (f := 15) rfl ?_); refine goesL_ (some 43) rfl rfl Try.func15 (by kernel_rfl) rfl #[.agg #[.slice Aoo57 t49.length coo57, .int .i64 t50], .agg #[.slice Aoo24 t16.length coo24, .int .i64 t17]] rfl (by (try simp only [List.map_toArray, List.map_cons, List.map_nil]); first | done | rfl) ?_; (with_reducible refine (laws_eqStore.calls k _ _ t49 t50 _ _ t16 t17 true _ ?side1 ?side2 ?side3 ?side4 A69.out).mono ?_); (case side1 => exact Kd.C_below (Kd.S_reads' HO56.out).2.2 (by repeat (first | (with_reducible first | exact HX.out | apply below_alloc | apply pw_below_drewN | apply below_drew1 | refine below_set ?_ GEgb58.out) | exact HX.out))); (case side2 => have z_ := Kd.S_reads' HO56.out; have y_ := z_.1; have x_ := z_.2.1; omega); (case side3 => exact Kd.C_below (Kd.S_reads' HO23.out).2.2 (by repeat (first | (with_reducible first | exact HX.out | apply below_alloc | apply pw_below_drewN | apply below_drew1 | refine below_set ?_ GEgb58.out) | exact HX.out))); (case side4 => have z_ := Kd.S_reads' HO23.out; have y_ := z_.1; have x_ := z_.2.1; omega); rintro e w70 ⟨rfl, hb⟩; refine ⟨_, rfl, ?_⟩; have hx_ := lw3_hx hb (by repeat (first | (with_reducible first | exact HX.out | apply below_alloc | apply pw_below_drewN | apply below_drew1 | refine below_set ?_ GEgb58.out) | exact HX.out)); have hp_ := lw3_lt (g := gb58) (o := .cells #[.slice Aoo57 t49.length coo57, .int .i64 t50] 28 (0, 0)) hb (by (with_reducible repeat (first | refine blk_drewN ?_ _ | refine blk_drew ?_ | refine blk_alloc ?_ _)); refine blk_put (cs := #[.slice Aoo57 t49.length coo57, .int .i64 0]) ?_ 1 _ rfl; (with_reducible repeat (first | refine blk_drewN ?_ _ | refine blk_drew ?_ | refine blk_alloc ?_ _)); refine blk_put (cs := #[.slice none 0 0, .int .i64 0]) ?_ 0 _ rfl; (with_reducible repeat (first | refine blk_drewN ?_ _ | refine blk_drew ?_ | refine blk_alloc ?_ _)); exact BK60r.out); have CHgb58 := Aside0.mk (show hi55 ≤ gb58 from Nat.le_trans HN.out GEgb58.out); have hbt := below_step hx_ hb; have BK60 := Aside0.mk (hp_.2); replace BK3 := Aside0.mk (blk_below (g := gb1) BK3.out hbt); replace HO14 := Aside0.mk (Kd.S_below HO14.out hbt); replace HO23 := Aside0.mk (Kd.S_below HO23.out hbt); replace BK27 := Aside0.mk (blk_below (g := gb25) BK27.out hbt); replace HO38 := Aside0.mk (Kd.S_below HO38.out hbt); replace BK42 := Aside0.mk (blk_below (g := gb40) BK42.out hbt); replace HO56 := Aside0.mk (Kd.S_below HO56.out hbt); replace HN := Aside0.mk (Nat.le_trans (hp_.1) hb.size); replace HB := Aside0.mk (below_step HB.out hbt); replace HX := Aside0.mk (Below.refl w70.heap.size w70); have IVgb58 := Aside0.mk (show gb58 ≤ gb58 ∧ gb58 < gb58 + 1 from ⟨Nat.le_refl _, Nat.lt_succ_self _⟩); clear hb hbt hx_ hp_; skip))
  try go_wp2
  have hdr_ := Aside0.mk (below_drew1 HX.out)
  refine start_ (n := 5) (S := fun w' => w'.cell? ⟨gb40, 0, none⟩ = some (.slice Aoo39 t33.length coo39) ∧ w'.cell? ⟨gb40, 1, none⟩ = some (.int .i64 t34) ∧ w'.cell? ⟨gb1, 0, none⟩ = some (.slice A0_0 l0_0.length c0_0) ∧ w'.cell? ⟨gb1, 1, none⟩ = some (.int .i64 a0_1)) (ds := []) #[false, false, false, false, false] (by kernel_rfl) rfl rfl ⟨(blk_cell (blk_below (g := gb40) BK42.out hdr_.out) 0).trans rfl, (blk_cell (blk_below (g := gb40) BK42.out hdr_.out) 1).trans rfl, (blk_cell (blk_below (g := gb1) BK3.out hdr_.out) 0).trans rfl, (blk_cell (blk_below (g := gb1) BK3.out hdr_.out) 1).trans rfl⟩ (fun hHeld => ?_)
  generalize w70.drew = w72 at hdr_ hHeld ⊢
  clear HX
  have HX := hdr_
  clear hdr_
  refine take_ (i := 0) (N := some 55) (v := ?_) (a' := ?_) #[true, false, false, false, false] rfl rfl (by kernel_rfl) (fun _ _ _ h => h) (Or.inl ⟨by rfl, ?_⟩) hHeld ?_ ?_
  rotate_left
  ·rintro w' ⟨s0, s1, s2, s3⟩
   go_simp
   with_reducible rfl
  rotate_left
  ·simp only [Act.put, List.setIfInBounds_toArray, List.set_cons_zero, List.set_cons_succ, i64_w, i32_w]
   rfl
  refine take_ (i := 1) (N := some 56) (v := ?_) (a' := ?_) #[true, true, false, false, false] rfl rfl (by kernel_rfl) (fun _ _ _ h => h) (Or.inl ⟨by rfl, ?_⟩) hHeld ?_ ?_
  rotate_left
  ·rintro w' ⟨s0, s1, s2, s3⟩
   go_simp
   with_reducible rfl
  rotate_left
  ·simp only [Act.put, List.setIfInBounds_toArray, List.set_cons_zero, List.set_cons_succ, i64_w, i32_w]
   rfl
  refine one_ (i := 2) (N := some 57) #[true, true, true, false, false] rfl rfl (by kernel_rfl) (by decide) (fun K hK => ?_)
  refine goes_ Try.func13 (by kernel_rfl) rfl #[.agg #[.slice A0_0 l0_0.length c0_0, .int .i64 a0_1]] (by rfl) rfl rfl (by (try simp only [List.map_toArray, List.map_cons, List.map_nil]); first | done | rfl) ?_
  (with_reducible refine (laws_toStore.calls k _ _ l0_0 a0_1 t73 t74 _ ?side1 ?side2 A75.out).mono ?_)
  (case side1 => exact Kd.C_below HR0_0.out (below_step HB.out HX.out))
  (case side2 => exact HC0_0.out)
  rintro e w76 ⟨vt73, rfl, ho0, hb⟩
  refine ⟨_, rfl, ?_⟩
  have hx_ := lw3_hx hb HX.out
  have hbt := below_step hx_ hb
  obtain ⟨lo77, hi77, hl_, hh_, hc_⟩ := lw3_iv (Nat.le_trans HN.out (below_size hx_)) hb.size
  have CHlo77 := Aside0.mk (show gb58 + 1 ≤ lo77 ∧ lo77 ≤ hi77 from hc_)
  clear hc_
  replace BK3 := Aside0.mk (blk_below (g := gb1) BK3.out hbt)
  replace HO14 := Aside0.mk (Kd.S_below HO14.out hbt)
  replace HO23 := Aside0.mk (Kd.S_below HO23.out hbt)
  replace BK27 := Aside0.mk (blk_below (g := gb25) BK27.out hbt)
  replace HO38 := Aside0.mk (Kd.S_below HO38.out hbt)
  replace BK42 := Aside0.mk (blk_below (g := gb40) BK42.out hbt)
  replace HO56 := Aside0.mk (Kd.S_below HO56.out hbt)
  replace BK60 := Aside0.mk (blk_below (g := gb58) BK60.out hbt)
  have HO78 := Aside0.mk (Kd.S_mono (ok' := fun k_ => lo77 ≤ k_ ∧ k_ < hi77) (Kd.S_lower (Kd.S_bound ho0) (below_size (below_step HB.out hx_))) (fun k_ hk_ => ⟨by rw [hl_]; exact hk_.2.1, by rw [hh_]; exact hk_.2.2.1⟩))
  replace HN := Aside0.mk ((show hi77 ≤ w76.heap.size from Nat.le_of_eq hh_))
  replace HB := Aside0.mk (below_step HB.out hbt)
  replace HX := Aside0.mk (Below.refl w76.heap.size w76)
  clear hb hbt hx_ hl_ hh_
  (try clear ho0)
  obtain ⟨Aoo79, coo79, eoo79⟩ := Kd.S_slice HO78.out
  (first | subst eoo79 | (injection eoo79 with f1_ f2_ f3_; have f4_ := f1_.symm; have f5_ := f3_.symm; clear f1_ f2_ f3_; subst f4_; subst f5_))
  refine hK.out _ _ ⟨(blk_cell BK42.out 0).trans rfl, (blk_cell BK42.out 1).trans rfl, (blk_cell BK3.out 0).trans rfl, (blk_cell BK3.out 1).trans rfl⟩ (fun hHeld => ?_)
  clear hK K
  refine norm_ (a' := ?_) ?_ ?_
  rotate_left
  ·show Act.put _ (some 57) _ = _
   simp only [Act.put, List.setIfInBounds_toArray, List.set_cons_zero, List.set_cons_succ, i64_w, i32_w]
   rfl
  refine one_ (i := 3) (N := some 58) #[true, true, true, true, false] rfl rfl (by kernel_rfl) (by decide) (fun K hK => ?_)
  refine goes_ Try.func15 (by kernel_rfl) rfl #[.agg #[.slice Aoo39 t33.length coo39, .int .i64 t34], .agg #[.slice Aoo79 t73.length coo79, .int .i64 t74]] (by rfl) rfl rfl (by (try simp only [List.map_toArray, List.map_cons, List.map_nil]); first | done | rfl) ?_
  (with_reducible refine (laws_eqStore.calls k _ _ t33 t34 _ _ t73 t74 true _ ?side1 ?side2 ?side3 ?side4 A81.out).mono ?_)
  (case side1 => exact Kd.C_below (Kd.S_reads' HO38.out).2.2 HX.out)
  (case side2 => have z_ := Kd.S_reads' HO38.out; have y_ := z_.1; have x_ := z_.2.1; omega)
  (case side3 => exact Kd.C_below (Kd.S_reads' HO78.out).2.2 HX.out)
  (case side4 => have z_ := Kd.S_reads' HO78.out; have y_ := z_.1; have x_ := z_.2.1; omega)
  rintro e w82 ⟨rfl, hb⟩
  refine ⟨_, rfl, ?_⟩
  have hx_ := lw3_hx hb HX.out
  have hbt := below_step hx_ hb
  replace BK3 := Aside0.mk (blk_below (g := gb1) BK3.out hbt)
  replace HO14 := Aside0.mk (Kd.S_below HO14.out hbt)
  replace HO23 := Aside0.mk (Kd.S_below HO23.out hbt)
  replace BK27 := Aside0.mk (blk_below (g := gb25) BK27.out hbt)
  replace HO38 := Aside0.mk (Kd.S_below HO38.out hbt)
  replace BK42 := Aside0.mk (blk_below (g := gb40) BK42.out hbt)
  replace HO56 := Aside0.mk (Kd.S_below HO56.out hbt)
  replace BK60 := Aside0.mk (blk_below (g := gb58) BK60.out hbt)
  replace HO78 := Aside0.mk (Kd.S_below HO78.out hbt)
  replace HN := Aside0.mk (Nat.le_trans (Nat.le_trans HN.out (below_size hx_)) hb.size)
  replace HB := Aside0.mk (below_step HB.out hbt)
  replace HX := Aside0.mk (Below.refl w82.heap.size w82)
  clear hb hbt hx_
  refine hK.out _ _ ⟨(blk_cell BK42.out 0).trans rfl, (blk_cell BK42.out 1).trans rfl, (blk_cell BK3.out 0).trans rfl, (blk_cell BK3.out 1).trans rfl⟩ (fun hHeld => ?_)
  clear hK K
  refine norm_ (a' := ?_) ?_ ?_
  rotate_left
  ·show Act.put _ (some 58) _ = _
   simp only [Act.put, List.setIfInBounds_toArray, List.set_cons_zero, List.set_cons_succ, i64_w, i32_w]
   rfl
  refine pure_ (i := 4) (N := some 59) (v := ?_) (a' := ?_) #[true, true, true, true, true] rfl rfl (by kernel_rfl) (fun _ _ _ h => h) (Or.inl ⟨by rfl, ?_⟩) ?_ ?_
  rotate_left
  ·intro w'
   go_simp
   with_reducible rfl
  rotate_left
  ·simp only [Act.put, List.setIfInBounds_toArray, List.set_cons_zero, List.set_cons_succ, i64_w, i32_w]
   rfl
  refine done_ (by kernel_rfl) ?_
  have hcz10_0_BK42 : w82.cell? ⟨gb40, 0, none⟩ = some (.slice Aoo39 t33.length coo39) := (blk_cell BK42.out 0).trans rfl; have hcz10_1_BK42 : w82.cell? ⟨gb40, 1, none⟩ = some (.int .i64 t34) := (blk_cell BK42.out 1).trans rfl
  go_wp2_with (first | ((with_reducible refine gate_callee (f := 16) rfl ?_); refine goesL_ (some 62) rfl rfl Try.func16 (by kernel_rfl) rfl #[.agg #[.slice Aoo39 t33.length coo39, .int .i64 t34], .int .i64 1] rfl (by (try simp only [List.map_toArray, List.map_cons, List.map_nil]); first | done | rfl) ?_; (with_reducible refine (laws_markStore.calls k (fun k_ => lo37 ≤ k_ ∧ k_ < hi37) _ t33 t34 1 t84 t85 w _ ?sB ?s0 A86.out).mono ?_); (case sB => exact below_step HB.out (by repeat (first | (with_reducible first | exact HX.out | apply below_alloc | apply pw_below_drewN | apply below_drew1) | exact HX.out))); (case s0 => exact Kd.S_below HO38.out (by repeat (first | (with_reducible first | exact HX.out | apply below_alloc | apply pw_below_drewN | apply below_drew1) | exact HX.out))); rintro e w87 ⟨rfl, hy0, hb0, hkp⟩; refine ⟨_, rfl, ?_⟩; have hkt := Kept.then_ (Kept.of_below (by repeat (first | (with_reducible first | exact HX.out | apply below_alloc | apply pw_below_drewN | apply below_drew1) | exact HX.out)) (fun k_ => (lo37 ≤ k_ ∧ k_ < hi37))) hkp (fun k_ h_ => .inl h_); have zz_ := And.intro CHlo4.out (And.intro CHlo13.out (And.intro CHlo22.out (And.intro CHgb25.out (And.intro CHlo37.out (And.intro CHgb40.out (And.intro CHlo55.out (And.intro CHgb58.out (CHlo77.out)))))))); obtain ⟨lo88, hi88, hl_, hh_, hc_⟩ := lw3_ivk hkp (Nat.le_trans HN.out (below_size (by repeat (first | (with_reducible first | exact HX.out | apply below_alloc | apply pw_below_drewN | apply below_drew1) | exact HX.out)))); have CHlo88 := Aside0.mk (show hi77 ≤ lo88 ∧ lo88 ≤ hi88 from hc_); clear hc_; replace BK3 := Aside0.mk (blk_kept (g := gb1) BK3.out hkt (fun h2_ => lw3_no IVgb1.out h2_ (by omega))); replace HO14 := Aside0.mk (Kd.S_kept HO14.out hkt (fun _ h1_ h2_ => lw3_no h1_ h2_ (by omega))); replace HO23 := Aside0.mk (Kd.S_kept HO23.out hkt (fun _ h1_ h2_ => lw3_no h1_ h2_ (by omega))); replace BK27 := Aside0.mk (blk_kept (g := gb25) BK27.out hkt (fun h2_ => lw3_no IVgb25.out h2_ (by omega))); replace BK42 := Aside0.mk (blk_kept (g := gb40) BK42.out hkt (fun h2_ => lw3_no IVgb40.out h2_ (by omega))); replace HO56 := Aside0.mk (Kd.S_kept HO56.out hkt (fun _ h1_ h2_ => lw3_no h1_ h2_ (by omega))); replace BK60 := Aside0.mk (blk_kept (g := gb58) BK60.out hkt (fun h2_ => lw3_no IVgb58.out h2_ (by omega))); replace HO78 := Aside0.mk (Kd.S_kept HO78.out hkt (fun _ h1_ h2_ => lw3_no h1_ h2_ (by omega))); replace HO38 := Aside0.mk ((show Kd.S (Kd.slice 43 k43) 41 w87 w.heap.size (fun k_ => (lo37 ≤ k_ ∧ k_ < hi37) ∨ (lo88 ≤ k_ ∧ k_ < hi88)) (.slice Aoo39 t33.length coo39) t85 from Kd.S_mono (Kd.S_bound hy0) (fun _ hk_ => hk_.1.elim (fun z_ => .inl z_) (fun z_ => .inr ⟨by rw [hl_]; exact z_, by rw [hh_]; exact hk_.2.2.1⟩)))); replace HN := Aside0.mk ((show hi88 ≤ w87.heap.size from Nat.le_of_eq hh_)); replace HB := Aside0.mk (hb0); replace HX := Aside0.mk (Below.refl w87.heap.size w87); clear hkp hb0 hkt zz_ hl_ hh_; (try clear hy0); have LEN89 := Aside0.mk (Kd.S_reads' HO38.out).1; have hcz11_0_BK27 : w87.cell? ⟨gb25, 0, none⟩ = some (.slice Aoo24 t16.length coo24) := (blk_cell BK27.out 0).trans rfl; have hcz11_1_BK27 : w87.cell? ⟨gb25, 1, none⟩ = some (.int .i64 t17) := (blk_cell BK27.out 1).trans rfl; have hcz11_0_BK60 : w87.cell? ⟨gb58, 0, none⟩ = some (.slice Aoo57 t49.length coo57) := (blk_cell BK60.out 0).trans rfl; have hcz11_1_BK60 : w87.cell? ⟨gb58, 1, none⟩ = some (.int .i64 t50) := (blk_cell BK60.out 1).trans rfl) | (go_at_call 15; (with_reducible refine (laws_eqStore.calls k _ _ t49 t50 _ _ t16 t17 true _ ?side1 ?side2 ?side3 ?side4 A91.out).mono ?_); (case side1 => exact Kd.C_below (Kd.S_reads' HO56.out).2.2 (by repeat (first | (with_reducible first | exact HX.out | apply below_alloc | apply pw_below_drewN | apply below_drew1) | exact HX.out))); (case side2 => have z_ := Kd.S_reads' HO56.out; have y_ := z_.1; have x_ := z_.2.1; omega); (case side3 => exact Kd.C_below (Kd.S_reads' HO23.out).2.2 (by repeat (first | (with_reducible first | exact HX.out | apply below_alloc | apply pw_below_drewN | apply below_drew1) | exact HX.out))); (case side4 => have z_ := Kd.S_reads' HO23.out; have y_ := z_.1; have x_ := z_.2.1; omega); rintro e w92 ⟨rfl, hb⟩; have hx_ := lw3_hx hb (by repeat (first | (with_reducible first | exact HX.out | apply below_alloc | apply pw_below_drewN | apply below_drew1) | exact HX.out)); have hbt := below_step hx_ hb; replace BK3 := Aside0.mk (blk_below (g := gb1) BK3.out hbt); replace HO14 := Aside0.mk (Kd.S_below HO14.out hbt); replace HO23 := Aside0.mk (Kd.S_below HO23.out hbt); replace BK27 := Aside0.mk (blk_below (g := gb25) BK27.out hbt); replace HO38 := Aside0.mk (Kd.S_below HO38.out hbt); replace BK42 := Aside0.mk (blk_below (g := gb40) BK42.out hbt); replace HO56 := Aside0.mk (Kd.S_below HO56.out hbt); replace BK60 := Aside0.mk (blk_below (g := gb58) BK60.out hbt); replace HO78 := Aside0.mk (Kd.S_below HO78.out hbt); replace HN := Aside0.mk (Nat.le_trans (Nat.le_trans HN.out (below_size hx_)) hb.size); replace HB := Aside0.mk (below_step HB.out hbt); replace HX := Aside0.mk (Below.refl w92.heap.size w92); clear hb hbt hx_; have hcz12_0_BK60 : w92.cell? ⟨gb58, 0, none⟩ = some (.slice Aoo57 t49.length coo57) := (blk_cell BK60.out 0).trans rfl; have hcz12_1_BK60 : w92.cell? ⟨gb58, 1, none⟩ = some (.int .i64 t50) := (blk_cell BK60.out 1).trans rfl) | ((with_reducible refine gate_callee (f := 16) rfl ?_); refine goesL_ (some 83) rfl rfl Try.func16 (by kernel_rfl) rfl #[.agg #[.slice Aoo57 t49.length coo57, .int .i64 t50], .int .i64 1] rfl (by (try simp only [List.map_toArray, List.map_cons, List.map_nil]); first | done | rfl) ?_; (with_reducible refine (laws_markStore.calls k (fun k_ => lo55 ≤ k_ ∧ k_ < hi55) _ t49 t50 1 t94 t95 w _ ?sB ?s0 A96.out).mono ?_); (case sB => exact below_step HB.out (by repeat (first | (with_reducible first | exact HX.out | apply below_alloc | apply pw_below_drewN | apply below_drew1) | exact HX.out))); (case s0 => exact Kd.S_below HO56.out (by repeat (first | (with_reducible first | exact HX.out | apply below_alloc | apply pw_below_drewN | apply below_drew1) | exact HX.out))); rintro e w97 ⟨rfl, hy0, hb0, hkp⟩; refine ⟨_, rfl, ?_⟩; have hkt := Kept.then_ (Kept.of_below (by repeat (first | (with_reducible first | exact HX.out | apply below_alloc | apply pw_below_drewN | apply below_drew1) | exact HX.out)) (fun k_ => (lo55 ≤ k_ ∧ k_ < hi55))) hkp (fun k_ h_ => .inl h_); have zz_ := And.intro CHlo4.out (And.intro CHlo13.out (And.intro CHlo22.out (And.intro CHgb25.out (And.intro CHlo37.out (And.intro CHgb40.out (And.intro CHlo55.out (And.intro CHgb58.out (And.intro CHlo77.out (CHlo88.out))))))))); obtain ⟨lo98, hi98, hl_, hh_, hc_⟩ := lw3_ivk hkp (Nat.le_trans HN.out (below_size (by repeat (first | (with_reducible first | exact HX.out | apply below_alloc | apply pw_below_drewN | apply below_drew1) | exact HX.out)))); have CHlo98 := Aside0.mk (show hi88 ≤ lo98 ∧ lo98 ≤ hi98 from hc_); clear hc_; replace BK3 := Aside0.mk (blk_kept (g := gb1) BK3.out hkt (fun h2_ => lw3_no IVgb1.out h2_ (by omega))); replace HO14 := Aside0.mk (Kd.S_kept HO14.out hkt (fun _ h1_ h2_ => lw3_no h1_ h2_ (by omega))); replace HO23 := Aside0.mk (Kd.S_kept HO23.out hkt (fun _ h1_ h2_ => lw3_no h1_ h2_ (by omega))); replace BK27 := Aside0.mk (blk_kept (g := gb25) BK27.out hkt (fun h2_ => lw3_no IVgb25.out h2_ (by omega))); replace HO38 := Aside0.mk (Kd.S_kept HO38.out hkt (fun _ h1_ h2_ => lw3_on h1_ h2_ (by omega))); replace BK42 := Aside0.mk (blk_kept (g := gb40) BK42.out hkt (fun h2_ => lw3_no IVgb40.out h2_ (by omega))); replace BK60 := Aside0.mk (blk_kept (g := gb58) BK60.out hkt (fun h2_ => lw3_no IVgb58.out h2_ (by omega))); replace HO78 := Aside0.mk (Kd.S_kept HO78.out hkt (fun _ h1_ h2_ => lw3_no h1_ h2_ (by omega))); replace HO56 := Aside0.mk ((show Kd.S (Kd.slice 43 k43) 41 w97 w.heap.size (fun k_ => (lo55 ≤ k_ ∧ k_ < hi55) ∨ (lo98 ≤ k_ ∧ k_ < hi98)) (.slice Aoo57 t49.length coo57) t95 from Kd.S_mono (Kd.S_bound hy0) (fun _ hk_ => hk_.1.elim (fun z_ => .inl z_) (fun z_ => .inr ⟨by rw [hl_]; exact z_, by rw [hh_]; exact hk_.2.2.1⟩)))); replace HN := Aside0.mk ((show hi98 ≤ w97.heap.size from Nat.le_of_eq hh_)); replace HB := Aside0.mk (hb0); replace HX := Aside0.mk (Below.refl w97.heap.size w97); clear hkp hb0 hkt zz_ hl_ hh_; (try clear hy0); have LEN99 := Aside0.mk (Kd.S_reads' HO56.out).1; have hcz13_0_BK60 : w97.cell? ⟨gb58, 0, none⟩ = some (.slice Aoo57 t49.length coo57) := (blk_cell BK60.out 0).trans rfl; have hcz13_1_BK60 : w97.cell? ⟨gb58, 1, none⟩ = some (.int .i64 t50) := (blk_cell BK60.out 1).trans rfl) | ((with_reducible refine gate_callee (f := 17) rfl ?_); refine goesL_ (some 86) rfl rfl Try.func17 (by kernel_rfl) rfl #[.agg #[.slice Aoo57 t95.length coo57, .int .i64 t50], .int .i64 1] rfl (by (try simp only [List.map_toArray, List.map_cons, List.map_nil]); first | done | rfl | (simp only [LEN99.out]; rfl)) ?_; (with_reducible refine (laws_heldStore.calls k _ _ t95 t50 1 t100 _ ?side1 ?side2 A101.out).mono ?_); (case side1 => exact Kd.C_below (Kd.S_reads' HO56.out).2.2 (by repeat (first | (with_reducible first | exact HX.out | apply below_alloc | apply pw_below_drewN | apply below_drew1) | exact HX.out))); (case side2 => have z_ := Kd.S_reads' HO56.out; have y_ := z_.1; have x_ := z_.2.1; omega); rintro e w102 ⟨rfl, hb⟩; refine ⟨_, rfl, ?_⟩; have hx_ := lw3_hx hb (by repeat (first | (with_reducible first | exact HX.out | apply below_alloc | apply pw_below_drewN | apply below_drew1) | exact HX.out)); have hbt := below_step hx_ hb; replace BK3 := Aside0.mk (blk_below (g := gb1) BK3.out hbt); replace HO14 := Aside0.mk (Kd.S_below HO14.out hbt); replace HO23 := Aside0.mk (Kd.S_below HO23.out hbt); replace BK27 := Aside0.mk (blk_below (g := gb25) BK27.out hbt); replace HO38 := Aside0.mk (Kd.S_below HO38.out hbt); replace BK42 := Aside0.mk (blk_below (g := gb40) BK42.out hbt); replace HO56 := Aside0.mk (Kd.S_below HO56.out hbt); replace BK60 := Aside0.mk (blk_below (g := gb58) BK60.out hbt); replace HO78 := Aside0.mk (Kd.S_below HO78.out hbt); replace HN := Aside0.mk (Nat.le_trans (Nat.le_trans HN.out (below_size hx_)) hb.size); replace HB := Aside0.mk (below_step HB.out hbt); replace HX := Aside0.mk (Below.refl w102.heap.size w102); clear hb hbt hx_; have hcz14_0_BK3 : w102.cell? ⟨gb1, 0, none⟩ = some (.slice A0_0 l0_0.length c0_0) := (blk_cell BK3.out 0).trans rfl; have hcz14_1_BK3 : w102.cell? ⟨gb1, 1, none⟩ = some (.int .i64 a0_1) := (blk_cell BK3.out 1).trans rfl) | ((with_reducible refine gate_callee (f := 13) rfl ?_); refine goesL_ (some 94) rfl rfl Try.func13 (by kernel_rfl) rfl #[.agg #[.slice A0_0 l0_0.length c0_0, .int .i64 a0_1]] rfl (by (try simp only [List.map_toArray, List.map_cons, List.map_nil]); first | done | rfl) ?_; (with_reducible refine (laws_toStore.calls k _ _ l0_0 a0_1 t104 t105 _ ?side1 ?side2 A106.out).mono ?_); (case side1 => exact Kd.C_below HR0_0.out (below_step HB.out (by repeat (first | (with_reducible first | exact HX.out | apply below_alloc | apply pw_below_drewN | apply below_drew1) | exact HX.out)))); (case side2 => exact HC0_0.out); rintro e w107 ⟨vt104, rfl, ho0, hb⟩; refine ⟨_, rfl, ?_⟩; have hx_ := lw3_hx hb (by repeat (first | (with_reducible first | exact HX.out | apply below_alloc | apply pw_below_drewN | apply below_drew1) | exact HX.out)); have hbt := below_step hx_ hb; obtain ⟨lo108, hi108, hl_, hh_, hc_⟩ := lw3_iv (Nat.le_trans HN.out (below_size hx_)) hb.size; have CHlo108 := Aside0.mk (show hi98 ≤ lo108 ∧ lo108 ≤ hi108 from hc_); clear hc_; replace BK3 := Aside0.mk (blk_below (g := gb1) BK3.out hbt); replace HO14 := Aside0.mk (Kd.S_below HO14.out hbt); replace HO23 := Aside0.mk (Kd.S_below HO23.out hbt); replace BK27 := Aside0.mk (blk_below (g := gb25) BK27.out hbt); replace HO38 := Aside0.mk (Kd.S_below HO38.out hbt); replace BK42 := Aside0.mk (blk_below (g := gb40) BK42.out hbt); replace HO56 := Aside0.mk (Kd.S_below HO56.out hbt); replace BK60 := Aside0.mk (blk_below (g := gb58) BK60.out hbt); replace HO78 := Aside0.mk (Kd.S_below HO78.out hbt); have HO109 := Aside0.mk (Kd.S_mono (ok' := fun k_ => lo108 ≤ k_ ∧ k_ < hi108) (Kd.S_lower (Kd.S_bound ho0) (below_size (below_step HB.out hx_))) (fun k_ hk_ => ⟨by rw [hl_]; exact hk_.2.1, by rw [hh_]; exact hk_.2.2.1⟩)); replace HN := Aside0.mk ((show hi108 ≤ w107.heap.size from Nat.le_of_eq hh_)); replace HB := Aside0.mk (below_step HB.out hbt); replace HX := Aside0.mk (Below.refl w107.heap.size w107); clear hb hbt hx_ hl_ hh_; (try clear ho0); obtain ⟨Aoo110, coo110, eoo110⟩ := Kd.S_slice HO109.out; (first | subst eoo110 | (injection eoo110 with f1_ f2_ f3_; have f4_ := f1_.symm; have f5_ := f3_.symm; clear f1_ f2_ f3_; subst f4_; subst f5_)); skip) | ((with_reducible refine gate_callee (f := 14) rfl ?_); refine goesL_ (some 96) rfl rfl Try.func14 (by kernel_rfl) rfl #[.agg #[.slice Aoo110 t104.length coo110, .int .i64 t105], .int .i64 a1] rfl (by (try simp only [List.map_toArray, List.map_cons, List.map_nil]); first | done | rfl) ?_; (with_reducible refine (impl_Forget.calls k _ _ t104 t105 a1 t111 t112 t113 t114 _ ?side1 ?side2 A115.out).mono ?_); (case side1 => exact Kd.C_below (Kd.S_reads' HO109.out).2.2 (by repeat (first | (with_reducible first | exact HX.out | apply below_alloc | apply pw_below_drewN | apply below_drew1) | exact HX.out))); (case side2 => have z_ := Kd.S_reads' HO109.out; have y_ := z_.1; have x_ := z_.2.1; omega); rintro e w116 ⟨vt111, rfl, ho0, hb⟩; refine ⟨_, rfl, ?_⟩; have hx_ := lw3_hx hb (by repeat (first | (with_reducible first | exact HX.out | apply below_alloc | apply pw_below_drewN | apply below_drew1) | exact HX.out)); have hbt := below_step hx_ hb; obtain ⟨lo117, hi117, hl_, hh_, hc_⟩ := lw3_iv (Nat.le_trans HN.out (below_size hx_)) hb.size; have CHlo117 := Aside0.mk (show hi108 ≤ lo117 ∧ lo117 ≤ hi117 from hc_); clear hc_; replace BK3 := Aside0.mk (blk_below (g := gb1) BK3.out hbt); replace HO14 := Aside0.mk (Kd.S_below HO14.out hbt); replace HO23 := Aside0.mk (Kd.S_below HO23.out hbt); replace BK27 := Aside0.mk (blk_below (g := gb25) BK27.out hbt); replace HO38 := Aside0.mk (Kd.S_below HO38.out hbt); replace BK42 := Aside0.mk (blk_below (g := gb40) BK42.out hbt); replace HO56 := Aside0.mk (Kd.S_below HO56.out hbt); replace BK60 := Aside0.mk (blk_below (g := gb58) BK60.out hbt); replace HO78 := Aside0.mk (Kd.S_below HO78.out hbt); replace HO109 := Aside0.mk (Kd.S_below HO109.out hbt); have HO118 := Aside0.mk (Kd.S_mono (ok' := fun k_ => lo117 ≤ k_ ∧ k_ < hi117) (Kd.S_lower (Kd.S_bound ho0) (below_size (below_step HB.out hx_))) (fun k_ hk_ => ⟨by rw [hl_]; exact hk_.2.1, by rw [hh_]; exact hk_.2.2.1⟩)); replace HN := Aside0.mk ((show hi117 ≤ w116.heap.size from Nat.le_of_eq hh_)); replace HB := Aside0.mk (below_step HB.out hbt); replace HX := Aside0.mk (Below.refl w116.heap.size w116); clear hb hbt hx_ hl_ hh_; (try clear ho0); obtain ⟨Aoo119, coo119, eoo119⟩ := Kd.S_slice HO118.out; (first | subst eoo119 | (injection eoo119 with f1_ f2_ f3_; have f4_ := f1_.symm; have f5_ := f3_.symm; clear f1_ f2_ f3_; subst f4_; subst f5_)); skip) | ((with_reducible refine gate_dst (N := 16) rfl ?_); refine box_event ?hg (N := 16) ?hd (cs := #[.slice none 0 0, .int .i64 0]) (t := 28) ?hr ?_; (case hd => rfl); (case hg => rfl); (case hr => first | (go_simp; done) | (go_simp; rfl)); intro gb120 hg w121 hbox hb; have GEgb120 := Aside0.mk (by rw [hg]; exact (below_size (by repeat (first | (with_reducible first | exact HX.out | apply below_alloc | apply pw_below_drewN | apply below_drew1) | exact HX.out))) : _ ≤ gb120); have BK122r := Aside0.mk hbox; have n0_ := Aside0.mk (below_step (by repeat (first | (with_reducible first | exact HX.out | apply below_alloc | apply pw_below_drewN | apply below_drew1) | exact HX.out)) hb); have hnb123 : gb120 ≠ gb1 := (fun e_ => by have z1_ := GEgb120.out; have z2_ := blk_lt BK3.out; omega); have hnb123c : gb1 ≠ gb120 := fun e_ => hnb123 e_.symm; have hnb124 : gb120 ≠ gb25 := (fun e_ => by have z1_ := GEgb120.out; have z2_ := blk_lt BK27.out; omega); have hnb124c : gb25 ≠ gb120 := fun e_ => hnb124 e_.symm; have hnb125 : gb120 ≠ gb40 := (fun e_ => by have z1_ := GEgb120.out; have z2_ := blk_lt BK42.out; omega); have hnb125c : gb40 ≠ gb120 := fun e_ => hnb125 e_.symm; have hnb126 : gb120 ≠ gb58 := (fun e_ => by have z1_ := GEgb120.out; have z2_ := blk_lt BK60.out; omega); have hnb126c : gb58 ≠ gb120 := fun e_ => hnb126 e_.symm; clear HX; have HX := n0_; clear n0_ hb hg; have hcz127 : w121.cell? ⟨gb120, 0, none⟩ = some (.slice none 0 0) := (blk_cell BK122r.out 0).trans rfl; have hfz128 := blk_frozen BK122r.out 0; have hcz129 : w121.cell? ⟨gb120, 1, none⟩ = some (.int .i64 0) := (blk_cell BK122r.out 1).trans rfl; have hfz130 := blk_frozen BK122r.out 1; have hcz17_0_BK27 : w121.cell? ⟨gb25, 0, none⟩ = some (.slice Aoo24 t16.length coo24) := (blk_cell (blk_below (g := gb25) BK27.out HX.out) 0).trans rfl; have hcz17_1_BK27 : w121.cell? ⟨gb25, 1, none⟩ = some (.int .i64 t17) := (blk_cell (blk_below (g := gb25) BK27.out HX.out) 1).trans rfl; clear hbox) | ((with_reducible refine gate_callee (f := 15) rfl ?_); refine goesL_ (some 102) rfl rfl Try.func15 (by kernel_rfl) rfl #[.agg #[.slice Aoo119 t111.length coo119, .int .i64 t112], .agg #[.slice Aoo24 t16.length coo24, .int .i64 t17]] rfl (by (try simp only [List.map_toArray, List.map_cons, List.map_nil]); first | done | rfl) ?_; (with_reducible refine (laws_eqStore.calls k _ _ t111 t112 _ _ t16 t17 true _ ?side1 ?side2 ?side3 ?side4 A132.out).mono ?_); (case side1 => exact Kd.C_below (Kd.S_reads' HO118.out).2.2 (by repeat (first | (with_reducible first | exact HX.out | apply below_alloc | apply pw_below_drewN | apply below_drew1 | refine below_set ?_ GEgb120.out) | exact HX.out))); (case side2 => have z_ := Kd.S_reads' HO118.out; have y_ := z_.1; have x_ := z_.2.1; omega); (case side3 => exact Kd.C_below (Kd.S_reads' HO23.out).2.2 (by repeat (first | (with_reducible first | exact HX.out | apply below_alloc | apply pw_below_drewN | apply below_drew1 | refine below_set ?_ GEgb120.out) | exact HX.out))); (case side4 => have z_ := Kd.S_reads' HO23.out; have y_ := z_.1; have x_ := z_.2.1; omega); rintro e w133 ⟨rfl, hb⟩; refine ⟨_, rfl, ?_⟩; have hx_ := lw3_hx hb (by repeat (first | (with_reducible first | exact HX.out | apply below_alloc | apply pw_below_drewN | apply below_drew1 | refine below_set ?_ GEgb120.out) | exact HX.out)); have hp_ := lw3_lt (g := gb120) (o := .cells #[.slice Aoo119 t111.length coo119, .int .i64 t112] 28 (0, 0)) hb (by (with_reducible repeat (first | refine blk_drewN ?_ _ | refine blk_drew ?_ | refine blk_alloc ?_ _)); refine blk_put (cs := #[.slice Aoo119 t111.length coo119, .int .i64 0]) ?_ 1 _ rfl; (with_reducible repeat (first | refine blk_drewN ?_ _ | refine blk_drew ?_ | refine blk_alloc ?_ _)); refine blk_put (cs := #[.slice none 0 0, .int .i64 0]) ?_ 0 _ rfl; (with_reducible repeat (first | refine blk_drewN ?_ _ | refine blk_drew ?_ | refine blk_alloc ?_ _)); exact BK122r.out); have CHgb120 := Aside0.mk (show hi117 ≤ gb120 from Nat.le_trans HN.out GEgb120.out); have hbt := below_step hx_ hb; have BK122 := Aside0.mk (hp_.2); replace BK3 := Aside0.mk (blk_below (g := gb1) BK3.out hbt); replace HO14 := Aside0.mk (Kd.S_below HO14.out hbt); replace HO23 := Aside0.mk (Kd.S_below HO23.out hbt); replace BK27 := Aside0.mk (blk_below (g := gb25) BK27.out hbt); replace HO38 := Aside0.mk (Kd.S_below HO38.out hbt); replace BK42 := Aside0.mk (blk_below (g := gb40) BK42.out hbt); replace HO56 := Aside0.mk (Kd.S_below HO56.out hbt); replace BK60 := Aside0.mk (blk_below (g := gb58) BK60.out hbt); replace HO78 := Aside0.mk (Kd.S_below HO78.out hbt); replace HO109 := Aside0.mk (Kd.S_below HO109.out hbt); replace HO118 := Aside0.mk (Kd.S_below HO118.out hbt); replace HN := Aside0.mk (Nat.le_trans (hp_.1) hb.size); replace HB := Aside0.mk (below_step HB.out hbt); replace HX := Aside0.mk (Below.refl w133.heap.size w133); have IVgb120 := Aside0.mk (show gb120 ≤ gb120 ∧ gb120 < gb120 + 1 from ⟨Nat.le_refl _, Nat.lt_succ_self _⟩); clear hb hbt hx_ hp_; have hcz18_0_BK60 : w133.cell? ⟨gb58, 0, none⟩ = some (.slice Aoo57 t49.length coo57) := (blk_cell BK60.out 0).trans rfl; have hcz18_1_BK60 : w133.cell? ⟨gb58, 1, none⟩ = some (.int .i64 t50) := (blk_cell BK60.out 1).trans rfl) | ((with_reducible refine gate_callee (f := 17) rfl ?_); refine goesL_ (some 116) rfl rfl Try.func17 (by kernel_rfl) rfl #[.agg #[.slice Aoo57 t95.length coo57, .int .i64 t50], .int .i64 1] rfl (by (try simp only [List.map_toArray, List.map_cons, List.map_nil]); first | done | rfl | (simp only [LEN99.out]; rfl)) ?_; (with_reducible refine (laws_heldStore.calls k _ _ t95 t50 1 t135 _ ?side1 ?side2 A136.out).mono ?_); (case side1 => exact Kd.C_below (Kd.S_reads' HO56.out).2.2 (by repeat (first | (with_reducible first | exact HX.out | apply below_alloc | apply pw_below_drewN | apply below_drew1) | exact HX.out))); (case side2 => have z_ := Kd.S_reads' HO56.out; have y_ := z_.1; have x_ := z_.2.1; omega); rintro e w137 ⟨rfl, hb⟩; refine ⟨_, rfl, ?_⟩; have hx_ := lw3_hx hb (by repeat (first | (with_reducible first | exact HX.out | apply below_alloc | apply pw_below_drewN | apply below_drew1) | exact HX.out)); have hbt := below_step hx_ hb; replace BK3 := Aside0.mk (blk_below (g := gb1) BK3.out hbt); replace HO14 := Aside0.mk (Kd.S_below HO14.out hbt); replace HO23 := Aside0.mk (Kd.S_below HO23.out hbt); replace BK27 := Aside0.mk (blk_below (g := gb25) BK27.out hbt); replace HO38 := Aside0.mk (Kd.S_below HO38.out hbt); replace BK42 := Aside0.mk (blk_below (g := gb40) BK42.out hbt); replace HO56 := Aside0.mk (Kd.S_below HO56.out hbt); replace BK60 := Aside0.mk (blk_below (g := gb58) BK60.out hbt); replace HO78 := Aside0.mk (Kd.S_below HO78.out hbt); replace HO109 := Aside0.mk (Kd.S_below HO109.out hbt); replace HO118 := Aside0.mk (Kd.S_below HO118.out hbt); replace BK122 := Aside0.mk (blk_below (g := gb120) BK122.out hbt); replace HN := Aside0.mk (Nat.le_trans (Nat.le_trans HN.out (below_size hx_)) hb.size); replace HB := Aside0.mk (below_step HB.out hbt); replace HX := Aside0.mk (Below.refl w137.heap.size w137); clear hb hbt hx_; skip))
  go_ret
  exact ⟨by first | rfl | (simp [*]; done), below_step HB.out (by repeat (first | (with_reducible first | exact HX.out | apply below_alloc | apply pw_below_drewN | apply below_drew1) | exact HX.out))⟩

end Go.Proofs.Ytfiboooflebdpaa.Q
namespace Go.Proofs.Ytfiboooflebdpaa.Q
open Go.RowKit Go.Proofs.YtfiboooflebdpaaW.PrintWords Go.Proofs.Ytfiboooflebdpaa.Opens
set_option linter.unusedVariables false
def i141 (x : S141) : Prop := (Lit.int .i64 x.f0).wf = true ∧ (Lit.int .i64 x.f1).wf = true
theorem o141 : Opens Try.prog 141 k141 i141 := opens_struct (N := 2) Try.underlying141 (by kernel_rfl) (opensF_cons rfl (by kernel_rfl) (opens_int Try.underlying3) (opensF_one rfl rfl (by kernel_rfl) (opens_int Try.underlying3))) (fun y => ⟨y.1, y.2⟩) (fun _ => rfl)
def i24 (x : S24) : Prop := (x.f0.length ≤ 9223372036854775807 ∧ ∀ y1_ ∈ x.f0, (y1_.length ≤ 9223372036854775807 ∧ ∀ y2_ ∈ y1_, i141 y2_)) ∧ (Lit.int .i64 x.f1).wf = true
theorem o24 : Opens Try.prog 24 k24 i24 := opens_struct (N := 2) Try.underlying24 (by kernel_rfl) (opensF_cons rfl (by kernel_rfl) (opens_slice Try.underlying22 (by kernel_rfl) (opens_slice Try.underlying122 (by kernel_rfl) o141)) (opensF_one rfl rfl (by kernel_rfl) (opens_int Try.underlying3))) (fun y => ⟨y.1, y.2⟩) (fun _ => rfl)
def i76 (x : S76) : Prop := (Lit.int .i64 x.f0).wf = true ∧ (Lit.int .i64 x.f1).wf = true
theorem o76 : Opens Try.prog 76 k76 i76 := opens_struct (N := 2) Try.underlying76 (by kernel_rfl) (opensF_cons rfl (by kernel_rfl) (opens_int Try.underlying3) (opensF_one rfl rfl (by kernel_rfl) (opens_int Try.underlying3))) (fun y => ⟨y.1, y.2⟩) (fun _ => rfl)
def i75 (x : S75) : Prop := (Lit.int .i64 x.f0).wf = true ∧ (x.f1.length ≤ 9223372036854775807 ∧ ∀ y1_ ∈ x.f1, (Lit.int .i64 y1_).wf = true) ∧ (x.f2.length ≤ 9223372036854775807 ∧ ∀ y1_ ∈ x.f2, i76 y1_)
theorem o75 : Opens Try.prog 75 k75 i75 := opens_struct (N := 3) Try.underlying75 (by kernel_rfl) (opensF_cons rfl (by kernel_rfl) (opens_int Try.underlying3) (opensF_cons rfl (by kernel_rfl) (opens_slice Try.underlying60 (by kernel_rfl) (opens_int Try.underlying3)) (opensF_one rfl rfl (by kernel_rfl) (opens_slice Try.underlying48 (by kernel_rfl) o76)))) (fun y => ⟨y.1, y.2.1, y.2.2⟩) (fun _ => rfl)
end Go.Proofs.Ytfiboooflebdpaa.Q
namespace Go.Proofs.Ytfiboooflebdpaa.Q
open Go.RowKit Go.Proofs.YtfiboooflebdpaaW.PrintWords Go.Proofs.Ytfiboooflebdpaa.Opens
set_option linter.unusedVariables false
def laws_FnExactForget.Pure2 : Prop := ∀ (y0 : S24), ∀ (y1 : Int), i24 y0 → (Lit.int .i64 y1).wf = true → ∃ k, laws_FnExactForget.f k y0.f0 y0.f1 y1 = some true
end Go.Proofs.Ytfiboooflebdpaa.Q
namespace Go.Proofs.Ytfiboooflebdpaa.Pure2
open Go.RowKit Go.Proofs.Ytfiboooflebdpaa.Q Go.Proofs.YtfiboooflebdpaaW.PrintWords Go.Proofs.YtfiboooflebdpaaW.PrintLast
set_option linter.unusedVariables false
set_option linter.unusedSimpArgs false
/-! small words -/
theorem wsucc {j n : Nat} (h : j < n) (hn : n ≤ 4611686018427387904) : wrap64 ((j : Int) + 1) = ((j + 1 : Nat) : Int) := by unfold wrap64; omega
theorem ev_step {α : Type} {g f : Nat → Option α} {r : α} (h : ∃ K, ∀ k, K ≤ k → g (k + 1) = f k) (k : Ev f r) : Ev g r := by
  obtain ⟨K, h⟩ := h
  obtain ⟨K', k⟩ := k
  refine ⟨max K K' + 1, fun n hn => ?_⟩
  obtain ⟨m, rfl⟩ : ∃ m, n = m + 1 := ⟨n - 1, by omega⟩
  rw [h m (by omega), k m (by omega)]
theorem ev_now {α : Type} {g : Nat → Option α} {r : α} (h : ∃ K, ∀ k, K ≤ k → g (k + 1) = some r) : Ev g r := ev_step (f := fun _ => some r) h (Ev.now r)
theorem ev_same {α : Type} {g f : Nat → Option α} {r : α} (h : ∃ K, ∀ k, K ≤ k → g k = f k) (k : Ev f r) : Ev g r := by
  obtain ⟨K, h⟩ := h
  obtain ⟨K', k⟩ := k
  exact ⟨max K K', fun n hn => by rw [h n (by omega), k n (by omega)]⟩
theorem ev_two {α β : Type} {g : Nat → Option α} {f : Nat → Option β} {r : α} {q : β} (h : Ev g r) (k : Ev f q) : ∃ K, ∀ n, K ≤ n → g n = some r ∧ f n = some q := by
  obtain ⟨K, h⟩ := h
  obtain ⟨K', k⟩ := k
  exact ⟨max K K', fun n hn => ⟨h n (by omega), k n (by omega)⟩⟩
theorem ev_mk {α : Type} {g : Nat → Option α} {r : α} (K : Nat) (h : ∀ k, K ≤ k → g k = some r) : Ev g r := ⟨K, h⟩
theorem ev_at {α : Type} {g : Nat → Option α} {r : α} (h : Ev g r) : ∃ K, ∀ k, K ≤ k → g k = some r := h
/-- A loop that counts up to n: from the end back. -/
theorem count_loop {ρ : Type} (n : Nat) (L : Nat → Int → Option ρ) (Post : Nat → ρ → Prop) (hend : ∃ r, Post n r ∧ Ev (fun k => L k (n : Int)) r)
    (hstep : ∀ j, j < n → ∀ r, Post (j + 1) r → Ev (fun k => L k ((j + 1 : Nat) : Int)) r → ∃ r', Post j r' ∧ Ev (fun k => L k (j : Int)) r') :
    ∀ j, j ≤ n → ∃ r, Post j r ∧ Ev (fun k => L k (j : Int)) r := by
  have key : ∀ d j, j ≤ n → n - j = d → ∃ r, Post j r ∧ Ev (fun k => L k (j : Int)) r := by
    intro d
    induction d with
    | zero => intro j hj hd; obtain rfl : j = n := by omega
              exact hend
    | succ d ih =>
      intro j hj hd
      obtain ⟨r, hp, he⟩ := ih (j + 1) (by omega) (by omega)
      exact hstep j (by omega) r hp he
  intro j hj
  exact key _ j hj rfl
/-- A loop that carries a state up to n. -/
theorem state_loop {σ ρ : Type} (n : Nat) (L : Nat → σ → Int → Option ρ) (Inv : Nat → σ → Prop) (Post : Nat → σ → ρ → Prop) (hend : ∀ s, Inv n s → ∃ r, Post n s r ∧ Ev (fun k => L k s (n : Int)) r)
    (hstep : ∀ j s, j < n → Inv j s → (∃ r, Post j s r ∧ Ev (fun k => L k s (j : Int)) r) ∨ ∃ s', Inv (j + 1) s' ∧ (∀ r, Post (j + 1) s' r → Post j s r) ∧ ∃ K, ∀ k, K ≤ k → L (k + 1) s (j : Int) = L k s' ((j + 1 : Nat) : Int)) :
    ∀ j s, j ≤ n → Inv j s → ∃ r, Post j s r ∧ Ev (fun k => L k s (j : Int)) r := by
  have key : ∀ d j s, j ≤ n → n - j = d → Inv j s → ∃ r, Post j s r ∧ Ev (fun k => L k s (j : Int)) r := by
    intro d
    induction d with
    | zero => intro j s hj hd hi; obtain rfl : j = n := by omega
              exact hend s hi
    | succ d ih =>
      intro j s hj hd hi
      rcases hstep j s (by omega) hi with h | ⟨s', hi', hp, hk⟩
      · exact h
      · obtain ⟨r, hr, he⟩ := ih (j + 1) s' (by omega) (by omega) hi'
        exact ⟨r, hp r hr, ev_step hk he⟩
  intro j s hj hi
  exact key _ j s hj rfl hi
/-- A loop that fills a row of its own. -/
theorem fill_loop {α β : Type} (xs : List α) (z : α) (g : α → β) (L : Nat → List β → Int → Option (List β)) (hend : ∀ y : List β, y.length = xs.length → ∃ K, ∀ k, K ≤ k → L (k + 1) y (xs.length : Int) = some y)
    (hstep : ∀ (j : Nat) (y : List β), j < xs.length → y.length = xs.length → ∃ K, ∀ k, K ≤ k → L (k + 1) y (j : Int) = L k (y.set j (g (xs.getD j z))) ((j + 1 : Nat) : Int)) (y : List β) (hy : y.length = xs.length) :
    Ev (fun k => L k y 0) (xs.map g) := by
  obtain ⟨r, hr, he⟩ := state_loop xs.length L (fun j y => y.length = xs.length ∧ ∀ i, i < j → y[i]? = (xs.map g)[i]?) (fun _ _ r => r = xs.map g) (fun y hi => ⟨y, List.ext_getElem? fun i => by
      by_cases hi' : i < xs.length
      · exact hi.2 i hi'
      · rw [List.getElem?_eq_none (by omega), List.getElem?_eq_none (by simp; omega)], ev_now (hend y hi.1)⟩) (fun j y hj hi => .inr ⟨_, ⟨by simp [hi.1], fun i hij => by
      by_cases he : i = j
      · subst he
        rw [List.getElem?_set_self (by omega)]
        simp [List.getD_eq_getElem?_getD, List.getElem?_eq_getElem hj]
      · rw [List.getElem?_set_ne (by omega)]
        exact hi.2 i (by omega)⟩, fun r h => h, hstep j y hj hi.1⟩) 0 y (by omega) ⟨hy, fun i hi => by omega⟩
  subst hr
  exact he
/-- The measure of a store that came in. -/
theorem sz_row (l : List S141) (a : Int) (h0 : 0 ≤ a) (h1 : a ≤ 1048576) (hl : l.length ≤ 9223372036854775807) : ∃ r, laws_szVersionS.f l a = some r ∧ (r < 0 ∨ 0 ≤ r ∧ r ≤ a ∧ l.length ≤ 1048576) := by
  have hw : wrap64 (a - (l.length : Int)) = a - (l.length : Int) := by unfold wrap64; omega
  unfold laws_szVersionS.f
  rw [hw]
  by_cases h : a - (l.length : Int) < 0
  · rw [if_pos h]; exact ⟨_, rfl, .inl (by omega)⟩
  · rw [if_neg h]; exact ⟨_, rfl, .inr ⟨by omega, by omega, by omega⟩⟩
theorem sz_rows (l : List (List S141)) (a : Int) (h0 : 0 ≤ a) (h1 : a ≤ 1048576) (hl : l.length ≤ 9223372036854775807) (hx : ∀ x ∈ l, x.length ≤ 9223372036854775807) :
    ∃ r, Ev (fun k => laws_szVersionSS.f k l a) r ∧ (r < 0 ∨ 0 ≤ r ∧ r ≤ a ∧ l.length ≤ 1048576 ∧ ∀ x ∈ l, x.length ≤ 1048576) := by
  have hw : wrap64 (a - (l.length : Int)) = a - (l.length : Int) := by unfold wrap64; omega
  by_cases h : a - (l.length : Int) < 0
  · exact ⟨-1, ev_mk 0 (fun k _ => by unfold laws_szVersionSS.f; rw [hw, if_pos h]), .inl (by omega)⟩
  · obtain ⟨r, hr, he⟩ := state_loop l.length (fun k s i => laws_szVersionSS.l0 k l s i) (fun j s => 0 ≤ s ∧ s ≤ a ∧ ∀ i, i < j → (l.getD i []).length ≤ 1048576) (fun _ _ r => r < 0 ∨ 0 ≤ r ∧ r ≤ a ∧ ∀ i, i < l.length → (l.getD i []).length ≤ 1048576)
      (fun s hi => ⟨s, .inr hi, ev_now ⟨0, fun k _ => by simp only [laws_szVersionSS.l0]; rw [if_neg (by omega)]⟩⟩)
      (fun j s hj hi => by
        have hm : (l.getD j []) ∈ l := by rw [List.getD_eq_getElem?_getD, List.getElem?_eq_getElem hj]; exact List.getElem_mem hj
        obtain ⟨t, e, ht⟩ := sz_row (l.getD j []) s hi.1 (by omega) (hx _ hm)
        have e' : laws_szVersionS.f (rd_L2 l (j : Int)) s = some t := e
        rcases ht with ht | ⟨t0, t1, t2⟩
        · exact .inl ⟨-1, .inl (by omega), ev_now ⟨0, fun k _ => by simp only [laws_szVersionSS.l0]; rw [if_pos (by omega), if_pos (by omega), e']; simp only [Option.bind_some]; rw [if_pos ht]⟩⟩
        · refine .inr ⟨t, ⟨t0, by omega, fun i hij => ?_⟩, fun r h => h, 0, fun k _ => by simp only [laws_szVersionSS.l0]; rw [if_pos (by omega), if_pos (by omega), e']; simp only [Option.bind_some]; rw [if_neg (by omega), wsucc hj (by omega)]⟩
          rcases Nat.lt_or_eq_of_le (Nat.le_of_lt_succ hij) with h' | rfl
          · exact hi.2.2 i h'
          · exact t2) 0 (a - l.length) (by omega) ⟨by omega, by omega, fun i hi => by omega⟩
    refine ⟨r, ev_same ⟨0, fun k _ => by unfold laws_szVersionSS.f; rw [hw, if_neg h]; rfl⟩ he, ?_⟩
    rcases hr with hr | ⟨h2, h3, h4⟩
    · exact .inl hr
    · refine .inr ⟨h2, h3, by omega, fun x hx' => ?_⟩
      obtain ⟨i, hi, rfl⟩ := List.getElem_of_mem hx'
      have := h4 i hi
      rw [List.getD_eq_getElem?_getD, List.getElem?_eq_getElem hi] at this
      exact this
def Small (l : List (List S141)) : Prop := l.length ≤ 1048576 ∧ ∀ x ∈ l, x.length ≤ 1048576
theorem sz_store (y : S24) (a : Int) (h0 : 0 ≤ a) (h1 : a ≤ 1048576) (hi : i24 y) : ∃ r, Ev (fun k => laws_szStore.f k y.f0 y.f1 a) r ∧ (r < 0 ∨ 0 ≤ r ∧ r ≤ a ∧ Small y.f0) := by
  obtain ⟨r, he, hr⟩ := sz_rows y.f0 a h0 h1 hi.1.1 (fun x hx => (hi.1.2 x hx).1)
  obtain ⟨K, he⟩ := ev_at he
  rcases hr with hr | ⟨h2, h3, h4⟩
  · exact ⟨-1, ev_mk K (fun k hk => by unfold laws_szStore.f; rw [he k hk]; simp only [Option.bind_some]; rw [if_pos hr]), .inl (by omega)⟩
  · exact ⟨r, ev_mk K (fun k hk => by unfold laws_szStore.f; rw [he k hk]; simp only [Option.bind_some]; rw [if_neg (by omega)]), .inr ⟨h2, h3, h4⟩⟩
def cvV (x : S141) : S43 := ⟨x.f0, x.f1⟩
def cvS (l : List (List S141)) : List (List S43) := l.map (List.map cvV)
theorem to_row (l : List S141) (hl : l.length ≤ 1048576) : Ev (fun k => laws_toVersionS.f k l) (l.map cvV) := by
  have h := fill_loop l z141 cvV (fun k y i => laws_toVersionS.l0 k l y i) (fun y hy => ⟨0, fun k _ => by simp only [laws_toVersionS.l0]; rw [if_neg (by omega)]⟩)
    (fun j y hj hy => ⟨0, fun k _ => by
      simp only [laws_toVersionS.l0, laws_toVersion.f]; rw [if_pos (by omega), if_pos (by omega)]; simp only [Option.bind_some]; rw [if_pos (by omega), wsucc hj (by omega)]; rfl⟩) (List.replicate l.length z43) (by simp)
  refine ev_same ⟨0, fun k _ => ?_⟩ h
  unfold laws_toVersionS.f
  rw [if_pos (by omega), if_pos (by simp; omega), Int.toNat_natCast]
theorem to_rows (l : List (List S141)) (hl : Small l) : Ev (fun k => laws_toVersionSS.f k l) (cvS l) := by
  have h := fill_loop l [] (List.map cvV) (fun k y i => laws_toVersionSS.l0 k l y i) (fun y hy => ⟨0, fun k _ => by simp only [laws_toVersionSS.l0]; rw [if_neg (by omega)]⟩)
    (fun j y hj hy => by
      have hm : (l.getD j []) ∈ l := by rw [List.getD_eq_getElem?_getD, List.getElem?_eq_getElem hj]; exact List.getElem_mem hj
      obtain ⟨K, hk⟩ := to_row (l.getD j []) (hl.2 _ hm)
      refine ⟨K, fun k hK => ?_⟩
      have e' : laws_toVersionS.f k (rd_L2 l (j : Int)) = some ((l.getD j []).map cvV) := hk k hK
      have hl' := hl.1
      simp only [laws_toVersionSS.l0]; rw [if_pos (by omega), if_pos (by omega), e']; simp only [Option.bind_some]; rw [if_pos (by omega), wsucc hj (by omega)]; rfl) (List.replicate l.length []) (by simp)
  refine ev_same ⟨0, fun k _ => ?_⟩ h
  have hl' := hl.1
  unfold laws_toVersionSS.f
  rw [if_pos (by omega), if_pos (by simp; omega), Int.toNat_natCast]
theorem to_store (l : List (List S141)) (n : Int) (hl : Small l) : Ev (fun k => laws_toStore.f k l n) (cvS l, n) := by
  obtain ⟨K, h⟩ := ev_at (to_rows l hl)
  exact ev_mk K (fun k hk => by unfold laws_toStore.f; rw [h k hk]; rfl)
theorem eq_row (l : List S43) (hl : l.length ≤ 1048576) : Ev (fun k => laws_eqVersionS.f k l l) true := by
  obtain ⟨r, hr, he⟩ := count_loop l.length (fun k i => laws_eqVersionS.l0 k l l i) (fun _ r => r = true) ⟨true, rfl, ev_now ⟨0, fun k _ => by simp only [laws_eqVersionS.l0]; rw [if_neg (by omega)]⟩⟩
    (fun j hj r hr he => ⟨r, hr, ev_step ⟨0, fun k _ => by simp only [laws_eqVersionS.l0, laws_eqVersion.f]; rw [if_pos (by omega), if_pos (by omega), if_pos (by omega)]; simp only [if_true, Option.bind_some]; rw [wsucc hj (by omega)]⟩ he⟩) 0 (by omega)
  subst hr
  exact ev_same ⟨0, fun k _ => by unfold laws_eqVersionS.f; rw [if_pos rfl]; rfl⟩ he
theorem eq_rows (l : List (List S43)) (hl : l.length ≤ 1048576) (hx : ∀ x ∈ l, x.length ≤ 1048576) : Ev (fun k => laws_eqVersionSS.f k l l) true := by
  obtain ⟨r, hr, he⟩ := count_loop l.length (fun k i => laws_eqVersionSS.l0 k l l i) (fun _ r => r = true) ⟨true, rfl, ev_now ⟨0, fun k _ => by simp only [laws_eqVersionSS.l0]; rw [if_neg (by omega)]⟩⟩
    (fun j hj r hr he => by
      have hm : (l.getD j []) ∈ l := by rw [List.getD_eq_getElem?_getD, List.getElem?_eq_getElem hj]; exact List.getElem_mem hj
      obtain ⟨K, hk⟩ := eq_row (l.getD j []) (hx _ hm)
      exact ⟨r, hr, ev_step ⟨K, fun k hK => by
        have e' : laws_eqVersionS.f k (rd_L4 l (j : Int)) (rd_L4 l (j : Int)) = some true := hk k hK
        simp only [laws_eqVersionSS.l0]; rw [if_pos (by omega), if_pos (by omega), if_pos (by omega), e']; simp only [if_true, Option.bind_some]; rw [wsucc hj (by omega)]⟩ he⟩) 0 (by omega)
  subst hr
  exact ev_same ⟨0, fun k _ => by unfold laws_eqVersionSS.f; rw [if_pos rfl]; rfl⟩ he
theorem eq_store (l : List (List S43)) (n : Int) (hl : l.length ≤ 1048576) (hx : ∀ x ∈ l, x.length ≤ 1048576) : Ev (fun k => laws_eqStore.f k l n l n) true := by
  obtain ⟨K, h⟩ := ev_at (eq_rows l hl hx)
  exact ev_mk K (fun k hk => by unfold laws_eqStore.f; rw [h k hk]; simp)
theorem small_cv (l : List (List S141)) (h : Small l) : (cvS l).length ≤ 1048576 ∧ ∀ x ∈ cvS l, x.length ≤ 1048576 := by
  refine ⟨by simpa [cvS] using h.1, fun x hx => ?_⟩
  simp only [cvS, List.mem_map] at hx
  obtain ⟨y, hy, rfl⟩ := hx
  simpa using h.2 y hy
def fitsB (key v : Int) : Bool := if Int.tmod key 2 = 1 then decide (0 ≤ v ∧ v ≤ 8) else decide (-2147483648 ≤ v ∧ v ≤ 2147483647)
theorem spec_in (a b c : Int) : spec_l01In.f a b c = some (decide (b ≤ a ∧ a ≤ c)) := by
  unfold spec_l01In.f
  by_cases h : b ≤ a
  · rw [if_pos h]; simp [h]
  · rw [if_neg h]; simp [h]
theorem impl_in (a b c : Int) : impl_within.f a b c = some (decide (b ≤ a ∧ a ≤ c)) := spec_in a b c
theorem spec_fits (a b : Int) : spec_l06Value.f a b = some (fitsB a b) := by
  unfold spec_l06Value.f spec_IsInt.f fitsB
  by_cases h : Int.tmod a 2 = 1
  · rw [if_pos h, if_pos h, spec_in]; rfl
  · rw [if_neg h, if_neg h, spec_in]; rfl
theorem impl_fits (a b : Int) : impl_fits.f a b = some (fitsB a b) := by
  unfold impl_fits.f impl_IsInt.f fitsB
  by_cases h : Int.tmod a 2 = 1
  · rw [if_pos h, if_pos h, impl_in]; rfl
  · rw [if_neg h, if_neg h, impl_in]; rfl
/-- A version that is right at its place. -/
def VerOK (now : Int) (key : Nat) (c : List S43) (i : Nat) : Prop :=
  1 ≤ (c.getD i z43).f0 ∧ (c.getD i z43).f0 ≤ now ∧ fitsB key (c.getD i z43).f1 = true ∧ (0 < i → (c.getD (i - 1) z43).f0 < (c.getD i z43).f0)
def IsStore (cs : List (List S43)) (now : Int) : Prop := cs.length = 16 ∧ 0 ≤ now ∧ now ≤ 100000 ∧ ∀ i, i < 16 → ∀ j, j < (cs.getD i []).length → VerOK now i (cs.getD i []) j
theorem spec_chain (cs : List (List S43)) (now : Int) (hl : cs.length = 16) (i : Nat) (hi : i < 16) (hx : (cs.getD i []).length ≤ 1048576) (R : Bool) (hR : Ev (fun k => spec_StoreOK.l0 k ((i + 1 : Nat) : Int) cs now) R) :
    ∃ r, Ev (fun k => spec_StoreOK.l1 k i 0 cs now) r ∧ (r = true ↔ (∀ j, j < (cs.getD i []).length → VerOK now i (cs.getD i []) j) ∧ R = true) := by
  obtain ⟨r, hr, he⟩ := count_loop (cs.getD i []).length (fun k j => spec_StoreOK.l1 k i j cs now) (fun j r => r = true ↔ (∀ j', j ≤ j' → j' < (cs.getD i []).length → VerOK now i (cs.getD i []) j') ∧ R = true)
    ⟨R, ⟨fun h => ⟨fun j' h1 h2 => by omega, h⟩, fun h => h.2⟩, ev_step ⟨0, fun k _ => by
      simp only [spec_StoreOK.l1]; rw [if_pos (by omega), if_pos (by omega), if_neg (by show ¬ ((cs.getD i []).length : Int) < ((rd_L4 cs (i : Int)).length : Int); simp [rd_L4]), wsucc (n := 16) hi (by omega)]⟩ hR⟩
    (fun j hj r hr he => by
      have hd : rd_L4 cs (i : Int) = cs.getD i [] := rfl
      have hv : rd_T43 (cs.getD i []) (j : Int) = (cs.getD i []).getD j z43 := rfl
      have hw1 : 0 < j → rd_T43 (cs.getD i []) (wrap64 ((j : Int) - 1)) = (cs.getD i []).getD (j - 1) z43 := fun h0 => by
        have : wrap64 ((j : Int) - 1) = ((j - 1 : Nat) : Int) := by unfold wrap64; omega
        rw [this]; rfl
      have hw2 : 0 < j → 0 ≤ wrap64 ((j : Int) - 1) ∧ wrap64 ((j : Int) - 1) < ((cs.getD i []).length : Int) := fun h0 => by
        have : wrap64 ((j : Int) - 1) = ((j - 1 : Nat) : Int) := by unfold wrap64; omega
        rw [this]; omega
      have no : ¬ VerOK now i (cs.getD i []) j → (∃ K, ∀ k, K ≤ k → spec_StoreOK.l1 (k + 1) i j cs now = some false) → ∃ r', (r' = true ↔ (∀ j', j ≤ j' → j' < (cs.getD i []).length → VerOK now i (cs.getD i []) j') ∧ R = true) ∧ Ev (fun k => spec_StoreOK.l1 k i j cs now) r' :=
        fun hn hk => ⟨false, ⟨fun h => (by cases h), fun h => absurd (h.1 j (Nat.le_refl _) hj) hn⟩, ev_now hk⟩
      have yes : VerOK now i (cs.getD i []) j → (∃ K, ∀ k, K ≤ k → spec_StoreOK.l1 (k + 1) i j cs now = spec_StoreOK.l1 k i ((j + 1 : Nat) : Int) cs now) → ∃ r', (r' = true ↔ (∀ j', j ≤ j' → j' < (cs.getD i []).length → VerOK now i (cs.getD i []) j') ∧ R = true) ∧ Ev (fun k => spec_StoreOK.l1 k i j cs now) r' :=
        fun hn hk => ⟨r, hr.trans ⟨fun h => ⟨fun j' h1 h2 => by
          rcases Nat.lt_or_eq_of_le h1 with h3 | rfl
          · exact h.1 j' h3 h2
          · exact hn, h.2⟩, fun h => ⟨fun j' h1 h2 => h.1 j' (by omega) h2, h.2⟩⟩, ev_step hk he⟩
      have hh : ∀ k, spec_StoreOK.l1 (k + 1) i j cs now = if (decide (1 ≤ ((cs.getD i []).getD j z43).f0 ∧ ((cs.getD i []).getD j z43).f0 ≤ now)) = true then (if fitsB i ((cs.getD i []).getD j z43).f1 = true then (if (j : Int) > 0 then (if ((cs.getD i []).getD (j - 1) z43).f0 ≥ ((cs.getD i []).getD j z43).f0 then some false else spec_StoreOK.l1 k i ((j + 1 : Nat) : Int) cs now) else spec_StoreOK.l1 k i ((j + 1 : Nat) : Int) cs now) else some false) else some false := by
        intro k
        conv => lhs; simp only [spec_StoreOK.l1]
        rw [hd, if_pos (by omega), if_pos (by omega), if_pos (by omega), if_pos (by omega), spec_in, spec_fits, hv]
        simp only [Option.bind_some, wsucc hj (by omega)]
        by_cases h0 : 0 < j
        · rw [hw1 h0, if_pos (hw2 h0).1, if_pos (hw2 h0).2]
        · simp only [if_neg (show ¬ ((j : Int) > 0) by omega)]
      by_cases h1 : 1 ≤ ((cs.getD i []).getD j z43).f0 ∧ ((cs.getD i []).getD j z43).f0 ≤ now
      · by_cases h2 : fitsB i ((cs.getD i []).getD j z43).f1 = true
        · by_cases h3 : 0 < j
          · by_cases h4 : ((cs.getD i []).getD (j - 1) z43).f0 ≥ ((cs.getD i []).getD j z43).f0
            · exact no (fun h => absurd (h.2.2.2 h3) (by omega)) ⟨0, fun k _ => by rw [hh, if_pos (decide_eq_true h1), if_pos h2, if_pos (by omega), if_pos h4]⟩
            · exact yes ⟨h1.1, h1.2, h2, fun _ => by omega⟩ ⟨0, fun k _ => by rw [hh, if_pos (decide_eq_true h1), if_pos h2, if_pos (by omega), if_neg h4]⟩
          · exact yes ⟨h1.1, h1.2, h2, fun h => absurd h h3⟩ ⟨0, fun k _ => by rw [hh, if_pos (decide_eq_true h1), if_pos h2, if_neg (by omega)]⟩
        · exact no (fun h => h2 h.2.2.1) ⟨0, fun k _ => by rw [hh, if_pos (decide_eq_true h1), if_neg h2]⟩
      · exact no (fun h => h1 ⟨h.1, h.2.1⟩) ⟨0, fun k _ => by rw [hh, if_neg (by simpa using h1)]⟩) 0 (by omega)
  exact ⟨r, he, hr.trans ⟨fun h => ⟨fun j hj => h.1 j (by omega) hj, h.2⟩, fun h => ⟨fun j _ hj => h.1 j hj, h.2⟩⟩⟩
theorem spec_store_ok (cs : List (List S43)) (now : Int) (hx : ∀ x ∈ cs, x.length ≤ 1048576) : ∃ r, Ev (fun k => spec_StoreOK.f k cs now) r ∧ (r = true ↔ IsStore cs now) := by
  by_cases hl : cs.length = 16
  · by_cases hn : 0 ≤ now ∧ now ≤ 100000
    · obtain ⟨r, hr, he⟩ := count_loop 16 (fun k i => spec_StoreOK.l0 k i cs now) (fun i r => r = true ↔ ∀ i', i ≤ i' → i' < 16 → ∀ j, j < (cs.getD i' []).length → VerOK now i' (cs.getD i' []) j)
        ⟨true, ⟨fun _ i' h1 h2 => by omega, fun _ => rfl⟩, ev_now ⟨0, fun k _ => by simp only [spec_StoreOK.l0]; rw [if_neg (by omega)]⟩⟩
        (fun i hi R hR he => by
          have hm : (cs.getD i []) ∈ cs := by rw [List.getD_eq_getElem?_getD, List.getElem?_eq_getElem (by omega)]; exact List.getElem_mem (by omega)
          obtain ⟨r, he', hr⟩ := spec_chain cs now hl i hi (hx _ hm) R he
          refine ⟨r, ?_, ev_step ⟨0, fun k _ => by simp only [spec_StoreOK.l0]; rw [if_pos (by omega)]⟩ he'⟩
          rw [hr, hR]
          constructor
          · rintro ⟨h1, h2⟩ i' h3 h4
            rcases Nat.lt_or_eq_of_le h3 with h5 | rfl
            · exact h2 i' h5 h4
            · exact h1
          · intro h; exact ⟨h i (Nat.le_refl _) hi, fun i' h3 h4 => h i' (by omega) h4⟩) 0 (by omega)
      refine ⟨r, ?_, hr.trans ⟨fun h => ⟨hl, hn.1, hn.2, fun i hi => h i (by omega) hi⟩, fun h i _ hi => h.2.2.2 i hi⟩⟩
      refine ev_step (f := fun k => spec_StoreOK.l0 k 0 cs now) ⟨0, fun k _ => ?_⟩ he
      unfold spec_StoreOK.f
      rw [if_pos (by omega), spec_in]
      simp only [Option.bind_some, decide_eq_true hn, Bool.not_true, spec_StoreOK.j0]
      rw [if_neg (by simp)]
    · refine ⟨false, ev_now ⟨0, fun k _ => ?_⟩, ⟨fun h => (by cases h), fun h => absurd ⟨h.2.1, h.2.2.1⟩ hn⟩⟩
      unfold spec_StoreOK.f
      rw [if_pos (by omega), spec_in]
      simp only [Option.bind_some, decide_eq_false hn, Bool.not_false, spec_StoreOK.j0]
      exact if_pos trivial
  · refine ⟨false, ev_now ⟨0, fun k _ => ?_⟩, ⟨fun h => (by cases h), fun h => absurd h.1 hl⟩⟩
    unfold spec_StoreOK.f
    rw [if_neg (by omega)]
    simp only [spec_StoreOK.j0]
    exact if_pos trivial
theorem impl_chain (cs : List (List S43)) (now : Int) (i : Nat) (hi : i < 16) (c : List S43) (hc : c = cs.getD i []) (hx : c.length ≤ 1048576) (R : Bool) (hR : Ev (fun k => impl_StoreOK.l0 k cs 16 ((i + 1 : Nat) : Int) cs now) R) :
    ∃ r, Ev (fun k => impl_StoreOK.l1 k i c cs 16 i c (c.length : Int) 0 cs now) r ∧ (r = true ↔ (∀ j, j < c.length → VerOK now i c j) ∧ R = true) := by
  obtain ⟨r, hr, he⟩ := count_loop c.length (fun k j => impl_StoreOK.l1 k i c cs 16 i c (c.length : Int) j cs now) (fun j r => r = true ↔ (∀ j', j ≤ j' → j' < c.length → VerOK now i c j') ∧ R = true)
    ⟨R, ⟨fun h => ⟨fun j' h1 h2 => by omega, h⟩, fun h => h.2⟩, ev_step ⟨0, fun k _ => by
      simp only [impl_StoreOK.l1]; rw [if_neg (by omega), wsucc (n := 16) hi (by omega)]⟩ hR⟩
    (fun j hj r hr he => by
      have hv : rd_T43 c (j : Int) = c.getD j z43 := rfl
      have hw1 : 0 < j → rd_T43 c (wrap64 ((j : Int) - 1)) = c.getD (j - 1) z43 := fun h0 => by
        have : wrap64 ((j : Int) - 1) = ((j - 1 : Nat) : Int) := by unfold wrap64; omega
        rw [this]; rfl
      have hw2 : 0 < j → 0 ≤ wrap64 ((j : Int) - 1) ∧ wrap64 ((j : Int) - 1) < (c.length : Int) := fun h0 => by
        have : wrap64 ((j : Int) - 1) = ((j - 1 : Nat) : Int) := by unfold wrap64; omega
        rw [this]; omega
      have no : ¬ VerOK now i c j → (∃ K, ∀ k, K ≤ k → impl_StoreOK.l1 (k + 1) i c cs 16 i c (c.length : Int) j cs now = some false) → ∃ r', (r' = true ↔ (∀ j', j ≤ j' → j' < c.length → VerOK now i c j') ∧ R = true) ∧ Ev (fun k => impl_StoreOK.l1 k i c cs 16 i c (c.length : Int) j cs now) r' :=
        fun hn hk => ⟨false, ⟨fun h => (by cases h), fun h => absurd (h.1 j (Nat.le_refl _) hj) hn⟩, ev_now hk⟩
      have yes : VerOK now i c j → (∃ K, ∀ k, K ≤ k → impl_StoreOK.l1 (k + 1) i c cs 16 i c (c.length : Int) j cs now = impl_StoreOK.l1 k i c cs 16 i c (c.length : Int) ((j + 1 : Nat) : Int) cs now) → ∃ r', (r' = true ↔ (∀ j', j ≤ j' → j' < c.length → VerOK now i c j') ∧ R = true) ∧ Ev (fun k => impl_StoreOK.l1 k i c cs 16 i c (c.length : Int) j cs now) r' :=
        fun hn hk => ⟨r, hr.trans ⟨fun h => ⟨fun j' h1 h2 => by
          rcases Nat.lt_or_eq_of_le h1 with h3 | rfl
          · exact h.1 j' h3 h2
          · exact hn, h.2⟩, fun h => ⟨fun j' h1 h2 => h.1 j' (by omega) h2, h.2⟩⟩, ev_step hk he⟩
      have hh : ∀ k, impl_StoreOK.l1 (k + 1) i c cs 16 i c (c.length : Int) j cs now = if (decide (1 ≤ (c.getD j z43).f0 ∧ (c.getD j z43).f0 ≤ now)) = true then (if (j : Int) > 0 then (if (c.getD (j - 1) z43).f0 ≥ (c.getD j z43).f0 then some false else (if fitsB i (c.getD j z43).f1 = true then impl_StoreOK.l1 k i c cs 16 i c (c.length : Int) ((j + 1 : Nat) : Int) cs now else some false)) else (if fitsB i (c.getD j z43).f1 = true then impl_StoreOK.l1 k i c cs 16 i c (c.length : Int) ((j + 1 : Nat) : Int) cs now else some false)) else some false := by
        intro k
        conv => lhs; simp only [impl_StoreOK.l1]
        rw [if_pos (by omega), if_pos (by omega), if_pos (by omega), impl_in, impl_fits, hv]
        simp only [Option.bind_some, wsucc hj (by omega)]
        by_cases h0 : 0 < j
        · rw [hw1 h0, if_pos (hw2 h0).1, if_pos (hw2 h0).2]
        · simp only [if_neg (show ¬ ((j : Int) > 0) by omega)]
      by_cases h1 : 1 ≤ (c.getD j z43).f0 ∧ (c.getD j z43).f0 ≤ now
      · by_cases h2 : fitsB i (c.getD j z43).f1 = true
        · by_cases h3 : 0 < j
          · by_cases h4 : (c.getD (j - 1) z43).f0 ≥ (c.getD j z43).f0
            · exact no (fun h => absurd (h.2.2.2 h3) (by omega)) ⟨0, fun k _ => by rw [hh, if_pos (decide_eq_true h1), if_pos (by omega), if_pos h4]⟩
            · exact yes ⟨h1.1, h1.2, h2, fun _ => by omega⟩ ⟨0, fun k _ => by rw [hh, if_pos (decide_eq_true h1), if_pos (by omega), if_neg h4, if_pos h2]⟩
          · exact yes ⟨h1.1, h1.2, h2, fun h => absurd h h3⟩ ⟨0, fun k _ => by rw [hh, if_pos (decide_eq_true h1), if_neg (by omega), if_pos h2]⟩
        · refine no (fun h => h2 h.2.2.1) ⟨0, fun k _ => ?_⟩
          rw [hh, if_pos (decide_eq_true h1)]
          simp only [if_neg h2]
          repeat' split
          all_goals rfl
      · exact no (fun h => h1 ⟨h.1, h.2.1⟩) ⟨0, fun k _ => by rw [hh, if_neg (by simpa using h1)]⟩) 0 (by omega)
  exact ⟨r, he, hr.trans ⟨fun h => ⟨fun j hj => h.1 j (by omega) hj, h.2⟩, fun h => ⟨fun j _ hj => h.1 j hj, h.2⟩⟩⟩
theorem impl_store_ok (cs : List (List S43)) (now : Int) (hx : ∀ x ∈ cs, x.length ≤ 1048576) : ∃ r, Ev (fun k => impl_StoreOK.f k cs now) r ∧ (r = true ↔ IsStore cs now) := by
  by_cases hl : cs.length = 16
  · by_cases hn : 0 ≤ now ∧ now ≤ 100000
    · obtain ⟨r, hr, he⟩ := count_loop 16 (fun k i => impl_StoreOK.l0 k cs 16 i cs now) (fun i r => r = true ↔ ∀ i', i ≤ i' → i' < 16 → ∀ j, j < (cs.getD i' []).length → VerOK now i' (cs.getD i' []) j)
        ⟨true, ⟨fun _ i' h1 h2 => by omega, fun _ => rfl⟩, ev_now ⟨0, fun k _ => by simp only [impl_StoreOK.l0]; rw [if_neg (by omega)]⟩⟩
        (fun i hi R hR he => by
          have hm : (cs.getD i []) ∈ cs := by rw [List.getD_eq_getElem?_getD, List.getElem?_eq_getElem (by omega)]; exact List.getElem_mem (by omega)
          obtain ⟨r, he', hr⟩ := impl_chain cs now i hi (cs.getD i []) rfl (hx _ hm) R he
          refine ⟨r, ?_, ev_step ⟨0, fun k _ => by simp only [impl_StoreOK.l0]; rw [if_pos (by omega), if_pos (by omega), if_pos (by omega)]; rfl⟩ he'⟩
          rw [hr, hR]
          constructor
          · rintro ⟨h1, h2⟩ i' h3 h4
            rcases Nat.lt_or_eq_of_le h3 with h5 | rfl
            · exact h2 i' h5 h4
            · exact h1
          · intro h; exact ⟨h i (Nat.le_refl _) hi, fun i' h3 h4 => h i' (by omega) h4⟩) 0 (by omega)
      refine ⟨r, ?_, hr.trans ⟨fun h => ⟨hl, hn.1, hn.2, fun i hi => h i (by omega) hi⟩, fun h i _ hi => h.2.2.2 i hi⟩⟩
      refine ev_step (f := fun k => impl_StoreOK.l0 k cs 16 0 cs now) ⟨0, fun k _ => ?_⟩ he
      unfold impl_StoreOK.f
      rw [if_pos (by omega), impl_in]
      simp only [Option.bind_some, decide_eq_true hn, Bool.not_true, impl_StoreOK.j0]
      rw [if_neg (by simp), hl]
      rfl
    · refine ⟨false, ev_now ⟨0, fun k _ => ?_⟩, ⟨fun h => (by cases h), fun h => absurd ⟨h.2.1, h.2.2.1⟩ hn⟩⟩
      unfold impl_StoreOK.f
      rw [if_pos (by omega), impl_in]
      simp only [Option.bind_some, decide_eq_false hn, Bool.not_false, impl_StoreOK.j0]
      exact if_pos trivial
  · refine ⟨false, ev_now ⟨0, fun k _ => ?_⟩, ⟨fun h => (by cases h), fun h => absurd h.1 hl⟩⟩
    unfold impl_StoreOK.f
    rw [if_neg (by omega)]
    simp only [impl_StoreOK.j0]
    exact if_pos trivial
/-- Both say the same of a store. -/
theorem stores_agree (cs : List (List S43)) (now : Int) (hx : ∀ x ∈ cs, x.length ≤ 1048576) : ∃ r, Ev (fun k => spec_StoreOK.f k cs now) r ∧ Ev (fun k => impl_StoreOK.f k cs now) r ∧ (r = true ↔ IsStore cs now) := by
  obtain ⟨r, e, hr⟩ := spec_store_ok cs now hx
  obtain ⟨r', e', hr'⟩ := impl_store_ok cs now hx
  have : r' = r := by rw [Bool.eq_iff_iff, hr, hr']
  subst this
  exact ⟨r', e, e', hr⟩
end Go.Proofs.Ytfiboooflebdpaa.Pure2
namespace Go.Proofs.Ytfiboooflebdpaa.Pure2
open Go.RowKit Go.Proofs.Ytfiboooflebdpaa.Q Go.Proofs.YtfiboooflebdpaaW.PrintWords Go.Proofs.YtfiboooflebdpaaW.PrintLast
set_option linter.unusedVariables false
set_option linter.unusedSimpArgs false
/-! marks of rows of versions -/
def mkV (m : Int) (n : Nat) : List S43 := (List.range n).map (fun (j : Nat) => ⟨m + 2 * (j : Int), m + 2 * (j : Int) + 1⟩)
theorem mkV_len (m : Int) (n : Nat) : (mkV m n).length = n := by simp [mkV]
theorem mkV_at (m : Int) (n i : Nat) (h : i < n) : (mkV m n)[i]? = some ⟨m + 2 * (i : Int), m + 2 * (i : Int) + 1⟩ := by simp [mkV, h]
theorem mark_row (l : List S43) (m : Int) (h0 : 0 ≤ m) (hm : m ≤ 4611686018427387904) (hl : l.length ≤ 1048576) : Ev (fun k => laws_markVersionS.f k l m) (m + 2 * (l.length : Int), mkV m l.length) := by
  obtain ⟨r, hr, he⟩ := state_loop l.length (fun k (s : List S43 × Int) i => laws_markVersionS.l0 k s.1 s.2 i) (fun j s => s.2 = m + 2 * (j : Int) ∧ s.1.length = l.length ∧ ∀ i, i < j → s.1[i]? = some ⟨m + 2 * (i : Int), m + 2 * (i : Int) + 1⟩) (fun _ _ r => r = (m + 2 * (l.length : Int), mkV m l.length))
    (fun s hi => ⟨(s.2, s.1), by
      obtain ⟨h1, h2, h3⟩ := hi
      refine Prod.ext h1 (List.ext_getElem? fun i => ?_)
      by_cases h : i < l.length
      · rw [h3 i h, mkV_at m _ i h]
      · rw [List.getElem?_eq_none (show s.1.length ≤ i by omega), List.getElem?_eq_none (by rw [mkV_len]; omega)], ev_now ⟨0, fun k _ => by
        have h2 := hi.2.1
        simp only [laws_markVersionS.l0]; rw [if_neg (by omega)]⟩⟩)
    (fun j s hj hi => by
      obtain ⟨h1, h2, h3⟩ := hi
      have hw : wrap64 (s.2 + 1) = s.2 + 1 := by unfold wrap64; omega
      have hw2 : wrap64 ((wrap64 (s.2 + 1)) + 1) = s.2 + 2 := by rw [hw]; unfold wrap64; omega
      have hg : ((s.1.set j (⟨s.2, (s.1.getD j z43).f1⟩ : S43)).getD j z43) = ⟨s.2, (s.1.getD j z43).f1⟩ := by
        rw [List.getD_eq_getElem?_getD, List.getElem?_set_self (by omega)]; rfl
      refine .inr ⟨((s.1.set j (⟨s.2, (s.1.getD j z43).f1⟩ : S43)).set j (⟨s.2, s.2 + 1⟩ : S43), s.2 + 2), ⟨by show s.2 + 2 = _; omega, by simp [h2], fun i hij => ?_⟩, fun r h => h, 0, fun k _ => ?_⟩
      · by_cases he : i = j
        · subst he
          rw [List.getElem?_set_self (by simp; omega), h1]
        · rw [List.getElem?_set_ne (by omega), List.getElem?_set_ne (by omega)]
          exact h3 i (by omega)
      · simp only [laws_markVersionS.l0]
        rw [if_pos (by omega), if_pos (by omega)]
        simp only [Option.bind_some]
        rw [hw2, wsucc hj (by omega), hw]
        show laws_markVersionS.l0 k ((s.1.set j (⟨s.2, (s.1.getD j z43).f1⟩ : S43)).set j (⟨((s.1.set j (⟨s.2, (s.1.getD j z43).f1⟩ : S43)).getD j z43).f0, s.2 + 1⟩ : S43)) (s.2 + 2) _ = _
        rw [hg]) 0 (l, m) (by omega) ⟨by show m = _; omega, rfl, fun i hi => by omega⟩
  subst hr
  exact ev_same ⟨0, fun k _ => by unfold laws_markVersionS.f; rfl⟩ he
def posV (m : Int) (ls : List (List S43)) (i : Nat) : Int := m + 2 * ((((ls.take i).map List.length).sum : Nat) : Int)
theorem posV_zero (m : Int) (ls : List (List S43)) : posV m ls 0 = m := by simp [posV]
theorem posV_succ (m : Int) (ls : List (List S43)) (i : Nat) (h : i < ls.length) : posV m ls (i + 1) = posV m ls i + 2 * (((ls.getD i []).length : Nat) : Int) := by
  unfold posV
  rw [List.take_add_one, List.getElem?_eq_getElem h, List.getD_eq_getElem?_getD, List.getElem?_eq_getElem h]
  simp only [Option.toList, List.map_append, List.map_cons, List.map_nil, List.sum_append, List.sum_cons, List.sum_nil, Option.getD_some]
  omega
theorem posV_bound (m : Int) (ls : List (List S43)) (hx : ∀ x ∈ ls, x.length ≤ 1048576) : ∀ i, i ≤ ls.length → m ≤ posV m ls i ∧ posV m ls i ≤ m + 2097152 * (i : Int) := by
  intro i
  induction i with
  | zero => intro _; rw [posV_zero]; omega
  | succ i ih =>
    intro h
    have hm : (ls.getD i []) ∈ ls := by rw [List.getD_eq_getElem?_getD, List.getElem?_eq_getElem (by omega)]; exact List.getElem_mem (by omega)
    have := ih (by omega)
    have := hx _ hm
    rw [posV_succ m ls i (by omega)]
    omega
def mkS (m : Int) (ls : List (List S43)) : List (List S43) := (List.range ls.length).map (fun (i : Nat) => mkV (posV m ls i) (ls.getD i []).length)
theorem mkS_len (m : Int) (ls : List (List S43)) : (mkS m ls).length = ls.length := by simp [mkS]
theorem mkS_at (m : Int) (ls : List (List S43)) (i : Nat) (h : i < ls.length) : (mkS m ls)[i]? = some (mkV (posV m ls i) (ls.getD i []).length) := by simp [mkS, h]
theorem mark_rows (ls : List (List S43)) (m : Int) (h0 : 0 ≤ m) (hm : m ≤ 1099511627776) (hl : ls.length ≤ 1048576) (hx : ∀ x ∈ ls, x.length ≤ 1048576) : Ev (fun k => laws_markVersionSS.f k ls m) (posV m ls ls.length, mkS m ls) := by
  obtain ⟨r, hr, he⟩ := state_loop ls.length (fun k (s : List (List S43) × Int) i => laws_markVersionSS.l0 k s.1 s.2 i) (fun j s => s.2 = posV m ls j ∧ s.1.length = ls.length ∧ (∀ i, i < j → s.1[i]? = (mkS m ls)[i]?) ∧ ∀ i, j ≤ i → s.1[i]? = ls[i]?) (fun _ _ r => r = (posV m ls ls.length, mkS m ls))
    (fun s hi => ⟨(s.2, s.1), by
      obtain ⟨h1, h2, h3, _⟩ := hi
      refine Prod.ext h1 (List.ext_getElem? fun i => ?_)
      by_cases h : i < ls.length
      · exact h3 i h
      · rw [List.getElem?_eq_none (show s.1.length ≤ i by omega), List.getElem?_eq_none (by rw [mkS_len]; omega)], ev_now ⟨0, fun k _ => by
        have h2 := hi.2.1
        simp only [laws_markVersionSS.l0]; rw [if_neg (by omega)]⟩⟩)
    (fun j s hj hi => by
      obtain ⟨h1, h2, h3, h4⟩ := hi
      have hmem : (ls.getD j []) ∈ ls := by rw [List.getD_eq_getElem?_getD, List.getElem?_eq_getElem hj]; exact List.getElem_mem hj
      have hb := posV_bound m ls hx j (by omega)
      have hrow : s.1.getD j [] = ls.getD j [] := by rw [List.getD_eq_getElem?_getD, List.getD_eq_getElem?_getD, h4 j (Nat.le_refl _)]
      obtain ⟨K, hk⟩ := ev_at (mark_row (ls.getD j []) (posV m ls j) (by omega) (by omega) (hx _ hmem))
      refine .inr ⟨(s.1.set j (mkV (posV m ls j) (ls.getD j []).length), posV m ls (j + 1)), ⟨rfl, by simp [h2], fun i hij => ?_, fun i hij => ?_⟩, fun r h => h, K, fun k hK => ?_⟩
      · by_cases he : i = j
        · subst he
          rw [List.getElem?_set_self (by omega), mkS_at m ls i hj]
        · rw [List.getElem?_set_ne (by omega)]
          exact h3 i (by omega)
      · rw [List.getElem?_set_ne (by omega)]
        exact h4 i (by omega)
      · have e' : laws_markVersionS.f k (s.1.getD j []) s.2 = some (posV m ls j + 2 * ((ls.getD j []).length : Int), mkV (posV m ls j) (ls.getD j []).length) := by rw [hrow, h1]; exact hk k hK
        simp only [laws_markVersionSS.l0]
        rw [if_pos (by omega), if_pos (by omega)]
        show (laws_markVersionS.f k (s.1.getD j []) s.2).bind _ = _
        rw [e']
        simp only [Option.bind_some, Int.toNat_natCast]
        rw [wsucc hj (by omega), posV_succ m ls j hj]) 0 (ls, m) (by omega) ⟨(posV_zero m ls).symm, rfl, fun i hi => by omega, fun i _ => rfl⟩
  subst hr
  exact ev_same ⟨0, fun k _ => by unfold laws_markVersionSS.f; rfl⟩ he
theorem held_row (n : Nat) (m : Int) (h0 : 0 ≤ m) (hm : m ≤ 4611686018427387904) (hl : n ≤ 1048576) : Ev (fun k => laws_heldVersionS.f k (mkV m n) m) (m + 2 * (n : Int)) := by
  have hlen := mkV_len m n
  obtain ⟨r, hr, he⟩ := state_loop n (fun k (s : Int) i => laws_heldVersionS.l0 k (mkV m n) s i) (fun j s => s = m + 2 * (j : Int)) (fun _ _ r => r = m + 2 * (n : Int))
    (fun s hi => ⟨s, hi, ev_now ⟨0, fun k _ => by simp only [laws_heldVersionS.l0]; rw [if_neg (by omega)]⟩⟩)
    (fun j s hj hi => by
      have hw : wrap64 (s + 1) = s + 1 := by unfold wrap64; omega
      have hw2 : wrap64 ((wrap64 (s + 1)) + 1) = s + 2 := by rw [hw]; unfold wrap64; omega
      have hg : rd_T43 (mkV m n) (j : Int) = ⟨m + 2 * (j : Int), m + 2 * (j : Int) + 1⟩ := by
        show (mkV m n).getD j z43 = _
        rw [List.getD_eq_getElem?_getD, mkV_at m n j hj]; rfl
      refine .inr ⟨s + 2, by show s + 2 = _; omega, fun r h => h, 0, fun k _ => ?_⟩
      simp only [laws_heldVersionS.l0]
      rw [if_pos (by omega), if_pos (by omega), hg, if_pos hi.symm, hw, if_pos (by show m + 2 * (j : Int) + 1 = _; omega), wsucc hj (by omega)]
      have : wrap64 (s + 1 + 1) = s + 2 := by unfold wrap64; omega
      rw [this]) 0 m (by omega) (by omega)
  subst hr
  exact ev_same ⟨0, fun k _ => by unfold laws_heldVersionS.f; rfl⟩ he
theorem held_rows (ls : List (List S43)) (m : Int) (h0 : 0 ≤ m) (hm : m ≤ 1099511627776) (hl : ls.length ≤ 1048576) (hx : ∀ x ∈ ls, x.length ≤ 1048576) : Ev (fun k => laws_heldVersionSS.f k (mkS m ls) m) (posV m ls ls.length) := by
  have hlen := mkS_len m ls
  obtain ⟨r, hr, he⟩ := state_loop ls.length (fun k (s : Int) i => laws_heldVersionSS.l0 k (mkS m ls) s i) (fun j s => s = posV m ls j) (fun _ _ r => r = posV m ls ls.length)
    (fun s hi => ⟨s, hi, ev_now ⟨0, fun k _ => by simp only [laws_heldVersionSS.l0]; rw [if_neg (by omega)]⟩⟩)
    (fun j s hj hi => by
      have hmem : (ls.getD j []) ∈ ls := by rw [List.getD_eq_getElem?_getD, List.getElem?_eq_getElem hj]; exact List.getElem_mem hj
      have hb := posV_bound m ls hx j (by omega)
      have hg : (mkS m ls).getD j [] = mkV (posV m ls j) (ls.getD j []).length := by rw [List.getD_eq_getElem?_getD, mkS_at m ls j hj]; rfl
      obtain ⟨K, hk⟩ := ev_at (held_row (ls.getD j []).length (posV m ls j) (by omega) (by omega) (hx _ hmem))
      refine .inr ⟨posV m ls (j + 1), rfl, fun r h => h, K, fun k hK => ?_⟩
      have e' : laws_heldVersionS.f k ((mkS m ls).getD j []) s = some (posV m ls (j + 1)) := by rw [hg, hi, posV_succ m ls j hj]; exact hk k hK
      have hb2 := posV_bound m ls hx (j + 1) (by omega)
      simp only [laws_heldVersionSS.l0]
      rw [if_pos (by omega), if_pos (by omega)]
      show (laws_heldVersionS.f k ((mkS m ls).getD j []) s).bind _ = _
      rw [e']
      simp only [Option.bind_some]
      rw [if_neg (by omega), wsucc hj (by omega)]) 0 m (by omega) (posV_zero m ls).symm
  subst hr
  exact ev_same ⟨0, fun k _ => by unfold laws_heldVersionSS.f; rfl⟩ he
theorem mark_store (ls : List (List S43)) (n : Int) (hl : ls.length ≤ 1048576) (hx : ∀ x ∈ ls, x.length ≤ 1048576) : ∃ m l', Ev (fun k => laws_markStore.f k ls n 1) (m, l') ∧ Ev (fun k => laws_heldStore.f k l' n 1) m ∧ 0 ≤ m := by
  have hb := posV_bound 1 ls hx ls.length (Nat.le_refl _)
  refine ⟨_, _, mark_rows ls 1 (by omega) (by omega) hl hx, ?_, by omega⟩
  obtain ⟨K, hk⟩ := ev_at (held_rows ls 1 (by omega) (by omega) hl hx)
  exact ev_mk K fun k hK => by unfold laws_heldStore.f; rw [hk k hK]; simp only [Option.bind_some]; rw [if_neg (by omega)]
theorem mark_store_arg (ls : List (List S43)) (n : Int) (hl : ls.length ≤ 1048576) (hx : ∀ x ∈ ls, x.length ≤ 1048576) : ∃ m, Ev (fun k => laws_markStore.f k ls n 1) (m, mkS 1 ls) ∧ 0 ≤ m ∧ m ≤ 4398046511104 := by
  have hb := posV_bound 1 ls hx ls.length (Nat.le_refl _)
  exact ⟨_, mark_rows ls 1 (by omega) (by omega) hl hx, by omega, by omega⟩
end Go.Proofs.Ytfiboooflebdpaa.Pure2
namespace Go.Proofs.Ytfiboooflebdpaa.Q
open Go.RowKit Go.Proofs.YtfiboooflebdpaaW.PrintWords Go.Proofs.YtfiboooflebdpaaW.PrintLast Go.Proofs.YtfiboooflebdpaaW.PrintMore
attribute [local go_sem] max2_int min2_int max_two min_two max_three min_three max_four min_four   -- for this text's walks alone
set_option linter.unusedVariables false
set_option linter.unusedSimpArgs false

/-! ### spec_l06Own: function 72 -/
def spec_l06Own.l0 : Nat → Int → List (List (S43)) → Int → List (List (S43)) → Int → Option ((List (List (S43))) × Int)
 | 0, _, _, _, _, _ => none
 | k + 1, x4, x102000, x102001, x107000, x107001 => if x4 < (x102000.length : Int) then ((some (([] : List (S43)) : List (S43))).bind fun y107 => (if 0 ≤ x4 then (if y107.length + (rd_L4 x102000 x4).length < 8796093022208 then (if x107000.length < 5864062014805 then (spec_l06Own.l0 k (wrap64 (x4 + 1)) x102000 x102001 (x107000 ++ [(y107 ++ (rd_L4 x102000 x4))]) x107001) else (none)) else (none)) else (none))) else (some (x107000, x107001))
def spec_l06Own.f (k : Nat) (l0_0 : List (List (S43))) (a0_1 : Int) : Option ((List (List (S43))) × Int) := spec_l06Own.l0 k 0 l0_0 a0_1 (([] : List (List (S43)))) a0_1
def spec_l06Own.T5 : Bool × List (List Nat × List Nat) := (true, [([], []), ([0], [0]), ([], []), ([], []), ([3], [3]), ([], []), ([4, 5], [4, 5]), ([6], [6]), ([2, 7], [2, 7]), ([8], [8]), ([1, 9, 8], [1, 9]), ([0, 1, 2, 3, 4, 5, 6, 7, 8, 9, 10], []), ([11, 10, 10, 0, 1, 2, 3, 4, 5, 6, 7, 8, 9, 10], [10, 11])])
def spec_l06Own.B5 : List Nat := [0, 1, 0, 0, 8, 0, 56, 120, 252, 508, 1023, 2047, 4095]
theorem spec_l06Own.tab5 : rtab .any (opsOf Try.f72 5) = spec_l06Own.T5 := by kernel_rfl
theorem spec_l06Own.bits5 : waitsOk spec_l06Own.T5.2 spec_l06Own.B5 = true := by kernel_rfl
def spec_l06Own.y0 : Array Bool := #[false, false, false, false, false, false, false, false, false, false, false, false, false]
def spec_l06Own.y1 : Array Bool := #[true, false, false, false, false, false, false, false, false, false, false, false, false]
def spec_l06Own.y2 : Array Bool := #[true, false, false, true, false, false, false, false, false, false, false, false, false]
def spec_l06Own.y3 : Array Bool := #[true, false, false, true, false, true, false, false, false, false, false, false, false]
def spec_l06Own.y4 : Array Bool := #[true, true, false, true, false, true, false, false, false, false, false, false, false]
def spec_l06Own.y5 : Array Bool := #[true, true, false, true, true, true, false, false, false, false, false, false, false]
def spec_l06Own.y6 : Array Bool := #[true, true, false, true, true, true, true, false, false, false, false, false, false]
def spec_l06Own.y7 : Array Bool := #[true, true, false, true, true, true, true, true, false, false, false, false, false]
def spec_l06Own.y8 : Array Bool := #[true, true, true, true, true, true, true, true, false, false, false, false, false]
def spec_l06Own.y9 : Array Bool := #[true, true, true, true, true, true, true, true, true, false, false, false, false]
def spec_l06Own.y10 : Array Bool := #[true, true, true, true, true, true, true, true, true, true, false, false, false]
def spec_l06Own.y11 : Array Bool := #[true, true, true, true, true, true, true, true, true, true, true, false, false]
def spec_l06Own.y12 : Array Bool := #[true, true, true, true, true, true, true, true, true, true, true, true, false]
def spec_l06Own.y13 : Array Bool := #[true, true, true, true, true, true, true, true, true, true, true, true, true]
set_option maxHeartbeats 8000000 in
set_option maxRecDepth 100000 in
theorem spec_l06Own.calls (k : Nat) (A0_0 : Option Addr) (c0_0 : Nat) (l0_0 : List (List (S43))) (a0_1 : Int) (r1 : List (List (S43))) (r2 : Int) (w : World) (hr0_0 : Kd.C (Kd.slice 43 k43) w A0_0 l0_0.length l0_0) (hc0_0 : l0_0.length ≤ c0_0) (h : spec_l06Own.f k l0_0 a0_1 = some (r1, r2)) :
  Calls Try.prog 72 #[.agg #[.slice A0_0 l0_0.length c0_0, .int .i64 a0_1]] w fun e w' => ∃ v0_ : Value, e = .returned (.agg #[v0_, .int .i64 r2]) ∧ Kd.S (Kd.slice 43 k43) 41 w' w.heap.size (fun _ => True) v0_ r1 ∧ Below w.heap.size w w' := by
 have hu28 := Try.underlying28
 have HR0_0 := Aside0.mk hr0_0
 have HC0_0 := Aside0.mk hc0_0
 clear hr0_0 hc0_0
 have HB := Aside0.mk (Below.refl w.heap.size w)
 have H : (spec_l06Own.l0 k 0 l0_0 a0_1 (([] : List (List (S43)))) a0_1) = some (r1, r2) := h
 clear h
 obtain ⟨y103, hy103⟩ : ∃ y_ : List (List (S43)), y_ = (([] : List (List (S43)))) := ⟨_, rfl⟩
 replace H : (spec_l06Own.l0 k 0 l0_0 a0_1 y103 a0_1) = some (r1, r2) := by first | (rw [hy103]; with_reducible exact H) | (have H2_ := (Option.bind_some _ _).symm.trans H; rw [hy103]; with_reducible exact H2_) | (have H2_ := (Option.bind_some _ _).symm.trans H; with_reducible exact H2_) | with_reducible exact H | (rw [hy103]; exact H) | exact H
 have Ny103 := Aside0.mk hy103
 clear hy103
 have H' := Aside0.mk H
 clear H
 go_enter Try.func72, Try.ntmps72
 go_wp2_with (first | ((with_reducible refine gate_dst (N := 1) rfl ?_); refine box_event ?hg (N := 1) ?hd (cs := #[.slice A0_0 l0_0.length c0_0, .int .i64 a0_1]) (t := 28) ?hr ?_; (case hd => rfl); (case hg => rfl); (case hr => first | (go_simp; done) | (go_simp; rfl)); intro gb101 hg w2 hbox hb; have n0_ := Aside0.mk (below_step (by repeat (first | (with_reducible first | exact HB.out | apply below_alloc | apply pw_below_drewN | apply below_drew1) | exact HB.out)) hb); have n1_ := Aside0.mk (hbox); have n2_ := Aside0.mk ((by rw [hg]; exact (below_size (by repeat (first | (with_reducible first | exact HB.out | apply below_alloc | apply pw_below_drewN | apply below_drew1) | exact HB.out))) : w.heap.size ≤ gb101)); have n3_ := Aside0.mk ((by rw [hg]; exact (below_size (by repeat (first | (with_reducible first | exact HB.out | apply below_alloc | apply pw_below_drewN | apply below_drew1) | exact HB.out))) : w.heap.size ≤ gb101)); clear HB; have HB := n0_; have BK101 := n1_; have GW101 := n2_; have GE101 := n3_; clear n0_ n1_ n2_ n3_; clear hb hbox hg) | ((with_reducible refine gate_dst (N := 2) rfl ?_); refine box_event ?hg (N := 2) ?hd (cs := #[.slice none 0 0, .int .i64 0]) (t := 28) ?hr ?_; (case hd => rfl); (case hg => rfl); (case hr => first | (go_simp; done) | (go_simp; rfl)); intro gb102 hg w3 hbox hb; have n0_ := Aside0.mk (blk_below (g := gb101) (o := .cells #[.slice A0_0 l0_0.length c0_0, .int .i64 a0_1] 28 (0, 0)) (by (with_reducible repeat (first | refine blk_drewN ?_ _ | refine blk_drew ?_ | refine blk_alloc ?_ _)); exact BK101.out) hb); have n1_ := Aside0.mk (below_step (by repeat (first | (with_reducible first | exact HB.out | apply below_alloc | apply pw_below_drewN | apply below_drew1 | refine below_set ?_ GE101.out) | exact HB.out)) hb); have n2_ := Aside0.mk (hbox); have n3_ := Aside0.mk ((by rw [hg]; exact (below_size (by repeat (first | (with_reducible first | exact HB.out | apply below_alloc | apply pw_below_drewN | apply below_drew1 | refine below_set ?_ GE101.out) | exact HB.out))) : w.heap.size ≤ gb102)); have n4_ := Aside0.mk ((by rw [hg]; exact (below_size (by repeat (first | (with_reducible first | exact HB.out | apply below_alloc | apply pw_below_drewN | apply below_drew1 | refine below_set ?_ GE101.out) | exact HB.out))) : w.heap.size ≤ gb102)); have n5_ := Aside0.mk ((by rw [hg]; exact Nat.ne_of_lt (blk_lt (g := gb101) (o := .cells #[.slice A0_0 l0_0.length c0_0, .int .i64 a0_1] 28 (0, 0)) (by (with_reducible repeat (first | refine blk_drewN ?_ _ | refine blk_drew ?_ | refine blk_alloc ?_ _)); exact BK101.out)) : gb101 ≠ gb102)); have n6_ := Aside0.mk ((by rw [hg]; exact Nat.ne_of_gt (blk_lt (g := gb101) (o := .cells #[.slice A0_0 l0_0.length c0_0, .int .i64 a0_1] 28 (0, 0)) (by (with_reducible repeat (first | refine blk_drewN ?_ _ | refine blk_drew ?_ | refine blk_alloc ?_ _)); exact BK101.out)) : gb102 ≠ gb101)); clear BK101; clear HB; have BK101 := n0_; have HB := n1_; have BK102 := n2_; have GW102 := n3_; have GE102 := n4_; have NB101_102 := n5_; have NB102_101 := n6_; clear n0_ n1_ n2_ n3_ n4_ n5_ n6_; clear hb hbox hg) | ((with_reducible refine gate_dst (N := 5) rfl ?_); refine Kd.S_lit (Kd.slice 43 k43) _ 41 ?hg (N := 5) ?hd (xs := ([] : List (List (S43)))) (inner := []) (ok := fun _ => True) (okp := fun _ => True) ?hr ?hp (fun _ hk => hk) trivial (Below.refl _ _) (Nat.le_refl _) (by simp) ?_; (case hd => rfl); (case hg => rfl); (case hr => first | (go_simp; done) | (go_simp; rfl)); (case hp => exact (Reps.none _ _)); intro v104 w4 ho5 hb hg_ hnew_; clear hg_ hnew_; (first | rw [← Ny103.out] at ho5 | (simp only [Int.reduceToNat] at ho5; rw [← Ny103.out] at ho5)); have n0_ := Aside0.mk (Kd.S_lower ho5 (below_size (by repeat (first | (with_reducible first | exact HB.out | apply below_alloc | apply pw_below_drewN | apply below_drew1 | refine below_set ?_ GE101.out | refine below_set ?_ GE102.out) | exact HB.out)))); have n1_ := Aside0.mk (blk_below (g := gb101) (o := .cells #[.slice A0_0 l0_0.length c0_0, .int .i64 a0_1] 28 (0, 0)) (by (with_reducible repeat (first | refine blk_drewN ?_ _ | refine blk_drew ?_ | refine blk_alloc ?_ _)); exact BK101.out) hb); have n2_ := Aside0.mk (blk_below (g := gb102) (o := .cells #[.slice none 0 0, .int .i64 0] 28 (0, 0)) (by (with_reducible repeat (first | refine blk_drewN ?_ _ | refine blk_drew ?_ | refine blk_alloc ?_ _)); exact BK102.out) hb); have n3_ := Aside0.mk (below_step (by repeat (first | (with_reducible first | exact HB.out | apply below_alloc | apply pw_below_drewN | apply below_drew1 | refine below_set ?_ GE101.out | refine below_set ?_ GE102.out) | exact HB.out)) hb); clear BK101; clear BK102; clear HB; have HO105 := n0_; have BK101 := n1_; have BK102 := n2_; have HB := n3_; clear n0_ n1_ n2_ n3_; clear hb ho5; have hnb6 := NB101_102.out; have hnc6 := NB102_101.out; have hcz7_0 : w4.cell? ⟨gb101, 0, none⟩ = some (.slice A0_0 l0_0.length c0_0) := (blk_cell BK101.out 0).trans rfl; have hcz7_1 : w4.cell? ⟨gb101, 1, none⟩ = some (.int .i64 a0_1) := (blk_cell BK101.out 1).trans rfl; have hfz7_0 := blk_frozen BK101.out 0; have hfz7_1 := blk_frozen BK101.out 1; obtain ⟨Ao8, co8, eo8⟩ := Kd.S_slice HO105.out; subst eo8) | ((with_reducible refine gate_dst (N := 3) rfl ?_); refine box_event ?hg (N := 3) ?hd (cs := #[.slice none 0 0, .int .i64 0]) (t := 28) ?hr ?_; (case hd => rfl); (case hg => rfl); (case hr => first | (go_simp; done) | (go_simp; rfl)); intro gb106 hg w9 hbox hb; have n0_ := Aside0.mk (Kd.S_below (by (with_reducible repeat (first | apply Kd.S_alloc | apply Kd.S_drewN | apply Kd.S_drew)); exact HO105.out) hb); have n1_ := Aside0.mk (blk_below (g := gb101) (o := .cells #[.slice A0_0 l0_0.length c0_0, .int .i64 a0_1] 28 (0, 0)) (by (with_reducible repeat (first | refine blk_drewN ?_ _ | refine blk_drew ?_ | refine blk_alloc ?_ _)); exact BK101.out) hb); have n2_ := Aside0.mk (blk_below (g := gb102) (o := .cells #[.slice none 0 0, .int .i64 0] 28 (0, 0)) (by (with_reducible repeat (first | refine blk_drewN ?_ _ | refine blk_drew ?_ | refine blk_alloc ?_ _)); exact BK102.out) hb); have n3_ := Aside0.mk (below_step (by repeat (first | (with_reducible first | exact HB.out | apply below_alloc | apply pw_below_drewN | apply below_drew1 | refine below_set ?_ GE101.out | refine below_set ?_ GE102.out) | exact HB.out)) hb); have n4_ := Aside0.mk (hbox); have n5_ := Aside0.mk ((by rw [hg]; exact (below_size (by repeat (first | (with_reducible first | exact HB.out | apply below_alloc | apply pw_below_drewN | apply below_drew1 | refine below_set ?_ GE101.out | refine below_set ?_ GE102.out) | exact HB.out))) : w.heap.size ≤ gb106)); have n6_ := Aside0.mk ((by rw [hg]; exact (below_size (by repeat (first | (with_reducible first | exact HB.out | apply below_alloc | apply pw_below_drewN | apply below_drew1 | refine below_set ?_ GE101.out | refine below_set ?_ GE102.out) | exact HB.out))) : w.heap.size ≤ gb106)); have n7_ := Aside0.mk ((by rw [hg]; exact Nat.ne_of_lt (blk_lt (g := gb101) (o := .cells #[.slice A0_0 l0_0.length c0_0, .int .i64 a0_1] 28 (0, 0)) (by (with_reducible repeat (first | refine blk_drewN ?_ _ | refine blk_drew ?_ | refine blk_alloc ?_ _)); exact BK101.out)) : gb101 ≠ gb106)); have n8_ := Aside0.mk ((by rw [hg]; exact Nat.ne_of_gt (blk_lt (g := gb101) (o := .cells #[.slice A0_0 l0_0.length c0_0, .int .i64 a0_1] 28 (0, 0)) (by (with_reducible repeat (first | refine blk_drewN ?_ _ | refine blk_drew ?_ | refine blk_alloc ?_ _)); exact BK101.out)) : gb106 ≠ gb101)); have n9_ := Aside0.mk ((by rw [hg]; exact Nat.ne_of_lt (blk_lt (g := gb102) (o := .cells #[.slice none 0 0, .int .i64 0] 28 (0, 0)) (by (with_reducible repeat (first | refine blk_drewN ?_ _ | refine blk_drew ?_ | refine blk_alloc ?_ _)); exact BK102.out)) : gb102 ≠ gb106)); have n10_ := Aside0.mk ((by rw [hg]; exact Nat.ne_of_gt (blk_lt (g := gb102) (o := .cells #[.slice none 0 0, .int .i64 0] 28 (0, 0)) (by (with_reducible repeat (first | refine blk_drewN ?_ _ | refine blk_drew ?_ | refine blk_alloc ?_ _)); exact BK102.out)) : gb106 ≠ gb102)); clear HO105; clear BK101; clear BK102; clear HB; have HO105 := n0_; have BK101 := n1_; have BK102 := n2_; have HB := n3_; have BK106 := n4_; have GW106 := n5_; have GE106 := n6_; have NB101_106 := n7_; have NB106_101 := n8_; have NB102_106 := n9_; have NB106_102 := n10_; clear n0_ n1_ n2_ n3_ n4_ n5_ n6_ n7_ n8_ n9_ n10_; clear hb hbox hg; have hnb10 := NB106_101.out; have hnc10 := NB101_106.out; have hnb11 := NB106_102.out; have hnc11 := NB102_106.out; have hcz12_0 : w9.cell? ⟨gb106, 0, none⟩ = some (.slice none 0 0) := (blk_cell BK106.out 0).trans rfl; have hcz12_1 : w9.cell? ⟨gb106, 1, none⟩ = some (.int .i64 0) := (blk_cell BK106.out 1).trans rfl; have hfz12_0 := blk_frozen BK106.out 0; have hfz12_1 := blk_frozen BK106.out 1))
 go_loopg [4] k (fun kq v4 w' => ∃ (x4_1 : Int) (x107000_1 : List (List (S43))) (u107000 : Value), v4 = .int .i64 x4_1 ∧ Aside0 (spec_l06Own.l0 kq x4_1 l0_0 a0_1 x107000_1 a0_1 = some (r1, r2)) ∧ Aside0 (kq ≤ k) ∧ Aside0 (Kd.S (Kd.slice 43 k43) 41 w' w.heap.size (fun _ => True) u107000 x107000_1) ∧ Aside0 (w'.heap[gb101]? = some (.cells #[(.slice A0_0 l0_0.length c0_0), .int .i64 a0_1] 28 (0, 0))) ∧ Aside0 (w'.heap[gb102]? = some (.cells #[(.slice none 0 0), .int .i64 0] 28 (0, 0))) ∧ Aside0 (w'.heap[gb106]? = some (.cells #[u107000, .int .i64 a0_1] 28 (0, 0))) ∧ Aside0 (Below w.heap.size w w'))
 case atStart => exact ⟨(0), (y103), (.slice Ao8 y103.length co8), (by first | rfl | (simp; done) | (simp [*]; done)), H', ⟨Nat.le_refl _⟩, ⟨by (with_reducible repeat (first | apply Kd.S_alloc | apply Kd.S_drewN | apply Kd.S_drew)); exact Kd.S_mono (Kd.S_far (p := ⟨gb106, 1, none⟩) (Kd.S_far (p := ⟨gb106, 0, none⟩) (Kd.S_types HO105.out BK106.out (by decide)) (fun _ hk => hk.2) (.slice Ao8 y103.length co8)) (fun _ hk => hk.2) (.int .i64 a0_1)) (fun _ hk => trivial)⟩, ⟨by (with_reducible repeat (first | refine blk_drewN ?_ _ | refine blk_drew ?_ | refine blk_alloc ?_ _)); refine blk_far ?_ NB101_106.out _; (with_reducible repeat (first | refine blk_drewN ?_ _ | refine blk_drew ?_ | refine blk_alloc ?_ _)); refine blk_far ?_ NB101_106.out _; (with_reducible repeat (first | refine blk_drewN ?_ _ | refine blk_drew ?_ | refine blk_alloc ?_ _)); exact BK101.out⟩, ⟨by (with_reducible repeat (first | refine blk_drewN ?_ _ | refine blk_drew ?_ | refine blk_alloc ?_ _)); refine blk_far ?_ NB102_106.out _; (with_reducible repeat (first | refine blk_drewN ?_ _ | refine blk_drew ?_ | refine blk_alloc ?_ _)); refine blk_far ?_ NB102_106.out _; (with_reducible repeat (first | refine blk_drewN ?_ _ | refine blk_drew ?_ | refine blk_alloc ?_ _)); exact BK102.out⟩, ⟨by (with_reducible repeat (first | refine blk_drewN ?_ _ | refine blk_drew ?_ | refine blk_alloc ?_ _)); refine blk_put (cs := #[.slice Ao8 y103.length co8, .int .i64 0]) ?_ 1 _ rfl; (with_reducible repeat (first | refine blk_drewN ?_ _ | refine blk_drew ?_ | refine blk_alloc ?_ _)); refine blk_put (cs := #[.slice none 0 0, .int .i64 0]) ?_ 0 _ rfl; (with_reducible repeat (first | refine blk_drewN ?_ _ | refine blk_drew ?_ | refine blk_alloc ?_ _)); exact BK106.out⟩, ⟨by repeat (first | (with_reducible first | exact HB.out | apply below_alloc | apply pw_below_drewN | apply below_drew1 | refine below_set ?_ GE101.out | refine below_set ?_ GE102.out | refine below_set ?_ GE106.out) | exact HB.out)⟩⟩
 case round =>
  clear H'
  try clear c1
  try clear p2
  try clear c6
  try clear c7
  try clear c10
  try clear c11
  try clear hcz12_0
  try clear hcz12_1
  try clear hcz7_0
  try clear hcz7_1
  try clear hfz12_0
  try clear hfz12_1
  try clear hfz7_0
  try clear hfz7_1
  obtain ⟨x4_1, x107000_1, u107000, rfl, HA, HK1, HO_107000, BK101, BK102, BK106, HB⟩ := hrel
  cases gk with
  | zero => exact absurd HA.out (by simp [spec_l06Own.l0])
  | succ k1 =>
   have H := HA.out
   clear HA
   simp only [spec_l06Own.l0] at H
   by_cases c13 : x4_1 < (l0_0.length : Int)
   ·rw [if_pos c13] at H
    have c13b0 : decide (x4_1 < (l0_0.length : Int)) = true := decide_eq_true c13
    clear c13
    obtain ⟨y107, hy107⟩ : ∃ y_ : List (S43), y_ = (([] : List (S43))) := ⟨_, rfl⟩
    replace H : (if 0 ≤ x4_1 then (if y107.length + (rd_L4 l0_0 x4_1).length < 8796093022208 then (if x107000_1.length < 5864062014805 then (spec_l06Own.l0 k1 (wrap64 (x4_1 + 1)) l0_0 a0_1 (x107000_1 ++ [(y107 ++ (rd_L4 l0_0 x4_1))]) a0_1) else (none)) else (none)) else (none)) = some (r1, r2) := by first | (rw [hy107]; with_reducible exact H) | (have H2_ := (Option.bind_some _ _).symm.trans H; rw [hy107]; with_reducible exact H2_) | (have H2_ := (Option.bind_some _ _).symm.trans H; with_reducible exact H2_) | with_reducible exact H | (rw [hy107]; exact H) | exact H
    have Ny107 := Aside0.mk hy107
    clear hy107
    by_cases c14 : 0 ≤ x4_1
    ·rw [if_pos c14] at H
     have c14b0 : decide (0 ≤ x4_1) = true := decide_eq_true c14
     clear c14
     by_cases c15 : y107.length + (rd_L4 l0_0 x4_1).length < 8796093022208
     ·rw [if_pos c15] at H
      have LMc15 := Aside0.mk c15
      clear c15
      obtain ⟨y111, hy111⟩ : ∃ y_ : List (S43), y_ = (y107 ++ (rd_L4 l0_0 x4_1)) := ⟨_, rfl⟩
      replace H : (if x107000_1.length < 5864062014805 then (spec_l06Own.l0 k1 (wrap64 (x4_1 + 1)) l0_0 a0_1 (x107000_1 ++ [y111]) a0_1) else (none)) = some (r1, r2) := by first | (rw [hy111]; with_reducible exact H) | (have H2_ := (Option.bind_some _ _).symm.trans H; rw [hy111]; with_reducible exact H2_) | (have H2_ := (Option.bind_some _ _).symm.trans H; with_reducible exact H2_) | with_reducible exact H | (rw [hy111]; exact H) | exact H
      have Ny111 := Aside0.mk hy111
      clear hy111
      by_cases c16 : x107000_1.length < 5864062014805
      ·rw [if_pos c16] at H
       have LMc16 := Aside0.mk c16
       clear c16
       obtain ⟨y114, hy114⟩ : ∃ y_ : List (List (S43)), y_ = (x107000_1 ++ [y111]) := ⟨_, rfl⟩
       replace H : (spec_l06Own.l0 k1 (wrap64 (x4_1 + 1)) l0_0 a0_1 y114 a0_1) = some (r1, r2) := by first | (rw [hy114]; with_reducible exact H) | (have H2_ := (Option.bind_some _ _).symm.trans H; rw [hy114]; with_reducible exact H2_) | (have H2_ := (Option.bind_some _ _).symm.trans H; with_reducible exact H2_) | with_reducible exact H | (rw [hy114]; exact H) | exact H
       have Ny114 := Aside0.mk hy114
       clear hy114
       have H' := Aside0.mk H
       clear H
       have hnb17 := NB101_102.out
       have hnc17 := NB102_101.out
       have hnb18 := NB101_106.out
       have hnc18 := NB106_101.out
       have hcz19_0 : wr.cell? ⟨gb101, 0, none⟩ = some (.slice A0_0 l0_0.length c0_0) := (blk_cell BK101.out 0).trans rfl
       have hcz19_1 : wr.cell? ⟨gb101, 1, none⟩ = some (.int .i64 a0_1) := (blk_cell BK101.out 1).trans rfl
       have hfz19_0 := blk_frozen BK101.out 0
       have hfz19_1 := blk_frozen BK101.out 1
       try go_wp2
       have n0_ := Aside0.mk (Kd.S_drew HO_107000.out)
       have n1_ := Aside0.mk (blk_drew BK101.out)
       have n2_ := Aside0.mk (blk_drew BK102.out)
       have n3_ := Aside0.mk (blk_drew BK106.out)
       have n4_ := Aside0.mk (below_drew1 HB.out)
       clear HO_107000
       clear BK101
       clear BK102
       clear BK106
       clear HB
       have HO_107000 := n0_
       have BK101 := n1_
       have BK102 := n2_
       have BK106 := n3_
       have HB := n4_
       clear n0_ n1_ n2_ n3_ n4_
       have p110 : 0 ≤ (x4_1 : Int) := of_decide_eq_true (by first | (with_reducible assumption) | assumption)
       have q110 : x4_1 < (l0_0.length : Int) := of_decide_eq_true (by first | (with_reducible assumption) | assumption)
       obtain ⟨ad110, A110_0, c110_0, e110, hx110_0, hl110_0, hi110_0⟩ := at_L4 HR0_0.out x4_1 p110 q110
       have hw110_0 := hx110_0
       cases e110
       replace hx110_0 := (HB.out.cell (World.block_lt_of_cell? w _ hx110_0)).trans hx110_0
       have HR110_0 := Aside0.mk hi110_0
       have HC110_0 := Aside0.mk hl110_0
       clear hi110_0 hl110_0
       replace p110 := eq_true p110
       replace q110 := eq_true q110
       refine start_ (n := 13) (S := fun w' => w'.cell? ⟨gb106, 0, none⟩ = some (u107000) ∧ w'.cell? ⟨gb106, 1, none⟩ = some (.int .i64 a0_1) ∧ w'.cell? ⟨gb101, 0, none⟩ = some (.slice (some ad110) l0_0.length c0_0) ∧ w'.cell? ⟨gb101, 1, none⟩ = some (.int .i64 a0_1) ∧ w'.cell? (ad110.add (x4_1).toNat) = some (.slice A110_0 (rd_L4 l0_0 x4_1).length c110_0)) (ds := [12]) spec_l06Own.y0 (by kernel_rfl) rfl rfl ⟨(blk_cell BK106.out 0).trans rfl, (blk_cell BK106.out 1).trans rfl, (blk_cell BK101.out 0).trans rfl, (blk_cell BK101.out 1).trans rfl, ((HB.out.cell (World.block_lt_of_cell? w _ hw110_0)).trans hw110_0)⟩ (fun hHeld => ?_); refine with_tabW spec_l06Own.tab5 spec_l06Own.bits5 (fun HT_ HW_ => ?_)
       generalize wr.drew = w20 at HO_107000 BK101 BK102 BK106 HB HR110_0 hx110_0 hHeld ⊢
       refine pure_ (i := 0) (N := some 16) (v := ?_) (a' := ?_) spec_l06Own.y1 rfl rfl (any_of HT_.out (by kernel_rfl)) (fun _ _ _ h => h) (Or.inl ⟨by rfl, ?_⟩) ?_ ?_
       rotate_left
       ·intro w'
        go_simp
        with_reducible rfl
       rotate_left
       ·simp only [Act.put, List.setIfInBounds_toArray, List.set_cons_zero, List.set_cons_succ, i64_w, i32_w]
        rfl
       refine pure_ (i := 3) (N := some 19) (v := ?_) (a' := ?_) spec_l06Own.y2 rfl rfl (any_of HT_.out (by kernel_rfl)) (fun _ _ _ h => h) (Or.inl ⟨by rfl, ?_⟩) ?_ ?_
       rotate_left
       ·intro w'
        go_simp
        with_reducible rfl
       rotate_left
       ·simp only [Act.put, List.setIfInBounds_toArray, List.set_cons_zero, List.set_cons_succ, i64_w, i32_w]
        rfl
       refine pure_ (i := 5) (N := some 21) (v := ?_) (a' := ?_) spec_l06Own.y3 rfl rfl (any_of HT_.out (by kernel_rfl)) (fun _ _ _ h => h) (Or.inl ⟨by rfl, ?_⟩) ?_ ?_
       rotate_left
       ·intro w'
        go_simp
        with_reducible rfl
       rotate_left
       ·simp only [Act.put, List.setIfInBounds_toArray, List.set_cons_zero, List.set_cons_succ, i64_w, i32_w]
        rfl
       refine take_ (i := 1) (N := some 17) (v := ?_) (a' := ?_) spec_l06Own.y4 rfl rfl (take_ofW HT_.out HW_.out (by kernel_rfl)) (fun _ _ _ h => h) (Or.inl ⟨by rfl, ?_⟩) hHeld ?_ ?_
       rotate_left
       ·rintro w' ⟨s0, s1, s2, s3, s4⟩
        go_simp
        with_reducible rfl
       rotate_left
       ·simp only [Act.put, List.setIfInBounds_toArray, List.set_cons_zero, List.set_cons_succ, i64_w, i32_w]
        rfl
       refine take_ (i := 4) (N := some 20) (v := ?_) (a' := ?_) spec_l06Own.y5 rfl rfl (take_ofW HT_.out HW_.out (by kernel_rfl)) (fun _ _ _ h => h) (Or.inl ⟨by rfl, ?_⟩) hHeld ?_ ?_
       rotate_left
       ·rintro w' ⟨s0, s1, s2, s3, s4⟩
        go_simp
        with_reducible rfl
       rotate_left
       ·simp only [Act.put, List.setIfInBounds_toArray, List.set_cons_zero, List.set_cons_succ, i64_w, i32_w]
        rfl
       refine pure_ (i := 6) (N := some 22) (v := ?_) (a' := ?_) spec_l06Own.y6 rfl rfl (any_of HT_.out (by kernel_rfl)) (fun _ _ _ h => h) (Or.inl ⟨by rfl, ?_⟩) ?_ ?_
       rotate_left
       ·intro w'
        go_simp
        with_reducible rfl
       rotate_left
       ·simp only [Act.put, List.setIfInBounds_toArray, List.set_cons_zero, List.set_cons_succ, i64_w, i32_w]
        rfl
       refine take_ (i := 7) (N := some 23) (v := ?_) (a' := ?_) spec_l06Own.y7 rfl rfl (take_ofW HT_.out HW_.out (by kernel_rfl)) (fun _ _ _ h => h) (Or.inl ⟨by rfl, ?_⟩) hHeld ?_ ?_
       rotate_left
       ·rintro w' ⟨s0, s1, s2, s3, s4⟩
        go_simp
        with_reducible rfl
       rotate_left
       ·simp only [Act.put, List.setIfInBounds_toArray, List.set_cons_zero, List.set_cons_succ, i64_w, i32_w]
        rfl
       refine one_ (i := 2) (N := some 18) spec_l06Own.y8 rfl rfl (one_of HT_.out (by kernel_rfl)) (by decide) (fun K hK => ?_)
       refine Kd.R_lit_step k43 _ 43 ?hg (N := 18) ?hd (xs := ([] : List (S43))) (inner := []) (ok := fun _ => True) (okp := fun _ => True) ?hr ?hp (fun _ hk => hk) trivial (Below.refl _ _) (Nat.le_refl _) (by simp) ?_; (case hd => rfl); (case hg => rfl); (case hr => first | (go_simp; done) | (go_simp; rfl)); (case hp => exact (Reps.none _ _))
       intro v108 w21 ho22 hb hg_ hnew_
       clear hg_ hnew_
       (first | rw [← Ny107.out] at ho22 | (simp only [Int.reduceToNat] at ho22; rw [← Ny107.out] at ho22))
       have n0_ := Aside0.mk (Kd.S_elder' (by (with_reducible repeat (first | apply Kd.S_alloc | apply Kd.S_drewN | apply Kd.S_drew)); exact HO_107000.out) (Kd.R_base ho22) hb)
       have n1_ := Aside0.mk (Kd.R_lower ho22 (below_size (by repeat (first | (with_reducible first | exact HB.out | apply below_alloc | apply pw_below_drewN | apply below_drew1 | refine below_set ?_ GE101.out | refine below_set ?_ GE102.out | refine below_set ?_ GE106.out) | exact HB.out))))
       have n2_ := Aside0.mk (blk_below (g := gb101) (o := .cells #[.slice (some ad110) l0_0.length c0_0, .int .i64 a0_1] 28 (0, 0)) (by (with_reducible repeat (first | refine blk_drewN ?_ _ | refine blk_drew ?_ | refine blk_alloc ?_ _)); exact BK101.out) hb)
       have n3_ := Aside0.mk (blk_below (g := gb102) (o := .cells #[.slice none 0 0, .int .i64 0] 28 (0, 0)) (by (with_reducible repeat (first | refine blk_drewN ?_ _ | refine blk_drew ?_ | refine blk_alloc ?_ _)); exact BK102.out) hb)
       have n4_ := Aside0.mk (blk_below (g := gb106) (o := .cells #[u107000, .int .i64 a0_1] 28 (0, 0)) (by (with_reducible repeat (first | refine blk_drewN ?_ _ | refine blk_drew ?_ | refine blk_alloc ?_ _)); exact BK106.out) hb)
       have n5_ := Aside0.mk (below_step (by repeat (first | (with_reducible first | exact HB.out | apply below_alloc | apply pw_below_drewN | apply below_drew1 | refine below_set ?_ GE101.out | refine below_set ?_ GE102.out | refine below_set ?_ GE106.out) | exact HB.out)) hb)
       clear HO_107000
       clear BK101
       clear BK102
       clear BK106
       clear HB
       have HO_107000 := n0_
       have HO109 := n1_
       have BK101 := n2_
       have BK102 := n3_
       have BK106 := n4_
       have HB := n5_
       clear n0_ n1_ n2_ n3_ n4_ n5_
       clear hb ho22
       refine hK.out _ _ ⟨(blk_cell BK106.out 0).trans rfl, (blk_cell BK106.out 1).trans rfl, (blk_cell BK101.out 0).trans rfl, (blk_cell BK101.out 1).trans rfl, ((HB.out.cell (World.block_lt_of_cell? w _ hw110_0)).trans hw110_0)⟩ (fun hHeld => ?_)
       clear hK K
       refine norm_ (a' := ?_) ?_ ?_
       rotate_left
       ·show Act.put _ (some 18) _ = _
        simp only [Act.put, List.setIfInBounds_toArray, List.set_cons_zero, List.set_cons_succ, i64_w, i32_w]
        rfl
       refine one_ (i := 8) (N := some 24) spec_l06Own.y9 rfl rfl (one_of HT_.out (by kernel_rfl)) (by decide) (fun K hK => ?_)
       refine Kd.R_append_rows_step k43 (w0 := w) w.heap.size (by rfl) (.tmp 18) (.tmp 23) 41 43 (.agg #[(.int .i64 0), (.int .i64 0)]) 16 rfl Try.underlying41 info43 rfl (by decide) (by omega) v108 y107 (rd_L4 l0_0 x4_1) _ _ _ (fun _ => True) (fun _ => False) rfl rfl ?aO ?aR (fun _ _ h => h) (fun _ h => h.elim) ?aF ?aB ?aS ?aL ?_
       (case aR => repeat (first | exact (Kd.C_below HR110_0.out HB.out) | (with_reducible refine Kd.C_alloc ?_ _) | (with_reducible refine Kd.C_drewN ?_ _) | (with_reducible refine Kd.C_drew ?_)))
       (case aB => exact (by repeat (first | (with_reducible first | exact HB.out | apply below_alloc | apply pw_below_drewN | apply below_drew1 | refine below_set ?_ GE101.out | refine below_set ?_ GE102.out | refine below_set ?_ GE106.out) | exact HB.out)))
       (case aF => exact (fun _ _ => trivial))
       (case aO => exact (by (with_reducible repeat (first | apply Kd.R_alloc | apply Kd.R_drewN | apply Kd.R_drew)); exact HO109.out))
       (case aS => exact (below_size (by repeat (first | (with_reducible first | exact HB.out | apply below_alloc | apply pw_below_drewN | apply below_drew1 | refine below_set ?_ GE101.out | refine below_set ?_ GE102.out | refine below_set ?_ GE106.out) | exact HB.out))))
       (case aL => have := LMc15.out; omega)
       intro v112 w23 ho hb hg hat
       rw [← Ny111.out] at ho
       have n0_ := Aside0.mk (Kd.S_after (ok := (fun _ => True)) (by (with_reducible repeat (first | apply Kd.S_alloc | apply Kd.S_drewN | apply Kd.S_drew)); exact HO_107000.out) hg hat)
       have n1_ := Aside0.mk (blk_grown (g := gb101) (o := .cells #[.slice (some ad110) l0_0.length c0_0, .int .i64 a0_1] 28 (0, 0)) (by (with_reducible repeat (first | refine blk_drewN ?_ _ | refine blk_drew ?_ | refine blk_alloc ?_ _)); exact BK101.out) hg (Kd.R_ne HO109.out BK101.out (by decide)))
       have n2_ := Aside0.mk (blk_grown (g := gb102) (o := .cells #[.slice none 0 0, .int .i64 0] 28 (0, 0)) (by (with_reducible repeat (first | refine blk_drewN ?_ _ | refine blk_drew ?_ | refine blk_alloc ?_ _)); exact BK102.out) hg (Kd.R_ne HO109.out BK102.out (by decide)))
       have n3_ := Aside0.mk (blk_grown (g := gb106) (o := .cells #[u107000, .int .i64 a0_1] 28 (0, 0)) (by (with_reducible repeat (first | refine blk_drewN ?_ _ | refine blk_drew ?_ | refine blk_alloc ?_ _)); exact BK106.out) hg (Kd.R_ne HO109.out BK106.out (by decide)))
       have n4_ := Aside0.mk (hb)
       have n5_ := Aside0.mk (ho)
       clear HO_107000
       clear BK101
       clear BK102
       clear BK106
       clear HB
       clear HO109
       have HO_107000 := n0_
       have BK101 := n1_
       have BK102 := n2_
       have BK106 := n3_
       have HB := n4_
       have HO113 := n5_
       clear n0_ n1_ n2_ n3_ n4_ n5_
       clear ho hb hg hat
       obtain ⟨Ao25, co25, eo25⟩ := Kd.R_slice HO113.out
       (first | subst eo25 | (injection eo25 with f1_ f2_ f3_; have f4_ := f1_.symm; have f5_ := f3_.symm; clear f1_ f2_ f3_; subst f4_; subst f5_))
       refine hK.out _ _ ⟨(blk_cell BK106.out 0).trans rfl, (blk_cell BK106.out 1).trans rfl, (blk_cell BK101.out 0).trans rfl, (blk_cell BK101.out 1).trans rfl, ((HB.out.cell (World.block_lt_of_cell? w _ hw110_0)).trans hw110_0)⟩ (fun hHeld => ?_)
       clear hK K
       refine norm_ (a' := ?_) ?_ ?_
       rotate_left
       ·show Act.put _ (some 24) _ = _
        simp only [Act.put, List.setIfInBounds_toArray, List.set_cons_zero, List.set_cons_succ, i64_w, i32_w]
        rfl
       refine one_ (i := 9) (N := some 25) spec_l06Own.y10 rfl rfl (one_of HT_.out (by kernel_rfl)) (by decide) (fun K hK => ?_)
       refine value_ (w1 := ?_) (v := ?_) (by rfl) rfl ?_ ?_
       rotate_left 2
       ·go_simp
        constructor
        ·rfl
        ·rfl
       refine hK.out _ _ ⟨(blk_cell (blk_alloc BK106.out _) 0).trans rfl, (blk_cell (blk_alloc BK106.out _) 1).trans rfl, (blk_cell (blk_alloc BK101.out _) 0).trans rfl, (blk_cell (blk_alloc BK101.out _) 1).trans rfl, (World.cell?_alloc_lt _ _ _ (World.block_lt_of_cell? _ _ (((HB.out.cell (World.block_lt_of_cell? w _ hw110_0)).trans hw110_0)))).trans (((HB.out.cell (World.block_lt_of_cell? w _ hw110_0)).trans hw110_0))⟩ (fun hHeld => ?_)
       clear hK K
       refine norm_ (a' := ?_) ?_ ?_
       rotate_left
       ·show Act.put _ (some 25) _ = _
        simp only [Act.put, List.setIfInBounds_toArray, List.set_cons_zero, List.set_cons_succ, i64_w, i32_w]
        rfl
       refine one_ (i := 10) (N := some 26) spec_l06Own.y11 rfl rfl (one_of HT_.out (by kernel_rfl)) (by decide) (fun K hK => ?_)
       refine Kd.S_append_step (Kd.slice 43 k43) (w0 := w) w.heap.size (by rfl) (.tmp 17) (.tmp 25) 26 41 (.slice none 0 0) 24 rfl Try.underlying26 info41 rfl (by decide) (by omega) u107000 x107000_1 y111 [.slice Ao25 y111.length co25] (fun _ => True) (fun k_ => some k_ = (.slice Ao25 y111.length co25 : Value).ownBlock) rfl rfl ?aP (fun k_ hk_ => ((Kd.R_mono (ok' := fun k_ => ((fun _ => True)) k_ ∧ some k_ ≠ (u107000 : Value).ownBlock) (Kd.R_apart' (HO113.out) (Kd.S_typed HO_107000.out) (by decide)) (fun k_ hk => ⟨trivial, hk.2⟩))).1 k_ hk_.symm) ?aF ?aO ?aB ?aS ?aL ?_
       (case aP => exact Kd.M_row (Kd.R_mono (Kd.R_tight rfl (Kd.R_mono (ok' := fun k_ => ((fun _ => True)) k_ ∧ some k_ ≠ (u107000 : Value).ownBlock) (Kd.R_apart' (HO113.out) (Kd.S_typed HO_107000.out) (by decide)) (fun k_ hk => ⟨trivial, hk.2⟩))) (fun _ h_ => h_)))
       (case aB => exact (by repeat (first | (with_reducible first | exact HB.out | apply below_alloc | apply pw_below_drewN | apply below_drew1 | refine below_set ?_ GE101.out | refine below_set ?_ GE102.out | refine below_set ?_ GE106.out) | exact HB.out)))
       (case aF => exact (fun _ _ => trivial))
       (case aO => exact (by (with_reducible repeat (first | apply Kd.S_alloc | apply Kd.S_drewN | apply Kd.S_drew)); exact Kd.S_mono HO_107000.out (fun k_ hk => ⟨trivial, fun e_ => hk.2 e_⟩)))
       (case aS => exact (below_size (by repeat (first | (with_reducible first | exact HB.out | apply below_alloc | apply pw_below_drewN | apply below_drew1 | refine below_set ?_ GE101.out | refine below_set ?_ GE102.out | refine below_set ?_ GE106.out) | exact HB.out))))
       (case aL => have := LMc16.out; omega)
       intro v115 w24 ho hb hg hat
       rw [← Ny114.out] at ho
       have n0_ := Aside0.mk (blk_grown (g := gb101) (o := .cells #[.slice (some ad110) l0_0.length c0_0, .int .i64 a0_1] 28 (0, 0)) (by (with_reducible repeat (first | refine blk_drewN ?_ _ | refine blk_drew ?_ | refine blk_alloc ?_ _)); exact BK101.out) hg (Kd.S_ne HO_107000.out BK101.out (by decide)))
       have n1_ := Aside0.mk (blk_grown (g := gb102) (o := .cells #[.slice none 0 0, .int .i64 0] 28 (0, 0)) (by (with_reducible repeat (first | refine blk_drewN ?_ _ | refine blk_drew ?_ | refine blk_alloc ?_ _)); exact BK102.out) hg (Kd.S_ne HO_107000.out BK102.out (by decide)))
       have n2_ := Aside0.mk (blk_grown (g := gb106) (o := .cells #[u107000, .int .i64 a0_1] 28 (0, 0)) (by (with_reducible repeat (first | refine blk_drewN ?_ _ | refine blk_drew ?_ | refine blk_alloc ?_ _)); exact BK106.out) hg (Kd.S_ne HO_107000.out BK106.out (by decide)))
       have n3_ := Aside0.mk (hb)
       have n4_ := Aside0.mk (ho)
       clear BK101
       clear BK102
       clear BK106
       clear HB
       clear HO_107000
       clear HO113
       have BK101 := n0_
       have BK102 := n1_
       have BK106 := n2_
       have HB := n3_
       have HO116 := n4_
       clear n0_ n1_ n2_ n3_ n4_
       clear ho hb hg hat
       obtain ⟨Ao26, co26, eo26⟩ := Kd.S_slice HO116.out
       (first | subst eo26 | (injection eo26 with f1_ f2_ f3_; have f4_ := f1_.symm; have f5_ := f3_.symm; clear f1_ f2_ f3_; subst f4_; subst f5_))
       refine hK.out _ _ ⟨(blk_cell BK106.out 0).trans rfl, (blk_cell BK106.out 1).trans rfl, (blk_cell BK101.out 0).trans rfl, (blk_cell BK101.out 1).trans rfl, ((HB.out.cell (World.block_lt_of_cell? w _ hw110_0)).trans hw110_0)⟩ (fun hHeld => ?_)
       clear hK K
       refine norm_ (a' := ?_) ?_ ?_
       rotate_left
       ·show Act.put _ (some 26) _ = _
        simp only [Act.put, List.setIfInBounds_toArray, List.set_cons_zero, List.set_cons_succ, i64_w, i32_w]
        rfl
       refine pure_ (i := 11) (N := some 27) (v := ?_) (a' := ?_) spec_l06Own.y12 rfl rfl (any_of HT_.out (by kernel_rfl)) (fun _ _ _ h => h) (Or.inl ⟨by rfl, ?_⟩) ?_ ?_
       rotate_left
       ·intro w'
        go_simp
        with_reducible rfl
       rotate_left
       ·simp only [Act.put, List.setIfInBounds_toArray, List.set_cons_zero, List.set_cons_succ, i64_w, i32_w]
        rfl
       refine last_ (i := 12) (N := none) spec_l06Own.y13 rfl rfl (one_of HT_.out (by kernel_rfl)) (by decide) (fun K hK => ?_)
       have hs27 : w24.cell? ⟨gb106, 0, none⟩ = some (u107000) := (blk_cell BK106.out 0).trans rfl
       have hfs27 := blk_frozen BK106.out 0
       have hns27_0 := NB101_106.out
       have hns27_1 := NB102_106.out
       have hms27_0 := NB106_101.out
       have hms27_1 := NB106_102.out
       refine skip_ (w1 := ?_) (by rfl) rfl ?_ ?_
       rotate_left
       ·go_simp
        rfl
       refine hK.out _ _ ?_
       clear hK K
       refine done_ (done_of HT_.out (by kernel_rfl)) ?_
       try go_wp2
       go_roundg k1
       case measure => have := HK1.out; omega
       case rel => exact ⟨(wrap64 (x4_1 + 1)), (y114), (.slice Ao26 y114.length co26), (by first | rfl | (simp; done) | (simp [*]; done)), H', ⟨by have := HK1.out; omega⟩, ⟨by (with_reducible repeat (first | apply Kd.S_alloc | apply Kd.S_drewN | apply Kd.S_drew)); exact Kd.S_mono (Kd.S_far (p := ⟨gb106, 0, none⟩) (Kd.S_types HO116.out BK106.out (by decide)) (fun _ hk => hk.2) (.slice Ao26 y114.length co26)) (fun _ hk => trivial)⟩, ⟨by (with_reducible repeat (first | refine blk_drewN ?_ _ | refine blk_drew ?_ | refine blk_alloc ?_ _)); refine blk_far ?_ NB101_106.out _; (with_reducible repeat (first | refine blk_drewN ?_ _ | refine blk_drew ?_ | refine blk_alloc ?_ _)); exact BK101.out⟩, ⟨by (with_reducible repeat (first | refine blk_drewN ?_ _ | refine blk_drew ?_ | refine blk_alloc ?_ _)); refine blk_far ?_ NB102_106.out _; (with_reducible repeat (first | refine blk_drewN ?_ _ | refine blk_drew ?_ | refine blk_alloc ?_ _)); exact BK102.out⟩, ⟨by (with_reducible repeat (first | refine blk_drewN ?_ _ | refine blk_drew ?_ | refine blk_alloc ?_ _)); refine blk_put (cs := #[u107000, .int .i64 a0_1]) ?_ 0 _ rfl; (with_reducible repeat (first | refine blk_drewN ?_ _ | refine blk_drew ?_ | refine blk_alloc ?_ _)); exact BK106.out⟩, ⟨by repeat (first | (with_reducible first | exact HB.out | apply below_alloc | apply pw_below_drewN | apply below_drew1 | refine below_set ?_ GE101.out | refine below_set ?_ GE102.out | refine below_set ?_ GE106.out) | exact HB.out)⟩⟩
      ·rw [if_neg c16] at H
       exact absurd H (by simp)
     ·rw [if_neg c15] at H
      exact absurd H (by simp)
    ·rw [if_neg c14] at H
     exact absurd H (by simp)
   ·rw [if_neg c13] at H
    have c13b0 : decide (x4_1 < (l0_0.length : Int)) = false := decide_eq_false c13
    clear c13
    simp only [Option.some.injEq, Prod.mk.injEq] at H
    obtain ⟨rfl, rfl⟩ := H
    have hnb28 := NB101_102.out
    have hnc28 := NB102_101.out
    have hnb29 := NB101_106.out
    have hnc29 := NB106_101.out
    have hcz30_0 : wr.cell? ⟨gb101, 0, none⟩ = some (.slice A0_0 l0_0.length c0_0) := (blk_cell BK101.out 0).trans rfl
    have hcz30_1 : wr.cell? ⟨gb101, 1, none⟩ = some (.int .i64 a0_1) := (blk_cell BK101.out 1).trans rfl
    have hfz30_0 := blk_frozen BK101.out 0
    have hfz30_1 := blk_frozen BK101.out 1
    have hnb31 := NB106_102.out
    have hnc31 := NB102_106.out
    have hcz32_0 : wr.cell? ⟨gb106, 0, none⟩ = some (u107000) := (blk_cell BK106.out 0).trans rfl
    have hcz32_1 : wr.cell? ⟨gb106, 1, none⟩ = some (.int .i64 a0_1) := (blk_cell BK106.out 1).trans rfl
    have hfz32_0 := blk_frozen BK106.out 0
    have hfz32_1 := blk_frozen BK106.out 1
    obtain ⟨Ao33, co33, eo33⟩ := Kd.S_slice HO_107000.out
    subst eo33
    have hcz34_0 : wr.cell? ⟨gb102, 0, none⟩ = some (.slice none 0 0) := (blk_cell BK102.out 0).trans rfl
    have hcz34_1 : wr.cell? ⟨gb102, 1, none⟩ = some (.int .i64 0) := (blk_cell BK102.out 1).trans rfl
    have hfz34_0 := blk_frozen BK102.out 0
    have hfz34_1 := blk_frozen BK102.out 1
    go_wp2
    refine bodyPost_ret (results_cell_row rfl _ _ gb102 28 #[.slice Ao33 x107000_1.length co33, .int .i64 a0_1] (0, 0) _ rfl (by (with_reducible repeat (first | refine blk_drewN ?_ _ | refine blk_drew ?_ | refine blk_alloc ?_ _)); refine blk_put (cs := #[.slice Ao33 x107000_1.length co33, .int .i64 0]) ?_ 1 _ rfl; (with_reducible repeat (first | refine blk_drewN ?_ _ | refine blk_drew ?_ | refine blk_alloc ?_ _)); refine blk_put (cs := #[.slice none 0 0, .int .i64 0]) ?_ 0 _ rfl; (with_reducible repeat (first | refine blk_drewN ?_ _ | refine blk_drew ?_ | refine blk_alloc ?_ _)); exact BK102.out) Try.underlying28 rfl (by kernel_rfl)) rfl ?_
    exact ⟨_, by first | rfl | (simp [errW_none, errW_some] <;> rfl) | (simp [*, errW_none, errW_some] <;> rfl), by (with_reducible repeat (first | apply Kd.S_alloc | apply Kd.S_drewN | apply Kd.S_drew)); exact Kd.S_mono (Kd.S_far (p := ⟨gb102, 1, none⟩) (Kd.S_far (p := ⟨gb102, 0, none⟩) (Kd.S_types HO_107000.out BK102.out (by decide)) (fun _ hk => hk.2) (.slice Ao33 x107000_1.length co33)) (fun _ hk => hk.2) (.int .i64 a0_1)) (fun _ hk => trivial), by repeat (first | (with_reducible first | exact HB.out | apply below_alloc | apply pw_below_drewN | apply below_drew1 | refine below_set ?_ GE101.out | refine below_set ?_ GE102.out | refine below_set ?_ GE106.out) | exact HB.out)⟩

end Go.Proofs.Ytfiboooflebdpaa.Q
namespace Go.Proofs.Ytfiboooflebdpaa.Pure2
open Go.RowKit Go.Proofs.Ytfiboooflebdpaa.Q Go.Proofs.YtfiboooflebdpaaW.PrintWords Go.Proofs.YtfiboooflebdpaaW.PrintLast
set_option linter.unusedVariables false
set_option linter.unusedSimpArgs false
/-! a store's copy -/
theorem clone_row (c : List S43) (h : c.length ≤ 1048576) : impl_Version.f c = some c := by
  unfold impl_Version.f
  rw [if_pos (by omega)]
theorem row_mem (cs : List (List S43)) (j : Nat) (h : j < cs.length) : cs.getD j [] ∈ cs := by rw [List.getD_eq_getElem?_getD, List.getElem?_eq_getElem h]; exact List.getElem_mem h
theorem take_next (cs : List (List S43)) (j : Nat) (h : j < cs.length) : cs.take (j + 1) = cs.take j ++ [cs.getD j []] := by
  rw [List.take_add_one, List.getElem?_eq_getElem h, List.getD_eq_getElem?_getD, List.getElem?_eq_getElem h]; rfl
theorem impl_copy (cs : List (List S43)) (now : Int) (hl : cs.length ≤ 1048576) (hx : ∀ x ∈ cs, x.length ≤ 1048576) : Ev (fun k => impl_copyStore.f k cs now) (cs, now) := by
  obtain ⟨r, hr, he⟩ := state_loop cs.length (fun k (s : List (List S43)) i => impl_copyStore.l0 k cs (cs.length : Int) i s now) (fun j s => s = cs.take j) (fun _ _ r => r = (cs, now))
    (fun s hi => ⟨(cs, now), rfl, ev_now ⟨0, fun k _ => by simp only [impl_copyStore.l0]; rw [if_neg (by omega), hi, List.take_length]⟩⟩)
    (fun j s hj hi => by
      have hn : s.length = j := by rw [hi, List.length_take]; omega
      refine .inr ⟨cs.take (j + 1), rfl, fun r h => h, 0, fun k _ => ?_⟩
      have e : impl_Version.f (rd_L4 cs (j : Int)) = some (cs.getD j []) := clone_row _ (hx _ (row_mem cs j hj))
      simp only [impl_copyStore.l0]
      rw [if_pos (by omega), if_pos (by omega), if_pos (by omega), e]
      simp only [Option.bind_some]
      rw [if_pos (by omega), wsucc hj (by omega), take_next cs j hj, hi]) 0 [] (by omega) rfl
  subst hr
  exact ev_same ⟨0, fun k _ => by unfold impl_copyStore.f; rfl⟩ he
theorem spec_own (cs : List (List S43)) (now : Int) (hl : cs.length ≤ 1048576) (hx : ∀ x ∈ cs, x.length ≤ 1048576) : Ev (fun k => spec_l06Own.f k cs now) (cs, now) := by
  obtain ⟨r, hr, he⟩ := state_loop cs.length (fun k (s : List (List S43)) i => spec_l06Own.l0 k i cs now s now) (fun j s => s = cs.take j) (fun _ _ r => r = (cs, now))
    (fun s hi => ⟨(cs, now), rfl, ev_now ⟨0, fun k _ => by simp only [spec_l06Own.l0]; rw [if_neg (by omega), hi, List.take_length]⟩⟩)
    (fun j s hj hi => by
      have hn : s.length = j := by rw [hi, List.length_take]; omega
      refine .inr ⟨cs.take (j + 1), rfl, fun r h => h, 0, fun k _ => ?_⟩
      have hd : rd_L4 cs (j : Int) = cs.getD j [] := rfl
      have hc := hx _ (row_mem cs j hj)
      simp only [spec_l06Own.l0, Option.bind_some]
      rw [if_pos (by omega), if_pos (by omega), hd, List.length_nil, if_pos (by omega), if_pos (by omega), wsucc hj (by omega), take_next cs j hj, hi, List.nil_append]) 0 [] (by omega) rfl
  subst hr
  exact ev_same ⟨0, fun k _ => by unfold spec_l06Own.f; rfl⟩ he
end Go.Proofs.Ytfiboooflebdpaa.Pure2
namespace Go.Proofs.Ytfiboooflebdpaa.Pure2
open Go.RowKit Go.Proofs.Ytfiboooflebdpaa.Q Go.Proofs.YtfiboooflebdpaaW.PrintWords Go.Proofs.YtfiboooflebdpaaW.PrintLast
set_option linter.unusedVariables false
set_option linter.unusedSimpArgs false
/-! what is forgotten -/
def gone (c : List S43) (low : Int) (g : Nat) : Nat := if h : g + 1 < c.length ∧ (c.getD (g + 1) z43).f0 ≤ low then gone c low (g + 1) else g
termination_by c.length - g
theorem gone_step (c : List S43) (low : Int) (g : Nat) (h : g + 1 < c.length ∧ (c.getD (g + 1) z43).f0 ≤ low) : gone c low g = gone c low (g + 1) := by
  rw [gone]; exact dif_pos h
theorem gone_stop (c : List S43) (low : Int) (g : Nat) (h : ¬ (g + 1 < c.length ∧ (c.getD (g + 1) z43).f0 ≤ low)) : gone c low g = g := by
  rw [gone]; exact dif_neg h
theorem gone_le (c : List S43) (low : Int) : ∀ (m g : Nat), c.length - g = m → g ≤ c.length → g ≤ gone c low g ∧ gone c low g ≤ c.length := by
  intro m
  induction m with
  | zero => intro g hm hg; rw [gone_stop c low g (by omega)]; omega
  | succ m ih =>
    intro g hm hg
    by_cases h : g + 1 < c.length ∧ (c.getD (g + 1) z43).f0 ≤ low
    · rw [gone_step c low g h]
      have := ih (g + 1) (by omega) (by omega)
      omega
    · rw [gone_stop c low g h]; omega
def fgt (low : Int) (c : List S43) : List S43 := c.drop (gone c low 0)
theorem fgt_len (low : Int) (c : List S43) : (fgt low c).length ≤ c.length := by unfold fgt; rw [List.length_drop]; omega
def tot (cs : List (List S43)) (low : Int) (j : Nat) : Nat := ((cs.take j).map (fun c => gone c low 0)).sum
theorem tot_next (cs : List (List S43)) (low : Int) (j : Nat) (h : j < cs.length) : tot cs low (j + 1) = tot cs low j + gone (cs.getD j []) low 0 := by
  unfold tot
  rw [take_next cs j h]
  simp
theorem tot_le (cs : List (List S43)) (low : Int) (hx : ∀ x ∈ cs, x.length ≤ 1048576) : ∀ j, j ≤ cs.length → tot cs low j ≤ 1048576 * j := by
  intro j
  induction j with
  | zero => intro _; simp [tot]
  | succ j ih =>
    intro h
    have := ih (by omega)
    have := hx _ (row_mem cs j (by omega))
    have := (gone_le (cs.getD j []) low _ 0 rfl (by omega)).2
    rw [tot_next cs low j (by omega)]
    omega
theorem spec_inner (cs : List (List S43)) (now low : Int) (c : List S43) (hc : c.length ≤ 1048576) (j : Nat) (hj : j < 16) (n : Nat) (hn : n ≤ 33554432) (ys : List (List S43)) (hy : ys.length ≤ 16) (r : List (List S43) × Int × Int) : ∀ (m g : Nat), c.length - g = m → g ≤ c.length →
    Ev (fun k => spec_l06Forget.l0 k low ((n + gone c low g : Nat) : Int) ((j + 1 : Nat) : Int) cs now (ys ++ [c.drop (gone c low g)]) now) r → Ev (fun k => spec_l06Forget.l1 k low (n : Int) (j : Int) c (g : Int) cs now ys now) r := by
  intro m
  induction m with
  | zero =>
    intro g hm hg h
    rw [gone_stop c low g (by omega)] at h
    have hw : wrap64 ((g : Int) + 1) = ((g + 1 : Nat) : Int) := by unfold wrap64; omega
    have hw2 : wrap64 ((n : Int) + (g : Int)) = ((n + g : Nat) : Int) := by unfold wrap64; omega
    refine ev_step ⟨0, fun k _ => ?_⟩ h
    simp only [spec_l06Forget.l1, Option.bind_some, List.nil_append, List.length_nil, Nat.zero_add, List.length_drop, Int.toNat_natCast]
    rw [hw, if_neg (by omega), if_pos (by omega), if_pos (by omega), if_pos (by omega), if_pos (by omega), hw2, wsucc (n := 16) hj (by omega)]
  | succ m ih =>
    intro g hm hg h
    have hw : wrap64 ((g : Int) + 1) = ((g + 1 : Nat) : Int) := by unfold wrap64; omega
    have hw2 : wrap64 ((n : Int) + (g : Int)) = ((n + g : Nat) : Int) := by unfold wrap64; omega
    have hd : rd_T43 c ((g + 1 : Nat) : Int) = c.getD (g + 1) z43 := rfl
    by_cases h1 : g + 1 < c.length
    · by_cases h2 : (c.getD (g + 1) z43).f0 ≤ low
      · rw [gone_step c low g ⟨h1, h2⟩] at h
        refine ev_step ⟨0, fun k _ => ?_⟩ (ih (g + 1) (by omega) (by omega) h)
        conv => lhs; simp only [spec_l06Forget.l1]
        rw [hw, if_pos (by omega), if_pos (by omega), hd, if_pos h2]
      · rw [gone_stop c low g (fun h3 => h2 h3.2)] at h
        refine ev_step ⟨0, fun k _ => ?_⟩ h
        simp only [spec_l06Forget.l1, Option.bind_some, List.nil_append, List.length_nil, Nat.zero_add, List.length_drop, Int.toNat_natCast]
        rw [hw, if_pos (by omega), if_pos (by omega), hd, if_neg h2, if_pos (by omega), if_pos (by omega), if_pos (by omega), if_pos (by omega), hw2, wsucc (n := 16) hj (by omega)]
    · rw [gone_stop c low g (fun h3 => h1 h3.1)] at h
      refine ev_step ⟨0, fun k _ => ?_⟩ h
      simp only [spec_l06Forget.l1, Option.bind_some, List.nil_append, List.length_nil, Nat.zero_add, List.length_drop, Int.toNat_natCast]
      rw [hw, if_neg (by omega), if_pos (by omega), if_pos (by omega), if_pos (by omega), if_pos (by omega), hw2, wsucc (n := 16) hj (by omega)]
theorem spec_forget (cs : List (List S43)) (now low : Int) (hl : cs.length = 16) (hx : ∀ x ∈ cs, x.length ≤ 1048576) : Ev (fun k => spec_l06Forget.f k cs now low) (cs.map (fgt low), now, (tot cs low 16 : Int)) := by
  have key : ∀ d j, j ≤ 16 → 16 - j = d → Ev (fun k => spec_l06Forget.l0 k low (tot cs low j : Int) (j : Int) cs now ((cs.take j).map (fgt low)) now) (cs.map (fgt low), now, (tot cs low 16 : Int)) := by
    intro d
    induction d with
    | zero =>
      intro j hj hd
      obtain rfl : j = 16 := by omega
      exact ev_now ⟨0, fun k _ => by simp only [spec_l06Forget.l0]; rw [if_neg (by omega), List.take_of_length_le (by omega)]⟩
    | succ d ih =>
      intro j hj hd
      have h := ih (j + 1) (by omega) (by omega)
      have ht := tot_le cs low hx j (by omega)
      have hc := hx _ (row_mem cs j (by omega))
      have hr : rd_L4 cs (j : Int) = cs.getD j [] := rfl
      rw [tot_next cs low j (by omega), take_next cs j (by omega), List.map_append] at h
      refine ev_step ⟨0, fun k _ => ?_⟩ (spec_inner cs now low (cs.getD j []) hc j (by omega) (tot cs low j) (by omega) ((cs.take j).map (fgt low)) (by rw [List.length_map, List.length_take]; omega) _ _ 0 rfl (by omega) h)
      conv => lhs; simp only [spec_l06Forget.l0]
      rw [if_pos (by omega), if_pos (by omega), if_pos (by omega), hr]
      rfl
  have h := key 16 0 (by omega) (by omega)
  exact ev_same ⟨0, fun k _ => by unfold spec_l06Forget.f; rfl⟩ h
theorem impl_inner (now low : Int) (c : List S43) (hc : c.length ≤ 1048576) (j : Nat) (hj : j < 16) (n : Nat) (hn : n ≤ 33554432) (ys : List (List S43)) (hy : ys.length = 16) (r : List (List S43) × Int × Int) : ∀ (m g : Nat), c.length - g = m → g ≤ c.length →
    Ev (fun k => impl_Store_forget.l0 k low ((n + gone c low g : Nat) : Int) 16 ((j + 1 : Nat) : Int) (ys.set j (c.drop (gone c low g))) now) r → Ev (fun k => impl_Store_forget.l1 k low (n : Int) (j : Int) c (g : Int) 16 (j : Int) ys now) r := by
  intro m
  have cl : ∀ g : Nat, impl_Version.f (c.drop g) = some (c.drop g) := fun g => clone_row _ (by rw [List.length_drop]; omega)
  induction m with
  | zero =>
    intro g hm hg h
    rw [gone_stop c low g (by omega)] at h
    have hw : wrap64 ((g : Int) + 1) = ((g + 1 : Nat) : Int) := by unfold wrap64; omega
    have hw2 : wrap64 ((n : Int) + (g : Int)) = ((n + g : Nat) : Int) := by unfold wrap64; omega
    refine ev_step ⟨0, fun k _ => ?_⟩ h
    simp only [impl_Store_forget.l1, Int.toNat_natCast]
    rw [hw, if_neg (by omega), if_pos (by omega), if_pos (by omega), cl]
    simp only [Option.bind_some]
    rw [if_pos (by omega), if_pos (by omega), hw2, wsucc (n := 16) hj (by omega)]
  | succ m ih =>
    intro g hm hg h
    have hw : wrap64 ((g : Int) + 1) = ((g + 1 : Nat) : Int) := by unfold wrap64; omega
    have hw2 : wrap64 ((n : Int) + (g : Int)) = ((n + g : Nat) : Int) := by unfold wrap64; omega
    have hd : rd_T43 c ((g + 1 : Nat) : Int) = c.getD (g + 1) z43 := rfl
    by_cases h1 : g + 1 < c.length
    · by_cases h2 : (c.getD (g + 1) z43).f0 ≤ low
      · rw [gone_step c low g ⟨h1, h2⟩] at h
        refine ev_step ⟨0, fun k _ => ?_⟩ (ih (g + 1) (by omega) (by omega) h)
        conv => lhs; simp only [impl_Store_forget.l1]
        rw [hw, if_pos (by omega), if_pos (by omega), hd, if_pos h2]
      · rw [gone_stop c low g (fun h3 => h2 h3.2)] at h
        refine ev_step ⟨0, fun k _ => ?_⟩ h
        simp only [impl_Store_forget.l1, Int.toNat_natCast]
        rw [hw, if_pos (by omega), if_pos (by omega), hd, if_neg h2, if_pos (by omega), if_pos (by omega), cl]
        simp only [Option.bind_some]
        rw [if_pos (by omega), if_pos (by omega), hw2, wsucc (n := 16) hj (by omega)]
    · rw [gone_stop c low g (fun h3 => h1 h3.1)] at h
      refine ev_step ⟨0, fun k _ => ?_⟩ h
      simp only [impl_Store_forget.l1, Int.toNat_natCast]
      rw [hw, if_neg (by omega), if_pos (by omega), if_pos (by omega), cl]
      simp only [Option.bind_some]
      rw [if_pos (by omega), if_pos (by omega), hw2, wsucc (n := 16) hj (by omega)]
theorem impl_forget (cs : List (List S43)) (now low : Int) (hl : cs.length = 16) (hx : ∀ x ∈ cs, x.length ≤ 1048576) : Ev (fun k => impl_Store_forget.f k cs now low) (cs.map (fgt low), now, (tot cs low 16 : Int)) := by
  have key : ∀ d j (ys : List (List S43)), j ≤ 16 → 16 - j = d → ys.length = 16 → (∀ i, i < j → ys[i]? = (cs.map (fgt low))[i]?) → (∀ i, j ≤ i → ys[i]? = cs[i]?) →
      Ev (fun k => impl_Store_forget.l0 k low (tot cs low j : Int) 16 (j : Int) ys now) (cs.map (fgt low), now, (tot cs low 16 : Int)) := by
    intro d
    induction d with
    | zero =>
      intro j ys hj hd hy h1 h2
      obtain rfl : j = 16 := by omega
      have e : ys = cs.map (fgt low) := List.ext_getElem? fun i => by
        by_cases h : i < 16
        · exact h1 i h
        · rw [List.getElem?_eq_none (by omega), List.getElem?_eq_none (by simp; omega)]
      exact ev_now ⟨0, fun k _ => by simp only [impl_Store_forget.l0]; rw [if_neg (by omega), e]⟩
    | succ d ih =>
      intro j ys hj hd hy h1 h2
      have ht := tot_le cs low hx j (by omega)
      have hc := hx _ (row_mem cs j (by omega))
      have hr : rd_L4 ys (j : Int) = cs.getD j [] := by
        show ys.getD j [] = _
        rw [List.getD_eq_getElem?_getD, List.getD_eq_getElem?_getD, h2 j (Nat.le_refl _)]
      have h := ih (j + 1) (ys.set j (fgt low (cs.getD j []))) (by omega) (by omega) (by simp [hy]) (fun i hi => by
        by_cases he : i = j
        · subst he
          rw [List.getElem?_set_self (by omega), List.getElem?_map, List.getElem?_eq_getElem (by omega), List.getD_eq_getElem?_getD, List.getElem?_eq_getElem (by omega)]; rfl
        · rw [List.getElem?_set_ne (by omega)]; exact h1 i (by omega)) (fun i hi => by rw [List.getElem?_set_ne (by omega)]; exact h2 i (by omega))
      rw [tot_next cs low j (by omega)] at h
      refine ev_step ⟨0, fun k _ => ?_⟩ (impl_inner now low (cs.getD j []) hc j (by omega) (tot cs low j) (by omega) ys hy _ _ 0 rfl (by omega) h)
      conv => lhs; simp only [impl_Store_forget.l0]
      rw [if_pos (by omega), if_pos (by omega), if_pos (by omega), hr]
      rfl
  obtain ⟨K1, e1⟩ := ev_at (impl_copy cs now (by omega) hx)
  obtain ⟨K2, e2⟩ := ev_at (key 16 0 cs (by omega) (by omega) hl (fun i hi => by omega) (fun i _ => rfl))
  refine ev_mk (K1 + K2) fun k hk => ?_
  unfold impl_Store_forget.f
  rw [e1 k (by omega)]
  simp only [Option.bind_some, hl]
  exact e2 k (by omega)
theorem ask_forget (cs : List (List S43)) (now low : Int) (hx : ∀ x ∈ cs, x.length ≤ 1048576) :
    ∃ r : List (List S43) × Int × Int × Int, Ev (fun k => spec_Forget.f k cs now low) r ∧ Ev (fun k => impl_Forget.f k cs now low) r ∧ r.1.length ≤ 1048576 ∧ ∀ x ∈ r.1, x.length ≤ 1048576 := by
  obtain ⟨b, e1, e2, hb⟩ := stores_agree cs now hx
  obtain ⟨K1, h1⟩ := ev_at e1
  obtain ⟨K2, h2⟩ := ev_at e2
  cases b with
  | false =>
    refine ⟨([], 0, 0, 1), ev_mk K1 fun k hk => ?_, ev_mk K2 fun k hk => ?_, by simp, by simp⟩
    · unfold spec_Forget.f spec_l06Ask.f; rw [h1 k hk]; simp
    · unfold impl_Forget.f; rw [h2 k hk]; simp
  | true =>
    have hs := hb.1 rfl
    by_cases ht : 0 ≤ low ∧ low ≤ now
    · obtain ⟨K3, h3⟩ := ev_at (spec_forget cs now low hs.1 hx)
      obtain ⟨K4, h4⟩ := ev_at (impl_forget cs now low hs.1 hx)
      refine ⟨(cs.map (fgt low), now, (tot cs low 16 : Int), 0), ev_mk (K1 + K3) fun k hk => ?_, ev_mk (K2 + K4) fun k hk => ?_, by show (cs.map (fgt low)).length ≤ _; rw [List.length_map, hs.1]; omega, fun x hx' => ?_⟩
      · unfold spec_Forget.f spec_l06Ask.f; rw [h1 k (by omega), spec_in, spec_in]
        simp only [Option.bind_some, if_true, decide_eq_true ht, show decide ((0 : Int) ≤ 0 ∧ (0 : Int) ≤ 15) = true by decide]
        rw [h3 k (by omega)]; rfl
      · unfold impl_Forget.f impl_Store_isHour.f; rw [h2 k (by omega), impl_in]
        simp only [Option.bind_some, if_true, decide_eq_true ht]
        rw [h4 k (by omega)]; rfl
      · obtain ⟨c, hc, rfl⟩ := List.mem_map.1 hx'
        exact Nat.le_trans (fgt_len low c) (hx c hc)
    · refine ⟨([], 0, 0, 4), ev_mk K1 fun k hk => ?_, ev_mk K2 fun k hk => ?_, by simp, by simp⟩
      · unfold spec_Forget.f spec_l06Ask.f; rw [h1 k hk, spec_in, spec_in]
        simp only [Option.bind_some, if_true, decide_eq_false ht, show decide ((0 : Int) ≤ 0 ∧ (0 : Int) ≤ 15) = true by decide]
        rfl
      · unfold impl_Forget.f impl_Store_isHour.f; rw [h2 k hk, impl_in]
        simp only [Option.bind_some, if_true, decide_eq_false ht]
        rfl
theorem FnExactForget : laws_FnExactForget.Pure2 := by
  intro y low hy _
  obtain ⟨r, he, hr⟩ := sz_store y 1048576 (by omega) (by omega) hy
  refine Ev.rounds (r := true) ?_
  obtain ⟨K1, h1⟩ := ev_at he
  rcases hr with hr | ⟨_, _, hs⟩
  · exact ev_mk K1 fun k hk => by unfold laws_FnExactForget.f; rw [h1 k hk]; simp only [Option.bind_some]; rw [if_pos hr]
  · obtain ⟨K2, h2⟩ := ev_at (to_store y.f0 y.f1 hs)
    obtain ⟨⟨x, n, g, c⟩, e1, e2, hl', hx'⟩ := ask_forget (cvS y.f0) y.f1 low (small_cv _ hs).2
    obtain ⟨K3, h3⟩ := ev_at e1
    obtain ⟨K4, h4⟩ := ev_at e2
    obtain ⟨K5, h5⟩ := ev_at (eq_store (cvS y.f0) y.f1 (small_cv _ hs).1 (small_cv _ hs).2)
    obtain ⟨K6, h6⟩ := ev_at (eq_store x n hl' hx')
    obtain ⟨m, e7, hm0, hm⟩ := mark_store_arg (cvS y.f0) y.f1 (small_cv _ hs).1 (small_cv _ hs).2
    obtain ⟨K7, h7⟩ := ev_at e7
    obtain ⟨m2, l2, e8, e9, hm2⟩ := mark_store x n hl' hx'
    obtain ⟨K8, h8⟩ := ev_at e8
    obtain ⟨K9, h9⟩ := ev_at e9
    refine ev_mk (K1 + K2 + K3 + K4 + K5 + K6 + K7 + K8 + K9) fun k hk => ?_
    unfold laws_FnExactForget.f
    rw [h1 _ (by omega)]; simp only [Option.bind_some]; rw [if_neg (by omega), h2 _ (by omega)]; simp only [Option.bind_some]
    rw [h3 _ (by omega)]; simp only [Option.bind_some]; rw [h4 _ (by omega)]; simp only [Option.bind_some]
    rw [h6 _ (by omega)]; simp only [Option.bind_some, if_true]; rw [h5 _ (by omega)]; simp only [Option.bind_some, if_true]
    rw [h7 _ (by omega)]; simp only [Option.bind_some]; rw [if_pos (by omega)]
    rw [h8 _ (by omega)]; simp only [Option.bind_some]; rw [h9 _ (by omega)]; simp only [Option.bind_some]; rw [if_pos (by omega)]; simp only [if_true]
    rw [if_pos (by omega)]
end Go.Proofs.Ytfiboooflebdpaa.Pure2
