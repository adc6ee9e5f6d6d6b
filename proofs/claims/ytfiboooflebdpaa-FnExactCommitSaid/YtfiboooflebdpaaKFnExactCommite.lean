/- Texts of the claim on FnExactCommit, gathered by a program of this session: what the program's functions compute (proved by walks), and the plain part. -/
import Derived.Test.YtfiboooflebdpaaKFnExactCommitd
import Derived.Test.YtfiboooflebdpaaKFnExactCommitOpens
import Derived.KernelRfl
namespace Go.Proofs.Ytfiboooflebdpaa.Q
open Go.RowKit Go.Proofs.YtfiboooflebdpaaW.PrintWords Go.Proofs.YtfiboooflebdpaaW.PrintLast Go.Proofs.YtfiboooflebdpaaW.PrintMore
attribute [local go_sem] max2_int min2_int max_two min_two max_three min_three max_four min_four
set_option linter.unusedVariables false
set_option linter.unusedSimpArgs false

def impl_Commit.f (k : Nat) (l0_0 : List (List (S43))) (a0_1 : Int) (a1_0 : Int) (l1_1 : List Int) (l1_2 : List (S58)) : Option ((List (List (S43))) × Int × Int × Int) := (impl_TxnOK.f k l0_0 a0_1 a1_0 l1_1 l1_2).bind fun t104 => (if t104 = true then ((impl_Store_commit.f k l0_0 a0_1 a1_0 l1_1 l1_2).bind fun bt105 => (some (bt105.1, bt105.2.1, bt105.2.2.1, bt105.2.2.2))) else (some (([] : List (List (S43))), 0, 0, 1)))
set_option maxHeartbeats 8000000 in
set_option maxRecDepth 100000 in
theorem impl_Commit.calls (k : Nat) (A0_0 : Option Addr) (c0_0 : Nat) (l0_0 : List (List (S43))) (a0_1 : Int) (a1_0 : Int) (A1_1 : Option Addr) (c1_1 : Nat) (l1_1 : List Int) (A1_2 : Option Addr) (c1_2 : Nat) (l1_2 : List (S58)) (r1 : List (List (S43))) (r2 : Int) (r3 : Int) (r4 : Int) (w : World) (hr0_0 : Kd.C (Kd.slice 43 k43) w A0_0 l0_0.length l0_0) (hc0_0 : l0_0.length ≤ c0_0) (hr1_1 : Kd.C (Kd.int .i64) w A1_1 l1_1.length l1_1) (hc1_1 : l1_1.length ≤ c1_1) (hr1_2 : Kd.C k58 w A1_2 l1_2.length l1_2) (hc1_2 : l1_2.length ≤ c1_2) (h : impl_Commit.f k l0_0 a0_1 a1_0 l1_1 l1_2 = some (r1, r2, r3, r4)) :
  Calls Try.prog 52 #[.agg #[.slice A0_0 l0_0.length c0_0, .int .i64 a0_1], .agg #[.int .i64 a1_0, .slice A1_1 l1_1.length c1_1, .slice A1_2 l1_2.length c1_2]] w fun e w' => ∃ v0_ : Value, e = .returned (.tuple #[.agg #[v0_, .int .i64 r2], .int .i64 r3, .int .i64 r4]) ∧ Kd.S (Kd.slice 43 k43) 41 w' w.heap.size (fun _ => True) v0_ r1 ∧ Below w.heap.size w w' := by
 have hu28 := Try.underlying28; have hu65 := Try.underlying65; have HR0_0 := qO hr0_0; have HC0_0 := qO hc0_0; clear hr0_0 hc0_0; have HR1_1 := qO hr1_1; have HC1_1 := qO hc1_1; clear hr1_1 hc1_1; have HR1_2 := qO hr1_2; have HC1_2 := qO hc1_2; clear hr1_2 hc1_2; have HB := qO (Below.refl w.heap.size w); have H : ((impl_TxnOK.f k l0_0 a0_1 a1_0 l1_1 l1_2).bind fun t104 => (if t104 = true then ((impl_Store_commit.f k l0_0 a0_1 a1_0 l1_1 l1_2).bind fun bt105 => (some (bt105.1, bt105.2.1, bt105.2.2.1, bt105.2.2.2))) else (some (([] : List (List (S43))), 0, 0, 1)))) = some (r1, r2, r3, r4) := h; clear h; replace H := Option.bind_eq_some_iff.mp H; obtain ⟨t104, A30, H⟩ := H; replace H : (if t104 = true then ((impl_Store_commit.f k l0_0 a0_1 a1_0 l1_1 l1_2).bind fun bt105 => (some (bt105.1, bt105.2.1, bt105.2.2.1, bt105.2.2.2))) else (some (([] : List (List (S43))), 0, 0, 1))) = some (r1, r2, r3, r4) := H; have A3 := qO A30; clear A30
 by_cases c4 : t104 = true
 ·subst c4
  have H1 : ((impl_Store_commit.f k l0_0 a0_1 a1_0 l1_1 l1_2).bind fun bt105 => (some (bt105.1, bt105.2.1, bt105.2.2.1, bt105.2.2.2))) = some (r1, r2, r3, r4) := by rw [if_pos rfl] at H; exact H
  clear H; have H := H1; clear H1; replace H := Option.bind_eq_some_iff.mp H; obtain ⟨⟨t105, t108, t109, t110⟩, A50, H⟩ := H; replace H : (some (t105, t108, t109, t110)) = some (r1, r2, r3, r4) := H; have A5 := qO A50; clear A50; simp only [Option.some.injEq, Prod.mk.injEq] at H; obtain ⟨rfl, rfl, rfl, rfl⟩ := H
  go_enter Try.func52, Try.ntmps52
  go_wp2_with (first | ((with_reducible refine gate_dst (N := 2) rfl ?_); refine qX 2 #[.slice A0_0 l0_0.length c0_0, .int .i64 a0_1] 28 ?_; intro gb101 hg w6 hbox hb; have hx_ := qHX HB hb qa0; have BK101 := qO (hbox); have GW101 := qO ((qa9 : w.heap.size ≤ gb101)); have GE101 := GW101; replace HB := qO (below_step (below_step HB.out hx_) hb); clear hx_ hb hbox hg) | ((with_reducible refine gate_dst (N := 3) rfl ?_); refine qX 3 #[.int .i64 a1_0, .slice A1_1 l1_1.length c1_1, .slice A1_2 l1_2.length c1_2] 65 ?_; intro gb102 hg w7 hbox hb; have hx_ := qHX HB hb qa0; have BK102 := qO (hbox); have GW102 := qO ((qa9 : w.heap.size ≤ gb102)); have GE102 := GW102; have NB101_102 := qO ((qa4 : gb101 ≠ gb102)); have NB102_101 := qO (Ne.symm NB101_102.out); replace BK101 := qO (qB BK101.out hx_ hb); replace HB := qO (below_step (below_step HB.out hx_) hb); clear hx_ hb hbox hg) | ((with_reducible refine gate_dst (N := 4) rfl ?_); refine qX 4 #[.slice none 0 0, .int .i64 0] 28 ?_; intro gb103 hg w8 hbox hb; have hx_ := qHX HB hb qa0; have BK103 := qO (hbox); have GW103 := qO ((qa9 : w.heap.size ≤ gb103)); have GE103 := GW103; have NB101_103 := qO ((qa4 : gb101 ≠ gb103)); have NB103_101 := qO (Ne.symm NB101_103.out); have NB102_103 := qO ((qa20 : gb102 ≠ gb103)); have NB103_102 := qO (Ne.symm NB102_103.out); replace BK101 := qO (qB BK101.out hx_ hb); replace BK102 := qO (qB BK102.out hx_ hb); replace HB := qO (below_step (below_step HB.out hx_) hb); clear hx_ hb hbox hg; have hnb9 := NB101_102.out; have hnc9 := NB102_101.out; have hnb10 := NB101_103.out; have hnc10 := NB103_101.out; obtain ⟨hcz11_0, hcz11_1, hfz11_0, hfz11_1⟩ := qb2 BK101.out; have hnb12 := NB102_103.out; have hnc12 := NB103_102.out; obtain ⟨hcz13_0, hcz13_1, hcz13_2, hfz13_0, hfz13_1, hfz13_2⟩ := qb3 BK102.out) | ((with_reducible refine gate_callee (f := 42) rfl ?_); refine goesL_ (some 9) rfl rfl Try.func42 qa5 rfl #[.agg #[.slice A0_0 l0_0.length c0_0, .int .i64 a0_1], .agg #[.int .i64 a1_0, .slice A1_1 l1_1.length c1_1, .slice A1_2 l1_2.length c1_2]] rfl qa3 ?_; (with_reducible refine (impl_TxnOK.calls k _ _ l0_0 a0_1 a1_0 _ _ l1_1 _ _ l1_2 true _ ?side1 ?side2 ?side3 ?side4 ?side5 ?side6 A3.out).mono ?_); (case side1 => exact qa18); (case side2 => exact HC0_0.out); (case side3 => exact qa37); (case side4 => exact HC1_1.out); (case side5 => exact qa38); (case side6 => exact HC1_2.out); rintro e w14 ⟨rfl, hb⟩; have hx_ := qHX HB hb qa0; refine ⟨_, rfl, ?_⟩; replace BK101 := qO (qB BK101.out hx_ hb); replace BK102 := qO (qB BK102.out hx_ hb); replace BK103 := qO (qB BK103.out hx_ hb); replace HB := qO (below_step (below_step HB.out hx_) hb); clear hx_; (try clear hb); (try clear hb2); (try clear hk); (try clear hi); obtain ⟨hcz15_0, hcz15_1, hfz15_0, hfz15_1⟩ := qb2 BK101.out; obtain ⟨hcz16_0, hcz16_1, hcz16_2, hfz16_0, hfz16_1, hfz16_2⟩ := qb3 BK102.out) | ((with_reducible refine gate_callee (f := 99) rfl ?_); refine goesL_ (some 14) rfl rfl Try.func99 qa5 rfl #[.agg #[.slice A0_0 l0_0.length c0_0, .int .i64 a0_1], .agg #[.int .i64 a1_0, .slice A1_1 l1_1.length c1_1, .slice A1_2 l1_2.length c1_2]] rfl qa3 ?_; (with_reducible refine (impl_Store_commit.calls k _ _ l0_0 a0_1 a1_0 _ _ l1_1 _ _ l1_2 t105 t108 t109 t110 _ ?side1 ?side2 ?side3 ?side4 ?side5 ?side6 A5.out).mono ?_); (case side1 => exact qa18); (case side2 => exact HC0_0.out); (case side3 => exact qa37); (case side4 => exact HC1_1.out); (case side5 => exact qa38); (case side6 => exact HC1_2.out); rintro e w17 ⟨v106, rfl, ho0, hb⟩; have hx_ := qHX HB hb qa0; refine ⟨_, rfl, ?_⟩; have HO107 := qO (Kd.S_lower ho0 (below_size (below_step HB.out hx_))); replace BK101 := qO (qB BK101.out hx_ hb); replace BK102 := qO (qB BK102.out hx_ hb); replace BK103 := qO (qB BK103.out hx_ hb); replace HB := qO (below_step (below_step HB.out hx_) hb); clear hx_; (try clear hb); (try clear hb2); (try clear hk); (try clear hi); (try clear ho0); obtain ⟨Ao18, co18, eo18⟩ := Kd.S_slice HO107.out; subst eo18; obtain ⟨hcz19_0, hcz19_1, hfz19_0, hfz19_1⟩ := qb2 BK103.out))
  refine bodyPost_ret (results_ctt rfl _ _ gb103 28 #[.slice Ao18 t105.length co18, .int .i64 t108] (0, 0) _ rfl (by (with_reducible repeat (first | refine qkN ?_ _ | refine qkD ?_ | refine qkA ?_ _)); refine blk_put (cs := #[.slice Ao18 t105.length co18, .int .i64 0]) ?_ 1 _ rfl; (with_reducible repeat (first | refine qkN ?_ _ | refine qkD ?_ | refine qkA ?_ _)); refine blk_put (cs := #[.slice none 0 0, .int .i64 0]) ?_ 0 _ rfl; (with_reducible repeat (first | refine qkN ?_ _ | refine qkD ?_ | refine qkA ?_ _)); exact BK103.out) Try.underlying28 rfl qa5) rfl ?_
  exact ⟨_, qa7, by (with_reducible repeat (first | apply Kd.S_alloc | apply Kd.S_drewN | apply Kd.S_drew)); exact Kd.S_mono (Kd.S_far (p := ⟨gb103, 1, none⟩) (Kd.S_far (p := ⟨gb103, 0, none⟩) (Kd.S_types HO107.out BK103.out (by decide)) (fun _ hk => hk.2) (.slice Ao18 t105.length co18)) (fun _ hk => hk.2) (.int .i64 t108)) (fun _ hk => trivial), qa19⟩
 ·replace c4 := Bool.eq_false_iff.mpr c4
  subst c4; have H1 : (some (([] : List (List (S43))), 0, 0, 1)) = some (r1, r2, r3, r4) := by rw [if_neg (show ¬ (false = true) by decide)] at H; exact H
  clear H; have H := H1; clear H1; simp only [Option.some.injEq, Prod.mk.injEq] at H; obtain ⟨rfl, rfl, rfl, rfl⟩ := H
  go_enter Try.func52, Try.ntmps52
  go_wp2_with (first | ((with_reducible refine gate_dst (N := 2) rfl ?_); refine qX 2 #[.slice A0_0 l0_0.length c0_0, .int .i64 a0_1] 28 ?_; intro gb101 hg w20 hbox hb; have hx_ := qHX HB hb qa0; have BK101 := qO (hbox); have GW101 := qO ((qa9 : w.heap.size ≤ gb101)); have GE101 := GW101; replace HB := qO (below_step (below_step HB.out hx_) hb); clear hx_ hb hbox hg) | ((with_reducible refine gate_dst (N := 3) rfl ?_); refine qX 3 #[.int .i64 a1_0, .slice A1_1 l1_1.length c1_1, .slice A1_2 l1_2.length c1_2] 65 ?_; intro gb102 hg w21 hbox hb; have hx_ := qHX HB hb qa0; have BK102 := qO (hbox); have GW102 := qO ((qa9 : w.heap.size ≤ gb102)); have GE102 := GW102; have NB101_102 := qO ((qa4 : gb101 ≠ gb102)); have NB102_101 := qO (Ne.symm NB101_102.out); replace BK101 := qO (qB BK101.out hx_ hb); replace HB := qO (below_step (below_step HB.out hx_) hb); clear hx_ hb hbox hg) | ((with_reducible refine gate_dst (N := 4) rfl ?_); refine qX 4 #[.slice none 0 0, .int .i64 0] 28 ?_; intro gb103 hg w22 hbox hb; have hx_ := qHX HB hb qa0; have BK103 := qO (hbox); have GW103 := qO ((qa9 : w.heap.size ≤ gb103)); have GE103 := GW103; have NB101_103 := qO ((qa4 : gb101 ≠ gb103)); have NB103_101 := qO (Ne.symm NB101_103.out); have NB102_103 := qO ((qa20 : gb102 ≠ gb103)); have NB103_102 := qO (Ne.symm NB102_103.out); replace BK101 := qO (qB BK101.out hx_ hb); replace BK102 := qO (qB BK102.out hx_ hb); replace HB := qO (below_step (below_step HB.out hx_) hb); clear hx_ hb hbox hg; have hnb23 := NB101_102.out; have hnc23 := NB102_101.out; have hnb24 := NB101_103.out; have hnc24 := NB103_101.out; obtain ⟨hcz25_0, hcz25_1, hfz25_0, hfz25_1⟩ := qb2 BK101.out; have hnb26 := NB102_103.out; have hnc26 := NB103_102.out; obtain ⟨hcz27_0, hcz27_1, hcz27_2, hfz27_0, hfz27_1, hfz27_2⟩ := qb3 BK102.out) | ((with_reducible refine gate_callee (f := 42) rfl ?_); refine goesL_ (some 9) rfl rfl Try.func42 qa5 rfl #[.agg #[.slice A0_0 l0_0.length c0_0, .int .i64 a0_1], .agg #[.int .i64 a1_0, .slice A1_1 l1_1.length c1_1, .slice A1_2 l1_2.length c1_2]] rfl qa3 ?_; (with_reducible refine (impl_TxnOK.calls k _ _ l0_0 a0_1 a1_0 _ _ l1_1 _ _ l1_2 false _ ?side1 ?side2 ?side3 ?side4 ?side5 ?side6 A3.out).mono ?_); (case side1 => exact qa18); (case side2 => exact HC0_0.out); (case side3 => exact qa37); (case side4 => exact HC1_1.out); (case side5 => exact qa38); (case side6 => exact HC1_2.out); rintro e w28 ⟨rfl, hb⟩; have hx_ := qHX HB hb qa0; refine ⟨_, rfl, ?_⟩; replace BK101 := qO (qB BK101.out hx_ hb); replace BK102 := qO (qB BK102.out hx_ hb); replace BK103 := qO (qB BK103.out hx_ hb); replace HB := qO (below_step (below_step HB.out hx_) hb); clear hx_; (try clear hb); (try clear hb2); (try clear hk); (try clear hi); obtain ⟨hcz29_0, hcz29_1, hfz29_0, hfz29_1⟩ := qb2 BK103.out))
  refine bodyPost_ret (results_ctt rfl _ _ gb103 28 #[.slice none 0 0, .int .i64 0] (0, 0) _ rfl qa56 Try.underlying28 rfl qa5) rfl ?_
  exact ⟨_, qa7, qa129, qa19⟩


theorem lw10_iv {W W' : World} {n : Nat} (hn : n ≤ W.heap.size) (hb : W.heap.size ≤ W'.heap.size) : ∃ lo hi, lo = W.heap.size ∧ hi = W'.heap.size ∧ (n ≤ lo ∧ lo ≤ hi) := ⟨_, _, rfl, rfl, hn, hb⟩
theorem lw10_need {α : Type} {p : Prop} [Decidable p] {X : Option α} {r : α} (h : (if p then X else none) = some r) : p ∧ X = some r := by
 by_cases c : p
 ·rw [if_pos c] at h; exact ⟨c, h⟩
 ·rw [if_neg c] at h; cases h
def lw10_sets (g : Nat) : Nat → List Value → World → World
 | _, [], w => w
 | j, v :: vs, w => lw10_sets g (j + 1) vs (w.setCell ⟨g, j, none⟩ v)
def lw10_all : Nat → List Value → Array Value → Array Value
 | _, [], cs => cs
 | j, v :: vs, cs => lw10_all (j + 1) vs (cs.setIfInBounds j v)
theorem lw10_sets_heap {g t : Nat} : ∀ (vs : List Value) (j : Nat) (cs : Array Value) (w : World), w.heap[g]? = some (.cells cs t (0, 0)) → (lw10_sets g j vs w).heap[g]? = some (.cells (lw10_all j vs cs) t (0, 0))
 | [], _, _, _, h => h
 | v :: vs, j, cs, w, h => lw10_sets_heap vs (j + 1) _ _ (blk_set h j v)
theorem lw10_sets_kept {g : Nat} : ∀ (vs : List Value) (j : Nat) (w : World), Kept w (lw10_sets g j vs w) (fun k_ => g ≤ k_ ∧ k_ < g + 1)
 | [], _, w => Kept.refl w _
 | v :: vs, j, w => Kept.then_ (Kept.setCell (Kept.refl w _) (.inl (show g ≤ g ∧ g < g + 1 from ⟨Nat.le_refl _, Nat.lt_succ_self _⟩)) v) (lw10_sets_kept vs (j + 1) _) (fun _ h => .inl h)
theorem lw10_sets_below {g : Nat} {w0 : World} (hg : w0.heap.size ≤ g) : ∀ (vs : List Value) (j : Nat) (w : World), Below w0.heap.size w0 w → Below w0.heap.size w0 (lw10_sets g j vs w)
 | [], _, _, h => h
 | v :: vs, j, w, h => lw10_sets_below hg vs (j + 1) _ (qbS h hg)
theorem lw10_store {P : Program} {ops : Array Oper} {o : Oper} {a : Act} {Q : Exit → Act → World → Prop} {Kc : Act → World → Prop} {w0 W : World} (g t : Nat) (vs : List Value) (cs : Array Value) (hw : Region.wanted o (yielded ops a.tmps) = true) (hN : o.dst = none)
  (hrun : (execOp a.eval o).run P W = .ok .skip (lw10_sets g 0 vs W)) (hg : w0.heap.size ≤ g) (HB : Below w0.heap.size w0 W) (hb : W.heap[g]? = some (.cells cs t (0, 0)))
  (h : ∀ w1, w1.heap[g]? = some (.cells (lw10_all 0 vs cs) t (0, 0)) → Kept W w1 (fun k_ => g ≤ k_ ∧ k_ < g + 1) → Below w0.heap.size w0 w1 → Kc a w1) : if Region.wanted o (yielded ops a.tmps) = true then Oper.wp P o a W Kc Q else Kc (a.put none undef) W := by
 rw [if_pos hw]
 unfold Oper.wp
 rw [hrun]
 show Kc (a.put o.dst undef) _
 rw [hN]
 exact h _ (lw10_sets_heap vs 0 cs W hb) (lw10_sets_kept vs 0 W) (lw10_sets_below hg vs 0 W HB)
theorem lw10_no {lo hi a b k : Nat} (h1 : lo ≤ k ∧ k < hi) (h2 : a ≤ k ∧ k < b) (h : hi ≤ a ∨ b ≤ lo) : False := by omega
theorem lw10_no2 {lo hi a b c d k : Nat} (h1 : lo ≤ k ∧ k < hi) (h2 : (a ≤ k ∧ k < b) ∨ (c ≤ k ∧ k < d)) (h : (hi ≤ a ∨ b ≤ lo) ∧ (hi ≤ c ∨ d ≤ lo)) : False := by omega
theorem lw10_no3 {lo hi a b c d x y k : Nat} (h1 : lo ≤ k ∧ k < hi) (h2 : (a ≤ k ∧ k < b) ∨ (c ≤ k ∧ k < d) ∨ (x ≤ k ∧ k < y)) (h : (hi ≤ a ∨ b ≤ lo) ∧ (hi ≤ c ∨ d ≤ lo) ∧ (hi ≤ x ∨ y ≤ lo)) : False := by omega
theorem lw10_on {lo hi c d a b k : Nat} (h1 : (lo ≤ k ∧ k < hi) ∨ (c ≤ k ∧ k < d)) (h2 : a ≤ k ∧ k < b) (h : (hi ≤ a ∨ b ≤ lo) ∧ (d ≤ a ∨ b ≤ c)) : False := by omega
theorem lw10_on2 {lo hi c d a b x y k : Nat} (h1 : (lo ≤ k ∧ k < hi) ∨ (c ≤ k ∧ k < d)) (h2 : (a ≤ k ∧ k < b) ∨ (x ≤ k ∧ k < y)) (h : ((hi ≤ a ∨ b ≤ lo) ∧ (d ≤ a ∨ b ≤ c)) ∧ ((hi ≤ x ∨ y ≤ lo) ∧ (d ≤ x ∨ y ≤ c))) : False := by omega
theorem lw10_ivk {W W' : World} {S : Nat → Prop} {n : Nat} (hk : Kept W W' S) (hn : n ≤ W.heap.size) : ∃ lo hi, lo = W.heap.size ∧ hi = W'.heap.size ∧ (n ≤ lo ∧ lo ≤ hi) := ⟨_, _, rfl, rfl, hn, hk.1⟩
theorem lw10_hx {w0 W wn : World} (_hb : Below W.heap.size W wn) (hx : Below w0.heap.size w0 W) : Below w0.heap.size w0 W := hx
theorem lw10_bind {α β : Type} {X : Option α} {f : α → Option β} {r : β} (h : X.bind f = some r) : ∃ x, X = some x ∧ f x = some r := Option.bind_eq_some_iff.mp h
theorem lw10_draw {P : Program} {Q : Exit → Act → World → Prop} {id : Nat} {ops : Array Oper} {a : Act} {W : World} (h : ∀ w1, w1 = W → Below W.heap.size W w1 → (Code.region id ops true).wp P Q a w1) : (Code.region id ops true).wp P Q a W := h W rfl (Below.refl _ _)
theorem lw10_lt {W w' : World} {g : Nat} {o : Obj} (hb : Below W.heap.size W w') (h : W.heap[g]? = some o) : g + 1 ≤ W.heap.size ∧ w'.heap[g]? = some o := ⟨blk_lt h, blk_below h hb⟩
def laws_FnExactCommit.f (k : Nat) (l0_0 : List (List (S141))) (a0_1 : Int) (a1_0 : Int) (l1_1 : List Int) (l1_2 : List (S76)) : Option (Bool) := ((laws_szStore.f k l0_0 a0_1 1048576).bind fun b0_ => (if b0_ < 0 then (some true) else ((laws_szTxn.f a1_0 l1_1 l1_2 b0_).bind fun b2_ => (if b2_ < 0 then (some true) else ((laws_toStore.f k l0_0 a0_1).bind fun b4_ => ((laws_toTxn.f k a1_0 l1_1 l1_2).bind fun b5_ => ((spec_Commit.f k b4_.1 b4_.2 b5_.1 b5_.2.1 b5_.2.2).bind fun b6_ => ((laws_toStore.f k l0_0 a0_1).bind fun b7_ => ((laws_toTxn.f k a1_0 l1_1 l1_2).bind fun b8_ => ((impl_Commit.f k b7_.1 b7_.2 b8_.1 b8_.2.1 b8_.2.2).bind fun b9_ => ((laws_eqStore.f k b9_.1 b9_.2.1 b6_.1 b6_.2.1).bind fun b10_ => (if b10_ = true then (if b9_.2.2.1 = b6_.2.2.1 then (if b9_.2.2.2 = b6_.2.2.2 then ((laws_toStore.f k l0_0 a0_1).bind fun b14_ => ((laws_eqStore.f k b7_.1 b7_.2 b14_.1 b14_.2).bind fun b15_ => (if b15_ = true then ((laws_toTxn.f k a1_0 l1_1 l1_2).bind fun b17_ => ((laws_eqTxn.f k b8_.1 b8_.2.1 b8_.2.2 b17_.1 b17_.2.1 b17_.2.2).bind fun b18_ => (if b18_ = true then ((laws_markStore.f k b7_.1 b7_.2 1).bind fun b20_ => ((laws_markTxn.f k b8_.1 b8_.2.1 b8_.2.2 b20_.1).bind fun b21_ => (if ¬ (b21_.1 < 0) then ((laws_eqStore.f k b9_.1 b9_.2.1 b6_.1 b6_.2.1).bind fun b23_ => (if b23_ = true then ((laws_markStore.f k b9_.1 b9_.2.1 1).bind fun b25_ => ((laws_heldStore.f k b25_.2 b9_.2.1 1).bind fun b26_ => (if ¬ (b26_ < 0) then (if b26_ = b25_.1 then ((laws_toStore.f k l0_0 a0_1).bind fun b29_ => ((laws_toTxn.f k a1_0 l1_1 l1_2).bind fun b30_ => ((impl_Commit.f k b29_.1 b29_.2 b30_.1 b30_.2.1 b30_.2.2).bind fun b31_ => ((laws_eqStore.f k b31_.1 b31_.2.1 b6_.1 b6_.2.1).bind fun b32_ => (if b32_ = true then (if b31_.2.2.1 = b6_.2.2.1 then (if b31_.2.2.2 = b6_.2.2.2 then ((laws_heldStore.f k b25_.2 b9_.2.1 1).bind fun b36_ => (if ¬ (b36_ < 0) then (if b36_ = b25_.1 then (some true) else (none)) else (none))) else (none)) else (none)) else (none)))))) else (none)) else (none)))) else (none))) else (none)))) else (none)))) else (none)))) else (none)) else (none)) else (none)))))))))))))
def laws_FnExactCommit.y0 := #[qf,qf,qf,qf,qf,qf,qf,qf,qf,qf,qf,qf,qf]
def laws_FnExactCommit.y1 := #[qt,qf,qf,qf,qf,qf,qf,qf,qf,qf,qf,qf,qf]
def laws_FnExactCommit.y2 := #[qt,qf,qt,qf,qf,qf,qf,qf,qf,qf,qf,qf,qf]
def laws_FnExactCommit.y3 := #[qt,qt,qt,qt,qt,qt,qt,qt,qt,qt,qf,qf,qf]
def laws_FnExactCommit.y4 := #[qt,qt,qt,qf,qf,qf,qf,qf,qf,qf,qf,qf,qf]
def laws_FnExactCommit.y5 := #[qt,qf,qt,qf,qf,qf,qf,qf,qf,qt,qf,qf,qf]
def laws_FnExactCommit.y6 := #[qt,qt,qt,qt,qf,qf,qf,qf,qf,qf,qf,qf,qf]
def laws_FnExactCommit.y7 := #[qt,qt,qt,qf,qf,qf,qf,qf,qf,qt,qf,qf,qf]
def laws_FnExactCommit.y8 := #[qt,qt,qt,qt,qt,qf,qf,qf,qf,qf,qf,qf,qf]
def laws_FnExactCommit.y9 := #[qt,qt,qt,qt,qf,qf,qf,qf,qf,qt,qf,qf,qf]
def laws_FnExactCommit.y10 := #[qt,qt,qt,qt,qt,qt,qf,qf,qf,qf,qf,qf,qf]
def laws_FnExactCommit.y11 := #[qt,qt,qt,qt,qt,qt,qt,qf,qf,qf,qf,qf,qf]
def laws_FnExactCommit.y12 := #[qt,qt,qt,qt,qt,qt,qt,qt,qf,qf,qf,qf,qf]
def laws_FnExactCommit.y13 := #[qt,qt,qt,qt,qt,qt,qt,qt,qt,qf,qf,qf,qf]
def laws_FnExactCommit.y14 := #[qt,qt,qt,qt,qt,qf,qf,qf,qf,qt,qf,qf,qf]
def laws_FnExactCommit.y15 := #[qt,qt,qt,qt,qt,qt,qf,qf,qf,qt,qf,qf,qf]
def laws_FnExactCommit.y16 := #[qt,qt,qt,qt,qt,qt,qt,qf,qf,qt,qf,qf,qf]
def laws_FnExactCommit.y17 := #[qt,qt,qt,qt,qt,qt,qt,qt,qf,qt,qf,qf,qf]
def laws_FnExactCommit.y18 := #[qt,qt,qt,qt,qt,qt,qt,qt,qt,qt,qt,qf,qf]
def laws_FnExactCommit.y19 := #[qt,qt,qt,qt,qt,qt,qt,qt,qt,qt,qt,qt,qf]
def laws_FnExactCommit.y20 := #[qt,qt,qt,qt,qt,qt,qt,qt,qt,qt,qt,qt,qt]
set_option maxHeartbeats 8000000 in
set_option maxRecDepth 100000 in
theorem laws_FnExactCommit.calls (k : Nat) (A0_0 : Option Addr) (c0_0 : Nat) (l0_0 : List (List (S141))) (a0_1 : Int) (a1_0 : Int) (A1_1 : Option Addr) (c1_1 : Nat) (l1_1 : List Int) (A1_2 : Option Addr) (c1_2 : Nat) (l1_2 : List (S76)) (r : Bool) (w : World) (hr0_0 : Kd.C (Kd.slice 141 k141) w A0_0 l0_0.length l0_0) (hc0_0 : l0_0.length ≤ c0_0) (hr1_1 : Kd.C (Kd.int .i64) w A1_1 l1_1.length l1_1) (hc1_1 : l1_1.length ≤ c1_1) (hr1_2 : Kd.C k76 w A1_2 l1_2.length l1_2) (hc1_2 : l1_2.length ≤ c1_2) (h : laws_FnExactCommit.f k l0_0 a0_1 a1_0 l1_1 l1_2 = some r) :
  Calls Try.prog 10 #[.agg #[.slice A0_0 l0_0.length c0_0, .int .i64 a0_1], .agg #[.int .i64 a1_0, .slice A1_1 l1_1.length c1_1, .slice A1_2 l1_2.length c1_2]] w fun e w' => e = .returned (.bool r) ∧ Below w.heap.size w w' := by
 have hu24 := Try.underlying24; have hu75 := Try.underlying75; have hu28 := Try.underlying28; have hu65 := Try.underlying65; have HR0_0 := qO hr0_0; have HC0_0 := qO hc0_0; clear hr0_0 hc0_0; have HR1_1 := qO hr1_1; have HC1_1 := qO hc1_1; clear hr1_1 hc1_1; have HR1_2 := qO hr1_2; have HC1_2 := qO hc1_2; clear hr1_2 hc1_2; have HB := qO (Below.refl w.heap.size w); have HX := qO (Below.refl w.heap.size w); have HN := qO (Nat.le_refl w.heap.size); have H : ((laws_szStore.f k l0_0 a0_1 1048576).bind fun b0_ => (if b0_ < 0 then (some true) else ((laws_szTxn.f a1_0 l1_1 l1_2 b0_).bind fun b2_ => (if b2_ < 0 then (some true) else ((laws_toStore.f k l0_0 a0_1).bind fun b4_ => ((laws_toTxn.f k a1_0 l1_1 l1_2).bind fun b5_ => ((spec_Commit.f k b4_.1 b4_.2 b5_.1 b5_.2.1 b5_.2.2).bind fun b6_ => ((laws_toStore.f k l0_0 a0_1).bind fun b7_ => ((laws_toTxn.f k a1_0 l1_1 l1_2).bind fun b8_ => ((impl_Commit.f k b7_.1 b7_.2 b8_.1 b8_.2.1 b8_.2.2).bind fun b9_ => ((laws_eqStore.f k b9_.1 b9_.2.1 b6_.1 b6_.2.1).bind fun b10_ => (if b10_ = true then (if b9_.2.2.1 = b6_.2.2.1 then (if b9_.2.2.2 = b6_.2.2.2 then ((laws_toStore.f k l0_0 a0_1).bind fun b14_ => ((laws_eqStore.f k b7_.1 b7_.2 b14_.1 b14_.2).bind fun b15_ => (if b15_ = true then ((laws_toTxn.f k a1_0 l1_1 l1_2).bind fun b17_ => ((laws_eqTxn.f k b8_.1 b8_.2.1 b8_.2.2 b17_.1 b17_.2.1 b17_.2.2).bind fun b18_ => (if b18_ = true then ((laws_markStore.f k b7_.1 b7_.2 1).bind fun b20_ => ((laws_markTxn.f k b8_.1 b8_.2.1 b8_.2.2 b20_.1).bind fun b21_ => (if ¬ (b21_.1 < 0) then ((laws_eqStore.f k b9_.1 b9_.2.1 b6_.1 b6_.2.1).bind fun b23_ => (if b23_ = true then ((laws_markStore.f k b9_.1 b9_.2.1 1).bind fun b25_ => ((laws_heldStore.f k b25_.2 b9_.2.1 1).bind fun b26_ => (if ¬ (b26_ < 0) then (if b26_ = b25_.1 then ((laws_toStore.f k l0_0 a0_1).bind fun b29_ => ((laws_toTxn.f k a1_0 l1_1 l1_2).bind fun b30_ => ((impl_Commit.f k b29_.1 b29_.2 b30_.1 b30_.2.1 b30_.2.2).bind fun b31_ => ((laws_eqStore.f k b31_.1 b31_.2.1 b6_.1 b6_.2.1).bind fun b32_ => (if b32_ = true then (if b31_.2.2.1 = b6_.2.2.1 then (if b31_.2.2.2 = b6_.2.2.2 then ((laws_heldStore.f k b25_.2 b9_.2.1 1).bind fun b36_ => (if ¬ (b36_ < 0) then (if b36_ = b25_.1 then (some true) else (none)) else (none))) else (none)) else (none)) else (none)))))) else (none)) else (none)))) else (none))) else (none)))) else (none)))) else (none)))) else (none)) else (none)) else (none))))))))))))) = some r := h; clear h; obtain ⟨t9, A0_, H⟩ := lw10_bind H; (try dsimp only at H); have A10 := qO A0_; clear A0_
 by_cases c1 : t9 < 0
 ·rw [if_pos c1] at H
  have c1b : decide (t9 < 0) = true := decide_eq_true c1; clear c1; obtain rfl := Option.some.inj H
  go_enter Try.func10, Try.ntmps10
  go_wp2_with (first | ((with_reducible refine gate_dst (N := 2) rfl ?_); refine qX 2 #[.slice A0_0 l0_0.length c0_0, .int .i64 a0_1] 24 ?_; intro gb1 hg w2 hbox hb; have hx_ := lw10_hx hb qa25; have hbt := below_step hx_ hb; obtain ⟨lo4, hi4, hl_, hh_, hc_⟩ := lw10_iv (Nat.le_trans HN.out (below_size hx_)) hb.size; have CHlo4 := qO (show w.heap.size ≤ lo4 ∧ lo4 ≤ hi4 from hc_); clear hc_; have BK3 := qO (hbox); replace HN := qO ((show hi4 ≤ w2.heap.size from Nat.le_of_eq hh_)); replace HB := qO (below_step HB.out hbt); replace HX := qO (Below.refl w2.heap.size w2); have IVgb1 := qO (show lo4 ≤ gb1 ∧ gb1 < hi4 from ⟨Nat.le_of_eq (hl_.trans hg.symm), qa137⟩); clear hb hbt hx_ hl_ hh_ hg hbox; skip) | ((with_reducible refine gate_dst (N := 3) rfl ?_); refine qX 3 #[.int .i64 a1_0, .slice A1_1 l1_1.length c1_1, .slice A1_2 l1_2.length c1_2] 75 ?_; intro gb5 hg w6 hbox hb; have hx_ := lw10_hx hb qa25; have hbt := below_step hx_ hb; obtain ⟨lo8, hi8, hl_, hh_, hc_⟩ := lw10_iv (Nat.le_trans HN.out (below_size hx_)) hb.size; have CHlo8 := qO (show hi4 ≤ lo8 ∧ lo8 ≤ hi8 from hc_); clear hc_; replace BK3 := qO (blk_below (g := gb1) BK3.out hbt); have BK7 := qO (hbox); replace HN := qO ((show hi8 ≤ w6.heap.size from Nat.le_of_eq hh_)); replace HB := qO (below_step HB.out hbt); replace HX := qO (Below.refl w6.heap.size w6); have IVgb5 := qO (show lo8 ≤ gb5 ∧ gb5 < hi8 from ⟨Nat.le_of_eq (hl_.trans hg.symm), qa137⟩); clear hb hbt hx_ hl_ hh_ hg hbox; have hcz1_0_BK3 := qc0 BK3.out; have hcz1_1_BK3 := qc1 BK3.out) | ((with_reducible refine gate_callee (f := 11) rfl ?_); refine goesL_ (some 22) rfl rfl Try.func11 qa5 rfl #[.agg #[.slice A0_0 l0_0.length c0_0, .int .i64 a0_1], .int .i64 1048576] rfl qa26 ?_; (with_reducible refine (laws_szStore.calls k _ _ l0_0 a0_1 1048576 t9 _ ?side1 ?side2 A10.out).mono ?_); (case side1 => exact qa101); (case side2 => exact HC0_0.out); rintro e w11 ⟨rfl, hb⟩; refine ⟨_, rfl, ?_⟩; have hx_ := lw10_hx hb qa25; have hbt := below_step hx_ hb; replace BK3 := qO (blk_below (g := gb1) BK3.out hbt); replace BK7 := qO (blk_below (g := gb5) BK7.out hbt); replace HN := qO (Nat.le_trans (Nat.le_trans HN.out (below_size hx_)) hb.size); replace HB := qO (below_step HB.out hbt); replace HX := qO (Below.refl w11.heap.size w11); clear hb hbt hx_; have hcz2_0_BK7 := qc0 BK7.out; have hcz2_1_BK7 := qc1 BK7.out; have hcz2_2_BK7 := qc2 BK7.out))
  go_ret
  exact ⟨by first | rfl | (simp [*]; done), below_step HB.out qa25⟩
 ·rw [if_neg c1] at H
  have c1b : decide (t9 < 0) = false := decide_eq_false c1; clear c1; obtain ⟨t13, A0_, H⟩ := lw10_bind H; (try dsimp only at H); have A14 := qO A0_; clear A0_
  by_cases c3 : t13 < 0
  ·rw [if_pos c3] at H
   have c3b : decide (t13 < 0) = true := decide_eq_true c3; clear c3; obtain rfl := Option.some.inj H
   go_enter Try.func10, Try.ntmps10
   go_wp2_with (first | ((with_reducible refine gate_dst (N := 2) rfl ?_); refine qX 2 #[.slice A0_0 l0_0.length c0_0, .int .i64 a0_1] 24 ?_; intro gb1 hg w2 hbox hb; have hx_ := lw10_hx hb qa25; have hbt := below_step hx_ hb; obtain ⟨lo4, hi4, hl_, hh_, hc_⟩ := lw10_iv (Nat.le_trans HN.out (below_size hx_)) hb.size; have CHlo4 := qO (show w.heap.size ≤ lo4 ∧ lo4 ≤ hi4 from hc_); clear hc_; have BK3 := qO (hbox); replace HN := qO ((show hi4 ≤ w2.heap.size from Nat.le_of_eq hh_)); replace HB := qO (below_step HB.out hbt); replace HX := qO (Below.refl w2.heap.size w2); have IVgb1 := qO (show lo4 ≤ gb1 ∧ gb1 < hi4 from ⟨Nat.le_of_eq (hl_.trans hg.symm), qa137⟩); clear hb hbt hx_ hl_ hh_ hg hbox; skip) | ((with_reducible refine gate_dst (N := 3) rfl ?_); refine qX 3 #[.int .i64 a1_0, .slice A1_1 l1_1.length c1_1, .slice A1_2 l1_2.length c1_2] 75 ?_; intro gb5 hg w6 hbox hb; have hx_ := lw10_hx hb qa25; have hbt := below_step hx_ hb; obtain ⟨lo8, hi8, hl_, hh_, hc_⟩ := lw10_iv (Nat.le_trans HN.out (below_size hx_)) hb.size; have CHlo8 := qO (show hi4 ≤ lo8 ∧ lo8 ≤ hi8 from hc_); clear hc_; replace BK3 := qO (blk_below (g := gb1) BK3.out hbt); have BK7 := qO (hbox); replace HN := qO ((show hi8 ≤ w6.heap.size from Nat.le_of_eq hh_)); replace HB := qO (below_step HB.out hbt); replace HX := qO (Below.refl w6.heap.size w6); have IVgb5 := qO (show lo8 ≤ gb5 ∧ gb5 < hi8 from ⟨Nat.le_of_eq (hl_.trans hg.symm), qa137⟩); clear hb hbt hx_ hl_ hh_ hg hbox; have hcz1_0_BK3 := qc0 BK3.out; have hcz1_1_BK3 := qc1 BK3.out) | ((with_reducible refine gate_callee (f := 11) rfl ?_); refine goesL_ (some 22) rfl rfl Try.func11 qa5 rfl #[.agg #[.slice A0_0 l0_0.length c0_0, .int .i64 a0_1], .int .i64 1048576] rfl qa26 ?_; (with_reducible refine (laws_szStore.calls k _ _ l0_0 a0_1 1048576 t9 _ ?side1 ?side2 A10.out).mono ?_); (case side1 => exact qa101); (case side2 => exact HC0_0.out); rintro e w11 ⟨rfl, hb⟩; refine ⟨_, rfl, ?_⟩; have hx_ := lw10_hx hb qa25; have hbt := below_step hx_ hb; replace BK3 := qO (blk_below (g := gb1) BK3.out hbt); replace BK7 := qO (blk_below (g := gb5) BK7.out hbt); replace HN := qO (Nat.le_trans (Nat.le_trans HN.out (below_size hx_)) hb.size); replace HB := qO (below_step HB.out hbt); replace HX := qO (Below.refl w11.heap.size w11); clear hb hbt hx_; have hcz2_0_BK7 := qc0 BK7.out; have hcz2_1_BK7 := qc1 BK7.out; have hcz2_2_BK7 := qc2 BK7.out) | ((with_reducible refine gate_callee (f := 43) rfl ?_); refine goesL_ (some 27) rfl rfl Try.func43 qa5 rfl #[.agg #[.int .i64 a1_0, .slice A1_1 l1_1.length c1_1, .slice A1_2 l1_2.length c1_2], .int .i64 t9] rfl qa26 ?_; (with_reducible refine (laws_szTxn.calls a1_0 _ _ l1_1 _ _ l1_2 t9 t13 _ ?side1 ?side2 ?side3 ?side4 A14.out).mono ?_); (case side1 => exact qa152); (case side2 => exact HC1_1.out); (case side3 => exact qa153); (case side4 => exact HC1_2.out); rintro e w15 ⟨rfl, hb⟩; refine ⟨_, rfl, ?_⟩; have hx_ := lw10_hx hb qa25; have hbt := below_step hx_ hb; replace BK3 := qO (blk_below (g := gb1) BK3.out hbt); replace BK7 := qO (blk_below (g := gb5) BK7.out hbt); replace HN := qO (Nat.le_trans (Nat.le_trans HN.out (below_size hx_)) hb.size); replace HB := qO (below_step HB.out hbt); replace HX := qO (Below.refl w15.heap.size w15); clear hb hbt hx_; skip))
   go_ret
   exact ⟨by first | rfl | (simp [*]; done), below_step HB.out qa25⟩
  ·rw [if_neg c3] at H
   have c3b : decide (t13 < 0) = false := decide_eq_false c3; clear c3; obtain ⟨⟨t18, t19⟩, A0_, H⟩ := lw10_bind H; (try dsimp only at H); have A20 := qO A0_; clear A0_; obtain ⟨⟨t25, t26, t27⟩, A0_, H⟩ := lw10_bind H; (try dsimp only at H); have A28 := qO A0_; clear A0_; obtain ⟨⟨t35, t36, t37, t38⟩, A0_, H⟩ := lw10_bind H; (try dsimp only at H); have A39 := qO A0_; clear A0_; obtain ⟨⟨t105, t106⟩, A0_, H⟩ := lw10_bind H; (try dsimp only at H); have A107 := qO A0_; clear A0_; obtain ⟨⟨t122, t123, t124⟩, A0_, H⟩ := lw10_bind H; (try dsimp only at H); have A125 := qO A0_; clear A0_; obtain ⟨⟨t145, t146, t147, t148⟩, A0_, H⟩ := lw10_bind H; (try dsimp only at H); have A149 := qO A0_; clear A0_; obtain ⟨t166, A0_, H⟩ := lw10_bind H; (try dsimp only at H); have A167 := qO A0_; clear A0_; replace H := lw10_need H; obtain ⟨c11, H⟩ := H; subst c11; replace H := lw10_need H; obtain ⟨c12, H⟩ := H; have c12b0 : (t147 == t37) = true := beq_iff_eq.mpr c12; have c12b1 : (t147 != t37) = false := bne_eq_false_iff_eq.mpr c12; clear c12; replace H := lw10_need H; obtain ⟨c13, H⟩ := H; have c13b0 : (t148 == t38) = true := beq_iff_eq.mpr c13; have c13b1 : (t148 != t38) = false := bne_eq_false_iff_eq.mpr c13; clear c13; obtain ⟨⟨t171, t172⟩, A0_, H⟩ := lw10_bind H; (try dsimp only at H); have A173 := qO A0_; clear A0_; obtain ⟨t178, A0_, H⟩ := lw10_bind H; (try dsimp only at H); have A179 := qO A0_; clear A0_; replace H := lw10_need H; obtain ⟨c16, H⟩ := H; subst c16; obtain ⟨⟨t183, t184, t185⟩, A0_, H⟩ := lw10_bind H; (try dsimp only at H); have A186 := qO A0_; clear A0_; obtain ⟨t193, A0_, H⟩ := lw10_bind H; (try dsimp only at H); have A194 := qO A0_; clear A0_; replace H := lw10_need H; obtain ⟨c19, H⟩ := H; subst c19; obtain ⟨⟨t197, t198⟩, A0_, H⟩ := lw10_bind H; (try dsimp only at H); have A199 := qO A0_; clear A0_; obtain ⟨⟨t203, t204, t205⟩, A0_, H⟩ := lw10_bind H; (try dsimp only at H); have A206 := qO A0_; clear A0_; replace H := lw10_need H; obtain ⟨c22, H⟩ := H; have c22b0 : decide (t203 < 0) = false := decide_eq_false c22; clear c22; obtain ⟨t211, A0_, H⟩ := lw10_bind H; (try dsimp only at H); have A212 := qO A0_; clear A0_; replace H := lw10_need H; obtain ⟨c24, H⟩ := H; subst c24; obtain ⟨⟨t215, t216⟩, A0_, H⟩ := lw10_bind H; (try dsimp only at H); have A217 := qO A0_; clear A0_; obtain ⟨t221, A0_, H⟩ := lw10_bind H; (try dsimp only at H); have A222 := qO A0_; clear A0_; replace H := lw10_need H; obtain ⟨c27, H⟩ := H; have c27b0 : decide (t221 < 0) = false := decide_eq_false c27; clear c27; replace H := lw10_need H; obtain ⟨c28, H⟩ := H; have c28b0 : (t221 == t215) = true := beq_iff_eq.mpr c28; have c28b1 : (t221 != t215) = false := bne_eq_false_iff_eq.mpr c28; clear c28; obtain ⟨⟨t226, t227⟩, A0_, H⟩ := lw10_bind H; (try dsimp only at H); have A228 := qO A0_; clear A0_; obtain ⟨⟨t233, t234, t235⟩, A0_, H⟩ := lw10_bind H; (try dsimp only at H); have A236 := qO A0_; clear A0_; obtain ⟨⟨t243, t244, t245, t246⟩, A0_, H⟩ := lw10_bind H; (try dsimp only at H); have A247 := qO A0_; clear A0_; obtain ⟨t313, A0_, H⟩ := lw10_bind H; (try dsimp only at H); have A314 := qO A0_; clear A0_; replace H := lw10_need H; obtain ⟨c33, H⟩ := H; subst c33; replace H := lw10_need H; obtain ⟨c34, H⟩ := H; have c34b0 : (t245 == t37) = true := beq_iff_eq.mpr c34; have c34b1 : (t245 != t37) = false := bne_eq_false_iff_eq.mpr c34; clear c34; replace H := lw10_need H; obtain ⟨c35, H⟩ := H; have c35b0 : (t246 == t38) = true := beq_iff_eq.mpr c35; have c35b1 : (t246 != t38) = false := bne_eq_false_iff_eq.mpr c35; clear c35; obtain ⟨t317, A0_, H⟩ := lw10_bind H; (try dsimp only at H); have A318 := qO A0_; clear A0_; replace H := lw10_need H; obtain ⟨c37, H⟩ := H; have c37b0 : decide (t317 < 0) = false := decide_eq_false c37; clear c37; replace H := lw10_need H; obtain ⟨c38, H⟩ := H; have c38b0 : (t317 == t215) = true := beq_iff_eq.mpr c38; have c38b1 : (t317 != t215) = false := bne_eq_false_iff_eq.mpr c38; clear c38; obtain rfl := Option.some.inj H
   go_enter Try.func10, Try.ntmps10
   go_wp2_with (first | ((with_reducible refine gate_dst (N := 2) rfl ?_); refine qX 2 #[.slice A0_0 l0_0.length c0_0, .int .i64 a0_1] 24 ?_; intro gb1 hg w2 hbox hb; have hx_ := lw10_hx hb qa25; have hbt := below_step hx_ hb; obtain ⟨lo4, hi4, hl_, hh_, hc_⟩ := lw10_iv (Nat.le_trans HN.out (below_size hx_)) hb.size; have CHlo4 := qO (show w.heap.size ≤ lo4 ∧ lo4 ≤ hi4 from hc_); clear hc_; have BK3 := qO (hbox); replace HN := qO ((show hi4 ≤ w2.heap.size from Nat.le_of_eq hh_)); replace HB := qO (below_step HB.out hbt); replace HX := qO (Below.refl w2.heap.size w2); have IVgb1 := qO (show lo4 ≤ gb1 ∧ gb1 < hi4 from ⟨Nat.le_of_eq (hl_.trans hg.symm), qa137⟩); clear hb hbt hx_ hl_ hh_ hg hbox; skip) | ((with_reducible refine gate_dst (N := 3) rfl ?_); refine qX 3 #[.int .i64 a1_0, .slice A1_1 l1_1.length c1_1, .slice A1_2 l1_2.length c1_2] 75 ?_; intro gb5 hg w6 hbox hb; have hx_ := lw10_hx hb qa25; have hbt := below_step hx_ hb; obtain ⟨lo8, hi8, hl_, hh_, hc_⟩ := lw10_iv (Nat.le_trans HN.out (below_size hx_)) hb.size; have CHlo8 := qO (show hi4 ≤ lo8 ∧ lo8 ≤ hi8 from hc_); clear hc_; replace BK3 := qO (blk_below (g := gb1) BK3.out hbt); have BK7 := qO (hbox); replace HN := qO ((show hi8 ≤ w6.heap.size from Nat.le_of_eq hh_)); replace HB := qO (below_step HB.out hbt); replace HX := qO (Below.refl w6.heap.size w6); have IVgb5 := qO (show lo8 ≤ gb5 ∧ gb5 < hi8 from ⟨Nat.le_of_eq (hl_.trans hg.symm), qa137⟩); clear hb hbt hx_ hl_ hh_ hg hbox; have hcz1_0_BK3 := qc0 BK3.out; have hcz1_1_BK3 := qc1 BK3.out) | ((with_reducible refine gate_callee (f := 11) rfl ?_); refine goesL_ (some 22) rfl rfl Try.func11 qa5 rfl #[.agg #[.slice A0_0 l0_0.length c0_0, .int .i64 a0_1], .int .i64 1048576] rfl qa26 ?_; (with_reducible refine (laws_szStore.calls k _ _ l0_0 a0_1 1048576 t9 _ ?side1 ?side2 A10.out).mono ?_); (case side1 => exact qa101); (case side2 => exact HC0_0.out); rintro e w11 ⟨rfl, hb⟩; refine ⟨_, rfl, ?_⟩; have hx_ := lw10_hx hb qa25; have hbt := below_step hx_ hb; replace BK3 := qO (blk_below (g := gb1) BK3.out hbt); replace BK7 := qO (blk_below (g := gb5) BK7.out hbt); replace HN := qO (Nat.le_trans (Nat.le_trans HN.out (below_size hx_)) hb.size); replace HB := qO (below_step HB.out hbt); replace HX := qO (Below.refl w11.heap.size w11); clear hb hbt hx_; have hcz2_0_BK7 := qc0 BK7.out; have hcz2_1_BK7 := qc1 BK7.out; have hcz2_2_BK7 := qc2 BK7.out) | ((with_reducible refine gate_callee (f := 43) rfl ?_); refine goesL_ (some 27) rfl rfl Try.func43 qa5 rfl #[.agg #[.int .i64 a1_0, .slice A1_1 l1_1.length c1_1, .slice A1_2 l1_2.length c1_2], .int .i64 t9] rfl qa26 ?_; (with_reducible refine (laws_szTxn.calls a1_0 _ _ l1_1 _ _ l1_2 t9 t13 _ ?side1 ?side2 ?side3 ?side4 A14.out).mono ?_); (case side1 => exact qa152); (case side2 => exact HC1_1.out); (case side3 => exact qa153); (case side4 => exact HC1_2.out); rintro e w15 ⟨rfl, hb⟩; refine ⟨_, rfl, ?_⟩; have hx_ := lw10_hx hb qa25; have hbt := below_step hx_ hb; replace BK3 := qO (blk_below (g := gb1) BK3.out hbt); replace BK7 := qO (blk_below (g := gb5) BK7.out hbt); replace HN := qO (Nat.le_trans (Nat.le_trans HN.out (below_size hx_)) hb.size); replace HB := qO (below_step HB.out hbt); replace HX := qO (Below.refl w15.heap.size w15); clear hb hbt hx_; skip))
   try go_wp2
   have hdr_ := qO (qbD HX.out); refine start_ (n := 13) (S := fun w' => w'.cell? ⟨gb1, 0, none⟩ = some (.slice A0_0 l0_0.length c0_0) ∧ w'.cell? ⟨gb1, 1, none⟩ = some (.int .i64 a0_1) ∧ w'.cell? ⟨gb5, 0, none⟩ = some (.int .i64 a1_0) ∧ w'.cell? ⟨gb5, 1, none⟩ = some (.slice A1_1 l1_1.length c1_1) ∧ w'.cell? ⟨gb5, 2, none⟩ = some (.slice A1_2 l1_2.length c1_2)) (ds := []) laws_FnExactCommit.y0 qa5 rfl rfl ⟨(blk_cell (blk_below (g := gb1) BK3.out hdr_.out) 0).trans rfl, (blk_cell (blk_below (g := gb1) BK3.out hdr_.out) 1).trans rfl, (blk_cell (blk_below (g := gb5) BK7.out hdr_.out) 0).trans rfl, (blk_cell (blk_below (g := gb5) BK7.out hdr_.out) 1).trans rfl, (blk_cell (blk_below (g := gb5) BK7.out hdr_.out) 2).trans rfl⟩ (fun hHeld => ?_); generalize w15.drew = w17 at hdr_ hHeld ⊢; clear HX; have HX := hdr_; clear hdr_; refine qTk 0 31 laws_FnExactCommit.y1 rfl rfl qa5 qa65 hHeld qa2 ?_; refine qTk 2 33 laws_FnExactCommit.y2 rfl rfl qa5 qa65 hHeld qa2 ?_; have HS_ := qO (show ∀ W_ : World, Below w15.heap.size w15 W_ → W_.cell? ⟨gb1, 0, none⟩ = some (.slice A0_0 l0_0.length c0_0) ∧ W_.cell? ⟨gb1, 1, none⟩ = some (.int .i64 a0_1) ∧ W_.cell? ⟨gb5, 0, none⟩ = some (.int .i64 a1_0) ∧ W_.cell? ⟨gb5, 1, none⟩ = some (.slice A1_1 l1_1.length c1_1) ∧ W_.cell? ⟨gb5, 2, none⟩ = some (.slice A1_2 l1_2.length c1_2) from fun W_ h_ => ⟨(blk_cell (blk_below (g := gb1) BK3.out h_) 0).trans rfl, (blk_cell (blk_below (g := gb1) BK3.out h_) 1).trans rfl, (blk_cell (blk_below (g := gb5) BK7.out h_) 0).trans rfl, (blk_cell (blk_below (g := gb5) BK7.out h_) 1).trans rfl, (blk_cell (blk_below (g := gb5) BK7.out h_) 2).trans rfl⟩); have HXR := qO HX.out; replace HB := qO (below_step HB.out HX.out); replace HN := qO (Nat.le_trans HN.out HX.out.size); clear HX; have HX := qO (Below.refl w17.heap.size w17); refine join_ (σ := Option Addr × Nat × Option Addr × Nat × Option Addr × Nat × Option Addr × Nat × Nat × Nat × Nat × Nat) 3 laws_FnExactCommit.y3 (fun s_ => [(32, .agg #[.slice s_.1 t18.length s_.2.1, .int .i64 t19]), (34, .agg #[.int .i64 t25, .slice s_.2.2.1 t26.length s_.2.2.2.1, .slice s_.2.2.2.2.1 t27.length s_.2.2.2.2.2.1]), (35, .tuple #[.agg #[.slice s_.2.2.2.2.2.2.1 t35.length s_.2.2.2.2.2.2.2.1, .int .i64 t36], .int .i64 t37, .int .i64 t38]), (6, .pointer (some ⟨s_.2.2.2.2.2.2.2.2.1, 0, none⟩)), (30, .tuple #[.agg #[.slice s_.2.2.2.2.2.2.1 t35.length s_.2.2.2.2.2.2.2.1, .int .i64 t36], .int .i64 t37, .int .i64 t38]), (36, .agg #[.slice s_.2.2.2.2.2.2.1 t35.length s_.2.2.2.2.2.2.2.1, .int .i64 t36]), (37, .int .i64 t37), (38, .int .i64 t38)]) (fun s_ w' => w'.heap[gb1]? = some (.cells #[.slice A0_0 l0_0.length c0_0, .int .i64 a0_1] 24 (0, 0)) ∧ w'.heap[gb5]? = some (.cells #[.int .i64 a1_0, .slice A1_1 l1_1.length c1_1, .slice A1_2 l1_2.length c1_2] 75 (0, 0)) ∧ Kd.S (Kd.slice 43 k43) 41 w' w.heap.size (fun k_ => s_.2.2.2.2.2.2.2.2.2.1 ≤ k_ ∧ k_ < s_.2.2.2.2.2.2.2.2.2.2.1) (.slice s_.2.2.2.2.2.2.1 t35.length s_.2.2.2.2.2.2.2.1) t35 ∧ w'.heap[s_.2.2.2.2.2.2.2.2.1]? = some (.cells #[.slice none 0 0, .int .i64 0] 28 (0, 0)) ∧ Below w.heap.size w w' ∧ (hi8 ≤ s_.2.2.2.2.2.2.2.2.2.1 ∧ s_.2.2.2.2.2.2.2.2.2.1 ≤ s_.2.2.2.2.2.2.2.2.2.2.1 ∧ s_.2.2.2.2.2.2.2.2.2.2.1 ≤ s_.2.2.2.2.2.2.2.2.2.2.2 ∧ hi8 ≤ s_.2.2.2.2.2.2.2.2.1 ∧ s_.2.2.2.2.2.2.2.2.1 < s_.2.2.2.2.2.2.2.2.2.2.2 ∧ (s_.2.2.2.2.2.2.2.2.1 < s_.2.2.2.2.2.2.2.2.2.1 ∨ s_.2.2.2.2.2.2.2.2.2.2.1 ≤ s_.2.2.2.2.2.2.2.2.1)) ∧ s_.2.2.2.2.2.2.2.2.2.2.2 ≤ w'.heap.size) (fun s_ w17j hF_ => ?_) (fun hcont => ?_); rotate_left
   ·refine two_ (i := 1) (j := 9) (Ni := some 32) (Nj := some 6) laws_FnExactCommit.y4 laws_FnExactCommit.y5 rfl rfl rfl rfl qa5 qa51 qa51 (fun K hK => ?_) (fun K hK => ?_)
    ·refine goes_ Try.func13 qa5 rfl #[.agg #[.slice A0_0 l0_0.length c0_0, .int .i64 a0_1]] (by rfl) rfl rfl qa26 ?_
     (with_reducible refine (laws_toStore.calls k _ _ l0_0 a0_1 t18 t19 _ ?side1 ?side2 A20.out).mono ?_); (case side1 => exact qa169); (case side2 => exact HC0_0.out); rintro e w21 ⟨vt18, rfl, ho0, hb⟩; refine ⟨_, rfl, ?_⟩; have hx_ := lw10_hx hb HX.out; have hbt := below_step hx_ hb; obtain ⟨lo22, hi22, hl_, hh_, hc_⟩ := lw10_iv (Nat.le_trans HN.out (below_size hx_)) hb.size; have CHlo22 := qO (show hi8 ≤ lo22 ∧ lo22 ≤ hi22 from hc_); clear hc_; replace HXR := qO (below_step HXR.out hbt); have HO23 := qO (Kd.S_mono (ok' := fun k_ => lo22 ≤ k_ ∧ k_ < hi22) (Kd.S_lower (Kd.S_bound ho0) (below_size (below_step HB.out hx_))) (fun k_ hk_ => ⟨qa87, qa78⟩)); replace HN := qO ((show hi22 ≤ w21.heap.size from Nat.le_of_eq hh_)); replace HB := qO (below_step HB.out hbt); replace HX := qO (Below.refl w21.heap.size w21); clear hb hbt hx_ hl_ hh_; (try clear ho0); obtain ⟨Aoo24, coo24, eoo24⟩ := Kd.S_slice HO23.out; (first | subst eoo24 | (injection eoo24 with f1_ f2_ f3_; have f4_ := f1_.symm; have f5_ := f3_.symm; clear f1_ f2_ f3_; subst f4_; subst f5_)); refine hK.out _ _ (HS_.out _ HXR.out) (fun hHeld => ?_); clear hK K; refine norm_ (a' := ?_) ?_ ?_; rotate_left
     ·exact qa11
     refine two_ (i := 3) (j := 9) (Ni := some 34) (Nj := some 6) laws_FnExactCommit.y6 laws_FnExactCommit.y7 rfl rfl rfl rfl qa5 qa51 qa51 (fun K hK => ?_) (fun K hK => ?_)
     ·refine goes_ Try.func45 qa5 rfl #[.agg #[.int .i64 a1_0, .slice A1_1 l1_1.length c1_1, .slice A1_2 l1_2.length c1_2]] (by rfl) rfl rfl qa26 ?_
      (with_reducible refine (laws_toTxn.calls k a1_0 _ _ l1_1 _ _ l1_2 t25 t26 t27 _ ?side1 ?side2 ?side3 ?side4 A28.out).mono ?_); (case side1 => exact qa150); (case side2 => exact HC1_1.out); (case side3 => exact qa151); (case side4 => exact HC1_2.out); rintro e w29 ⟨vt26, vt27, rfl, ho0, ho1, hb⟩; refine ⟨_, rfl, ?_⟩; have hx_ := lw10_hx hb HX.out; have hbt := below_step hx_ hb; obtain ⟨lo30, hi30, hl_, hh_, hc_⟩ := lw10_iv (Nat.le_trans HN.out (below_size hx_)) hb.size; have CHlo30 := qO (show hi22 ≤ lo30 ∧ lo30 ≤ hi30 from hc_); clear hc_; replace HXR := qO (below_step HXR.out hbt); replace HO23 := qO (Kd.S_below HO23.out hbt); have HO31 := qO (Kd.R_mono (ok' := fun k_ => lo30 ≤ k_ ∧ k_ < hi30) (Kd.R_lower (Kd.R_bound ho0) (below_size (below_step HB.out hx_))) (fun k_ hk_ => ⟨qa87, qa78⟩)); have HO32 := qO (Kd.R_mono (ok' := fun k_ => lo30 ≤ k_ ∧ k_ < hi30) (Kd.R_lower (Kd.R_bound ho1) (below_size (below_step HB.out hx_))) (fun k_ hk_ => ⟨qa87, qa78⟩)); replace HN := qO ((show hi30 ≤ w29.heap.size from Nat.le_of_eq hh_)); replace HB := qO (below_step HB.out hbt); replace HX := qO (Below.refl w29.heap.size w29); clear hb hbt hx_ hl_ hh_; (try clear ho0); obtain ⟨Aoo33, coo33, eoo33⟩ := Kd.R_slice HO31.out; (first | subst eoo33 | (injection eoo33 with f1_ f2_ f3_; have f4_ := f1_.symm; have f5_ := f3_.symm; clear f1_ f2_ f3_; subst f4_; subst f5_)); (try clear ho1); obtain ⟨Aoo34, coo34, eoo34⟩ := Kd.R_slice HO32.out; (first | subst eoo34 | (injection eoo34 with f1_ f2_ f3_; have f4_ := f1_.symm; have f5_ := f3_.symm; clear f1_ f2_ f3_; subst f4_; subst f5_)); refine hK.out _ _ (HS_.out _ HXR.out) (fun hHeld => ?_); clear hK K; refine norm_ (a' := ?_) ?_ ?_; rotate_left
      ·exact qa11
      refine two_ (i := 4) (j := 9) (Ni := some 35) (Nj := some 6) laws_FnExactCommit.y8 laws_FnExactCommit.y9 rfl rfl rfl rfl qa5 qa51 qa51 (fun K hK => ?_) (fun K hK => ?_)
      ·refine goes_ Try.func51 qa5 rfl #[.agg #[.slice Aoo24 t18.length coo24, .int .i64 t19], .agg #[.int .i64 t25, .slice Aoo33 t26.length coo33, .slice Aoo34 t27.length coo34]] (by rfl) rfl rfl qa26 ?_
       (with_reducible refine (spec_Commit.calls k _ _ t18 t19 t25 _ _ t26 _ _ t27 t35 t36 t37 t38 _ ?side1 ?side2 ?side3 ?side4 ?side5 ?side6 A39.out).mono ?_); (case side1 => exact qa187); (case side2 => exact qa180); (case side3 => exact Kd.C_below (Kd.R_reads' HO31.out).2.2 HX.out); (case side4 => have z_ := Kd.R_reads' HO31.out; have y_ := z_.1; have x_ := z_.2.1; omega); (case side5 => exact Kd.C_below (Kd.R_reads' HO32.out).2.2 HX.out); (case side6 => have z_ := Kd.R_reads' HO32.out; have y_ := z_.1; have x_ := z_.2.1; omega); rintro e w40 ⟨vt35, rfl, ho0, hb⟩; refine ⟨_, rfl, ?_⟩; have hx_ := lw10_hx hb HX.out; have hbt := below_step hx_ hb; obtain ⟨lo41, hi41, hl_, hh_, hc_⟩ := lw10_iv (Nat.le_trans HN.out (below_size hx_)) hb.size; have CHlo41 := qO (show hi30 ≤ lo41 ∧ lo41 ≤ hi41 from hc_); clear hc_ HO23 HO31 HO32; replace HXR := qO (below_step HXR.out hbt); have HO42 := qO (Kd.S_mono (ok' := fun k_ => lo41 ≤ k_ ∧ k_ < hi41) (Kd.S_lower (Kd.S_bound ho0) (below_size (below_step HB.out hx_))) (fun k_ hk_ => ⟨qa87, qa78⟩)); replace HN := qO ((show hi41 ≤ w40.heap.size from Nat.le_of_eq hh_)); replace HB := qO (below_step HB.out hbt); replace HX := qO (Below.refl w40.heap.size w40); clear hb hbt hx_ hl_ hh_; (try clear ho0); obtain ⟨Aoo43, coo43, eoo43⟩ := Kd.S_slice HO42.out; (first | subst eoo43 | (injection eoo43 with f1_ f2_ f3_; have f4_ := f1_.symm; have f5_ := f3_.symm; clear f1_ f2_ f3_; subst f4_; subst f5_)); refine hK.out _ _ (HS_.out _ HXR.out) (fun hHeld => ?_); clear hK K; refine norm_ (a' := ?_) ?_ ?_; rotate_left
       ·exact qa11
       refine qPu 5 30 laws_FnExactCommit.y10 rfl rfl qa5 qa8 qa2 ?_; refine qPu 6 36 laws_FnExactCommit.y11 rfl rfl qa5 qa8 qa2 ?_; refine qPu 7 37 laws_FnExactCommit.y12 rfl rfl qa5 qa8 qa2 ?_; refine qPu 8 38 laws_FnExactCommit.y13 rfl rfl qa5 qa8 qa2 ?_; refine one_ (i := 9) (N := some 6) laws_FnExactCommit.y3 rfl rfl qa5 qa51 (fun K hK => ?_); refine box_step (by rfl) (N := 6) rfl (cs := #[.slice none 0 0, .int .i64 0]) (t := 28) ?hr ?_; (case hr => exact qa10); intro gb44 hg w45 hbox hb; have hx_ := lw10_hx hb HX.out; have hbt := below_step hx_ hb; obtain ⟨lo47, hi47, hl_, hh_, hc_⟩ := lw10_iv (Nat.le_trans HN.out (below_size hx_)) hb.size; have CHlo47 := qO (show hi41 ≤ lo47 ∧ lo47 ≤ hi47 from hc_); clear hc_; replace HXR := qO (below_step HXR.out hbt); replace HO42 := qO (Kd.S_below HO42.out hbt); have BK46 := qO (hbox); replace HN := qO ((show hi47 ≤ w45.heap.size from Nat.le_of_eq hh_)); replace HB := qO (below_step HB.out hbt); replace HX := qO (Below.refl w45.heap.size w45); have IVgb44 := qO (show lo47 ≤ gb44 ∧ gb44 < hi47 from ⟨Nat.le_of_eq (hl_.trans hg.symm), qa137⟩); clear hb hbt hx_ hl_ hh_ hg hbox; refine hK.out _ _ (HS_.out _ HXR.out) (fun hHeld => ?_); clear hK K; refine norm_ (a' := ?_) ?_ ?_; rotate_left
       ·exact qa11
       refine norm_ ?_ (hcont (Aoo24, coo24, Aoo33, coo33, Aoo34, coo34, Aoo43, coo43, gb44, lo41, hi41, hi47) _ ⟨blk_below (g := gb1) BK3.out HXR.out, blk_below (g := gb5) BK7.out HXR.out, HO42.out, BK46.out, below_step HB.out HX.out, (by dsimp only; have z0_ := CHlo4.out; have z1_ := CHlo8.out; have z2_ := CHlo22.out; have z3_ := CHlo30.out; have z4_ := CHlo41.out; have z5_ := CHlo47.out; have h1_ := IVgb44.out; omega), HN.out⟩); simp only [putAll, Act.put, qzA, qzB, qzC, i64_w, i32_w]; (try rfl)
      ·refine box_step (by rfl) (N := 6) rfl (cs := #[.slice none 0 0, .int .i64 0]) (t := 28) ?hr ?_
       (case hr => exact qa10); intro gb48 hg w49 hbox hb; have hx_ := lw10_hx hb HX.out; have hbt := below_step hx_ hb; obtain ⟨lo51, hi51, hl_, hh_, hc_⟩ := lw10_iv (Nat.le_trans HN.out (below_size hx_)) hb.size; have CHlo51 := qO (show hi30 ≤ lo51 ∧ lo51 ≤ hi51 from hc_); clear hc_; replace HXR := qO (below_step HXR.out hbt); replace HO23 := qO (Kd.S_below HO23.out hbt); replace HO31 := qO (Kd.R_below HO31.out hbt); replace HO32 := qO (Kd.R_below HO32.out hbt); have BK50 := qO (hbox); replace HN := qO ((show hi51 ≤ w49.heap.size from Nat.le_of_eq hh_)); replace HB := qO (below_step HB.out hbt); replace HX := qO (Below.refl w49.heap.size w49); have IVgb48 := qO (show lo51 ≤ gb48 ∧ gb48 < hi51 from ⟨Nat.le_of_eq (hl_.trans hg.symm), qa137⟩); clear hb hbt hx_ hl_ hh_ hg hbox; refine hK.out _ _ (HS_.out _ HXR.out) (fun hHeld => ?_); clear hK K; refine norm_ (a' := ?_) ?_ ?_; rotate_left
       ·exact qa11
       refine one_ (i := 4) (N := some 35) laws_FnExactCommit.y14 rfl rfl qa5 qa51 (fun K hK => ?_); refine goes_ Try.func51 qa5 rfl #[.agg #[.slice Aoo24 t18.length coo24, .int .i64 t19], .agg #[.int .i64 t25, .slice Aoo33 t26.length coo33, .slice Aoo34 t27.length coo34]] (by rfl) rfl rfl qa26 ?_; (with_reducible refine (spec_Commit.calls k _ _ t18 t19 t25 _ _ t26 _ _ t27 t35 t36 t37 t38 _ ?side1 ?side2 ?side3 ?side4 ?side5 ?side6 A39.out).mono ?_); (case side1 => exact qa187); (case side2 => exact qa180); (case side3 => exact Kd.C_below (Kd.R_reads' HO31.out).2.2 HX.out); (case side4 => have z_ := Kd.R_reads' HO31.out; have y_ := z_.1; have x_ := z_.2.1; omega); (case side5 => exact Kd.C_below (Kd.R_reads' HO32.out).2.2 HX.out); (case side6 => have z_ := Kd.R_reads' HO32.out; have y_ := z_.1; have x_ := z_.2.1; omega); rintro e w52 ⟨vt35, rfl, ho0, hb⟩; refine ⟨_, rfl, ?_⟩; have hx_ := lw10_hx hb HX.out; have hbt := below_step hx_ hb; obtain ⟨lo53, hi53, hl_, hh_, hc_⟩ := lw10_iv (Nat.le_trans HN.out (below_size hx_)) hb.size; have CHlo53 := qO (show hi51 ≤ lo53 ∧ lo53 ≤ hi53 from hc_); clear hc_ HO23 HO31 HO32; replace HXR := qO (below_step HXR.out hbt); replace BK50 := qO (blk_below (g := gb48) BK50.out hbt); have HO54 := qO (Kd.S_mono (ok' := fun k_ => lo53 ≤ k_ ∧ k_ < hi53) (Kd.S_lower (Kd.S_bound ho0) (below_size (below_step HB.out hx_))) (fun k_ hk_ => ⟨qa87, qa78⟩)); replace HN := qO ((show hi53 ≤ w52.heap.size from Nat.le_of_eq hh_)); replace HB := qO (below_step HB.out hbt); replace HX := qO (Below.refl w52.heap.size w52); clear hb hbt hx_ hl_ hh_; (try clear ho0); obtain ⟨Aoo55, coo55, eoo55⟩ := Kd.S_slice HO54.out; (first | subst eoo55 | (injection eoo55 with f1_ f2_ f3_; have f4_ := f1_.symm; have f5_ := f3_.symm; clear f1_ f2_ f3_; subst f4_; subst f5_)); refine hK.out _ _ (HS_.out _ HXR.out) (fun hHeld => ?_); clear hK K; refine norm_ (a' := ?_) ?_ ?_; rotate_left
       ·exact qa11
       refine qPu 5 30 laws_FnExactCommit.y15 rfl rfl qa5 qa8 qa2 ?_; refine qPu 6 36 laws_FnExactCommit.y16 rfl rfl qa5 qa8 qa2 ?_; refine qPu 7 37 laws_FnExactCommit.y17 rfl rfl qa5 qa8 qa2 ?_; refine qPu 8 38 laws_FnExactCommit.y3 rfl rfl qa5 qa8 qa2 ?_; refine norm_ ?_ (hcont (Aoo24, coo24, Aoo33, coo33, Aoo34, coo34, Aoo55, coo55, gb48, lo53, hi53, hi53) _ ⟨blk_below (g := gb1) BK3.out HXR.out, blk_below (g := gb5) BK7.out HXR.out, HO54.out, BK50.out, below_step HB.out HX.out, (by dsimp only; have z0_ := CHlo4.out; have z1_ := CHlo8.out; have z2_ := CHlo22.out; have z3_ := CHlo30.out; have z4_ := CHlo51.out; have z5_ := CHlo53.out; have h1_ := IVgb48.out; omega), HN.out⟩); simp only [putAll, Act.put, qzA, qzB, qzC, i64_w, i32_w]; (try rfl)
     ·refine box_step (by rfl) (N := 6) rfl (cs := #[.slice none 0 0, .int .i64 0]) (t := 28) ?hr ?_
      (case hr => exact qa10); intro gb56 hg w57 hbox hb; have hx_ := lw10_hx hb HX.out; have hbt := below_step hx_ hb; obtain ⟨lo59, hi59, hl_, hh_, hc_⟩ := lw10_iv (Nat.le_trans HN.out (below_size hx_)) hb.size; have CHlo59 := qO (show hi22 ≤ lo59 ∧ lo59 ≤ hi59 from hc_); clear hc_; replace HXR := qO (below_step HXR.out hbt); replace HO23 := qO (Kd.S_below HO23.out hbt); have BK58 := qO (hbox); replace HN := qO ((show hi59 ≤ w57.heap.size from Nat.le_of_eq hh_)); replace HB := qO (below_step HB.out hbt); replace HX := qO (Below.refl w57.heap.size w57); have IVgb56 := qO (show lo59 ≤ gb56 ∧ gb56 < hi59 from ⟨Nat.le_of_eq (hl_.trans hg.symm), qa137⟩); clear hb hbt hx_ hl_ hh_ hg hbox; refine hK.out _ _ (HS_.out _ HXR.out) (fun hHeld => ?_); clear hK K; refine norm_ (a' := ?_) ?_ ?_; rotate_left
      ·exact qa11
      refine one_ (i := 3) (N := some 34) laws_FnExactCommit.y9 rfl rfl qa5 qa51 (fun K hK => ?_); refine goes_ Try.func45 qa5 rfl #[.agg #[.int .i64 a1_0, .slice A1_1 l1_1.length c1_1, .slice A1_2 l1_2.length c1_2]] (by rfl) rfl rfl qa26 ?_; (with_reducible refine (laws_toTxn.calls k a1_0 _ _ l1_1 _ _ l1_2 t25 t26 t27 _ ?side1 ?side2 ?side3 ?side4 A28.out).mono ?_); (case side1 => exact qa150); (case side2 => exact HC1_1.out); (case side3 => exact qa151); (case side4 => exact HC1_2.out); rintro e w60 ⟨vt26, vt27, rfl, ho0, ho1, hb⟩; refine ⟨_, rfl, ?_⟩; have hx_ := lw10_hx hb HX.out; have hbt := below_step hx_ hb; obtain ⟨lo61, hi61, hl_, hh_, hc_⟩ := lw10_iv (Nat.le_trans HN.out (below_size hx_)) hb.size; have CHlo61 := qO (show hi59 ≤ lo61 ∧ lo61 ≤ hi61 from hc_); clear hc_; replace HXR := qO (below_step HXR.out hbt); replace HO23 := qO (Kd.S_below HO23.out hbt); replace BK58 := qO (blk_below (g := gb56) BK58.out hbt); have HO62 := qO (Kd.R_mono (ok' := fun k_ => lo61 ≤ k_ ∧ k_ < hi61) (Kd.R_lower (Kd.R_bound ho0) (below_size (below_step HB.out hx_))) (fun k_ hk_ => ⟨qa87, qa78⟩)); have HO63 := qO (Kd.R_mono (ok' := fun k_ => lo61 ≤ k_ ∧ k_ < hi61) (Kd.R_lower (Kd.R_bound ho1) (below_size (below_step HB.out hx_))) (fun k_ hk_ => ⟨qa87, qa78⟩)); replace HN := qO ((show hi61 ≤ w60.heap.size from Nat.le_of_eq hh_)); replace HB := qO (below_step HB.out hbt); replace HX := qO (Below.refl w60.heap.size w60); clear hb hbt hx_ hl_ hh_; (try clear ho0); obtain ⟨Aoo64, coo64, eoo64⟩ := Kd.R_slice HO62.out; (first | subst eoo64 | (injection eoo64 with f1_ f2_ f3_; have f4_ := f1_.symm; have f5_ := f3_.symm; clear f1_ f2_ f3_; subst f4_; subst f5_)); (try clear ho1); obtain ⟨Aoo65, coo65, eoo65⟩ := Kd.R_slice HO63.out; (first | subst eoo65 | (injection eoo65 with f1_ f2_ f3_; have f4_ := f1_.symm; have f5_ := f3_.symm; clear f1_ f2_ f3_; subst f4_; subst f5_)); refine hK.out _ _ (HS_.out _ HXR.out) (fun hHeld => ?_); clear hK K; refine norm_ (a' := ?_) ?_ ?_; rotate_left
      ·exact qa11
      refine one_ (i := 4) (N := some 35) laws_FnExactCommit.y14 rfl rfl qa5 qa51 (fun K hK => ?_); refine goes_ Try.func51 qa5 rfl #[.agg #[.slice Aoo24 t18.length coo24, .int .i64 t19], .agg #[.int .i64 t25, .slice Aoo64 t26.length coo64, .slice Aoo65 t27.length coo65]] (by rfl) rfl rfl qa26 ?_; (with_reducible refine (spec_Commit.calls k _ _ t18 t19 t25 _ _ t26 _ _ t27 t35 t36 t37 t38 _ ?side1 ?side2 ?side3 ?side4 ?side5 ?side6 A39.out).mono ?_); (case side1 => exact qa187); (case side2 => exact qa180); (case side3 => exact Kd.C_below (Kd.R_reads' HO62.out).2.2 HX.out); (case side4 => have z_ := Kd.R_reads' HO62.out; have y_ := z_.1; have x_ := z_.2.1; omega); (case side5 => exact Kd.C_below (Kd.R_reads' HO63.out).2.2 HX.out); (case side6 => have z_ := Kd.R_reads' HO63.out; have y_ := z_.1; have x_ := z_.2.1; omega); rintro e w66 ⟨vt35, rfl, ho0, hb⟩; refine ⟨_, rfl, ?_⟩; have hx_ := lw10_hx hb HX.out; have hbt := below_step hx_ hb; obtain ⟨lo67, hi67, hl_, hh_, hc_⟩ := lw10_iv (Nat.le_trans HN.out (below_size hx_)) hb.size; have CHlo67 := qO (show hi61 ≤ lo67 ∧ lo67 ≤ hi67 from hc_); clear hc_ HO23 HO62 HO63; replace HXR := qO (below_step HXR.out hbt); replace BK58 := qO (blk_below (g := gb56) BK58.out hbt); have HO68 := qO (Kd.S_mono (ok' := fun k_ => lo67 ≤ k_ ∧ k_ < hi67) (Kd.S_lower (Kd.S_bound ho0) (below_size (below_step HB.out hx_))) (fun k_ hk_ => ⟨qa87, qa78⟩)); replace HN := qO ((show hi67 ≤ w66.heap.size from Nat.le_of_eq hh_)); replace HB := qO (below_step HB.out hbt); replace HX := qO (Below.refl w66.heap.size w66); clear hb hbt hx_ hl_ hh_; (try clear ho0); obtain ⟨Aoo69, coo69, eoo69⟩ := Kd.S_slice HO68.out; (first | subst eoo69 | (injection eoo69 with f1_ f2_ f3_; have f4_ := f1_.symm; have f5_ := f3_.symm; clear f1_ f2_ f3_; subst f4_; subst f5_)); refine hK.out _ _ (HS_.out _ HXR.out) (fun hHeld => ?_); clear hK K; refine norm_ (a' := ?_) ?_ ?_; rotate_left
      ·exact qa11
      refine qPu 5 30 laws_FnExactCommit.y15 rfl rfl qa5 qa8 qa2 ?_; refine qPu 6 36 laws_FnExactCommit.y16 rfl rfl qa5 qa8 qa2 ?_; refine qPu 7 37 laws_FnExactCommit.y17 rfl rfl qa5 qa8 qa2 ?_; refine qPu 8 38 laws_FnExactCommit.y3 rfl rfl qa5 qa8 qa2 ?_; refine norm_ ?_ (hcont (Aoo24, coo24, Aoo64, coo64, Aoo65, coo65, Aoo69, coo69, gb56, lo67, hi67, hi67) _ ⟨blk_below (g := gb1) BK3.out HXR.out, blk_below (g := gb5) BK7.out HXR.out, HO68.out, BK58.out, below_step HB.out HX.out, (by dsimp only; have z0_ := CHlo4.out; have z1_ := CHlo8.out; have z2_ := CHlo22.out; have z3_ := CHlo59.out; have z4_ := CHlo61.out; have z5_ := CHlo67.out; have h1_ := IVgb56.out; omega), HN.out⟩); simp only [putAll, Act.put, qzA, qzB, qzC, i64_w, i32_w]; (try rfl)
    ·refine box_step (by rfl) (N := 6) rfl (cs := #[.slice none 0 0, .int .i64 0]) (t := 28) ?hr ?_
     (case hr => exact qa10); intro gb70 hg w71 hbox hb; have hx_ := lw10_hx hb HX.out; have hbt := below_step hx_ hb; obtain ⟨lo73, hi73, hl_, hh_, hc_⟩ := lw10_iv (Nat.le_trans HN.out (below_size hx_)) hb.size; have CHlo73 := qO (show hi8 ≤ lo73 ∧ lo73 ≤ hi73 from hc_); clear hc_; replace HXR := qO (below_step HXR.out hbt); have BK72 := qO (hbox); replace HN := qO ((show hi73 ≤ w71.heap.size from Nat.le_of_eq hh_)); replace HB := qO (below_step HB.out hbt); replace HX := qO (Below.refl w71.heap.size w71); have IVgb70 := qO (show lo73 ≤ gb70 ∧ gb70 < hi73 from ⟨Nat.le_of_eq (hl_.trans hg.symm), qa137⟩); clear hb hbt hx_ hl_ hh_ hg hbox; refine hK.out _ _ (HS_.out _ HXR.out) (fun hHeld => ?_); clear hK K; refine norm_ (a' := ?_) ?_ ?_; rotate_left
     ·exact qa11
     refine one_ (i := 1) (N := some 32) laws_FnExactCommit.y7 rfl rfl qa5 qa51 (fun K hK => ?_); refine goes_ Try.func13 qa5 rfl #[.agg #[.slice A0_0 l0_0.length c0_0, .int .i64 a0_1]] (by rfl) rfl rfl qa26 ?_; (with_reducible refine (laws_toStore.calls k _ _ l0_0 a0_1 t18 t19 _ ?side1 ?side2 A20.out).mono ?_); (case side1 => exact qa169); (case side2 => exact HC0_0.out); rintro e w74 ⟨vt18, rfl, ho0, hb⟩; refine ⟨_, rfl, ?_⟩; have hx_ := lw10_hx hb HX.out; have hbt := below_step hx_ hb; obtain ⟨lo75, hi75, hl_, hh_, hc_⟩ := lw10_iv (Nat.le_trans HN.out (below_size hx_)) hb.size; have CHlo75 := qO (show hi73 ≤ lo75 ∧ lo75 ≤ hi75 from hc_); clear hc_; replace HXR := qO (below_step HXR.out hbt); replace BK72 := qO (blk_below (g := gb70) BK72.out hbt); have HO76 := qO (Kd.S_mono (ok' := fun k_ => lo75 ≤ k_ ∧ k_ < hi75) (Kd.S_lower (Kd.S_bound ho0) (below_size (below_step HB.out hx_))) (fun k_ hk_ => ⟨qa87, qa78⟩)); replace HN := qO ((show hi75 ≤ w74.heap.size from Nat.le_of_eq hh_)); replace HB := qO (below_step HB.out hbt); replace HX := qO (Below.refl w74.heap.size w74); clear hb hbt hx_ hl_ hh_; (try clear ho0); obtain ⟨Aoo77, coo77, eoo77⟩ := Kd.S_slice HO76.out; (first | subst eoo77 | (injection eoo77 with f1_ f2_ f3_; have f4_ := f1_.symm; have f5_ := f3_.symm; clear f1_ f2_ f3_; subst f4_; subst f5_)); refine hK.out _ _ (HS_.out _ HXR.out) (fun hHeld => ?_); clear hK K; refine norm_ (a' := ?_) ?_ ?_; rotate_left
     ·exact qa11
     refine one_ (i := 3) (N := some 34) laws_FnExactCommit.y9 rfl rfl qa5 qa51 (fun K hK => ?_); refine goes_ Try.func45 qa5 rfl #[.agg #[.int .i64 a1_0, .slice A1_1 l1_1.length c1_1, .slice A1_2 l1_2.length c1_2]] (by rfl) rfl rfl qa26 ?_; (with_reducible refine (laws_toTxn.calls k a1_0 _ _ l1_1 _ _ l1_2 t25 t26 t27 _ ?side1 ?side2 ?side3 ?side4 A28.out).mono ?_); (case side1 => exact qa150); (case side2 => exact HC1_1.out); (case side3 => exact qa151); (case side4 => exact HC1_2.out); rintro e w78 ⟨vt26, vt27, rfl, ho0, ho1, hb⟩; refine ⟨_, rfl, ?_⟩; have hx_ := lw10_hx hb HX.out; have hbt := below_step hx_ hb; obtain ⟨lo79, hi79, hl_, hh_, hc_⟩ := lw10_iv (Nat.le_trans HN.out (below_size hx_)) hb.size; have CHlo79 := qO (show hi75 ≤ lo79 ∧ lo79 ≤ hi79 from hc_); clear hc_; replace HXR := qO (below_step HXR.out hbt); replace BK72 := qO (blk_below (g := gb70) BK72.out hbt); replace HO76 := qO (Kd.S_below HO76.out hbt); have HO80 := qO (Kd.R_mono (ok' := fun k_ => lo79 ≤ k_ ∧ k_ < hi79) (Kd.R_lower (Kd.R_bound ho0) (below_size (below_step HB.out hx_))) (fun k_ hk_ => ⟨qa87, qa78⟩)); have HO81 := qO (Kd.R_mono (ok' := fun k_ => lo79 ≤ k_ ∧ k_ < hi79) (Kd.R_lower (Kd.R_bound ho1) (below_size (below_step HB.out hx_))) (fun k_ hk_ => ⟨qa87, qa78⟩)); replace HN := qO ((show hi79 ≤ w78.heap.size from Nat.le_of_eq hh_)); replace HB := qO (below_step HB.out hbt); replace HX := qO (Below.refl w78.heap.size w78); clear hb hbt hx_ hl_ hh_; (try clear ho0); obtain ⟨Aoo82, coo82, eoo82⟩ := Kd.R_slice HO80.out; (first | subst eoo82 | (injection eoo82 with f1_ f2_ f3_; have f4_ := f1_.symm; have f5_ := f3_.symm; clear f1_ f2_ f3_; subst f4_; subst f5_)); (try clear ho1); obtain ⟨Aoo83, coo83, eoo83⟩ := Kd.R_slice HO81.out; (first | subst eoo83 | (injection eoo83 with f1_ f2_ f3_; have f4_ := f1_.symm; have f5_ := f3_.symm; clear f1_ f2_ f3_; subst f4_; subst f5_)); refine hK.out _ _ (HS_.out _ HXR.out) (fun hHeld => ?_); clear hK K; refine norm_ (a' := ?_) ?_ ?_; rotate_left
     ·exact qa11
     refine one_ (i := 4) (N := some 35) laws_FnExactCommit.y14 rfl rfl qa5 qa51 (fun K hK => ?_); refine goes_ Try.func51 qa5 rfl #[.agg #[.slice Aoo77 t18.length coo77, .int .i64 t19], .agg #[.int .i64 t25, .slice Aoo82 t26.length coo82, .slice Aoo83 t27.length coo83]] (by rfl) rfl rfl qa26 ?_; (with_reducible refine (spec_Commit.calls k _ _ t18 t19 t25 _ _ t26 _ _ t27 t35 t36 t37 t38 _ ?side1 ?side2 ?side3 ?side4 ?side5 ?side6 A39.out).mono ?_); (case side1 => exact Kd.C_below (Kd.S_reads' HO76.out).2.2 HX.out); (case side2 => have z_ := Kd.S_reads' HO76.out; have y_ := z_.1; have x_ := z_.2.1; omega); (case side3 => exact Kd.C_below (Kd.R_reads' HO80.out).2.2 HX.out); (case side4 => have z_ := Kd.R_reads' HO80.out; have y_ := z_.1; have x_ := z_.2.1; omega); (case side5 => exact Kd.C_below (Kd.R_reads' HO81.out).2.2 HX.out); (case side6 => have z_ := Kd.R_reads' HO81.out; have y_ := z_.1; have x_ := z_.2.1; omega); rintro e w84 ⟨vt35, rfl, ho0, hb⟩; refine ⟨_, rfl, ?_⟩; have hx_ := lw10_hx hb HX.out; have hbt := below_step hx_ hb; obtain ⟨lo85, hi85, hl_, hh_, hc_⟩ := lw10_iv (Nat.le_trans HN.out (below_size hx_)) hb.size; have CHlo85 := qO (show hi79 ≤ lo85 ∧ lo85 ≤ hi85 from hc_); clear hc_ HO76 HO80 HO81; replace HXR := qO (below_step HXR.out hbt); replace BK72 := qO (blk_below (g := gb70) BK72.out hbt); have HO86 := qO (Kd.S_mono (ok' := fun k_ => lo85 ≤ k_ ∧ k_ < hi85) (Kd.S_lower (Kd.S_bound ho0) (below_size (below_step HB.out hx_))) (fun k_ hk_ => ⟨qa87, qa78⟩)); replace HN := qO ((show hi85 ≤ w84.heap.size from Nat.le_of_eq hh_)); replace HB := qO (below_step HB.out hbt); replace HX := qO (Below.refl w84.heap.size w84); clear hb hbt hx_ hl_ hh_; (try clear ho0); obtain ⟨Aoo87, coo87, eoo87⟩ := Kd.S_slice HO86.out; (first | subst eoo87 | (injection eoo87 with f1_ f2_ f3_; have f4_ := f1_.symm; have f5_ := f3_.symm; clear f1_ f2_ f3_; subst f4_; subst f5_)); refine hK.out _ _ (HS_.out _ HXR.out) (fun hHeld => ?_); clear hK K; refine norm_ (a' := ?_) ?_ ?_; rotate_left
     ·exact qa11
     refine qPu 5 30 laws_FnExactCommit.y15 rfl rfl qa5 qa8 qa2 ?_; refine qPu 6 36 laws_FnExactCommit.y16 rfl rfl qa5 qa8 qa2 ?_; refine qPu 7 37 laws_FnExactCommit.y17 rfl rfl qa5 qa8 qa2 ?_; refine qPu 8 38 laws_FnExactCommit.y3 rfl rfl qa5 qa8 qa2 ?_; refine norm_ ?_ (hcont (Aoo77, coo77, Aoo82, coo82, Aoo83, coo83, Aoo87, coo87, gb70, lo85, hi85, hi85) _ ⟨blk_below (g := gb1) BK3.out HXR.out, blk_below (g := gb5) BK7.out HXR.out, HO86.out, BK72.out, below_step HB.out HX.out, (by dsimp only; have z0_ := CHlo4.out; have z1_ := CHlo8.out; have z2_ := CHlo73.out; have z3_ := CHlo75.out; have z4_ := CHlo79.out; have z5_ := CHlo85.out; have h1_ := IVgb70.out; omega), HN.out⟩); simp only [putAll, Act.put, qzA, qzB, qzC, i64_w, i32_w]; (try rfl)
   clear BK3 BK7 HX HB HN HXR HS_; obtain ⟨Aoo88, coo88, Aoo90, coo90, Aoo92, coo92, Aoo94, coo94, gb96, lo97, hi97, nn98⟩ := s_
   dsimp only at hF_ ⊢
   obtain ⟨f0_, f1_, f2_, f3_, f4_, f5_, f6_⟩ := hF_; have BK3 := qO f0_; have BK7 := qO f1_; have HO95 := qO f2_; have BK99 := qO f3_; have HB := qO f4_; have CHlo97 := qO f5_; have HN := qO f6_; clear f0_ f1_ f2_ f3_ f4_ f5_ f6_; have HX := qO (Below.refl w17j.heap.size w17j); have IVgb96 := qO (show gb96 ≤ gb96 ∧ gb96 < gb96 + 1 from ⟨Nat.le_refl _, Nat.lt_succ_self _⟩); refine norm_ (a' := ?_) ?_ ?_; rotate_left
   ·simp only [putAll, Act.put, qzA, qzB, qzC, i64_w, i32_w]
    rfl
   refine one_ (i := 10) (N := none) laws_FnExactCommit.y18 rfl rfl qa5 qa51 (fun K hK => ?_); obtain ⟨hcz101, hcz102, hfz103, hfz104⟩ := qb2 BK99.out; refine lw10_store (w0 := w) gb96 28 [.slice Aoo94 t35.length coo94, .int .i64 t36] #[.slice none 0 0, .int .i64 0] (by rfl) rfl ?hr (by have h1_ := CHlo97.out; have z0_ := CHlo4.out; have z1_ := CHlo8.out; have z2_ := CHlo97.out; omega) HB.out BK99.out ?_; (case hr => exact qa10); clear hcz101 hcz102 hfz103 hfz104; intro w100 hbox hkp hb0; clear BK99; have hkt := Kept.then_ (Kept.of_below HX.out (fun k_ => gb96 ≤ k_ ∧ k_ < gb96 + 1)) hkp (fun k_ h_ => .inl h_); have zz_ := And.intro CHlo4.out (And.intro CHlo8.out (CHlo97.out)); replace BK3 := qO (blk_kept (g := gb1) BK3.out hkt (fun h2_ => lw10_no IVgb1.out h2_ qa29)); replace BK7 := qO (blk_kept (g := gb5) BK7.out hkt (fun h2_ => lw10_no IVgb5.out h2_ qa29)); replace HO95 := qO (Kd.S_kept HO95.out hkt (fun _ h1_ h2_ => lw10_no h1_ h2_ qa29)); have BK99 := qO ((show w100.heap[gb96]? = some (.cells #[.slice Aoo94 t35.length coo94, .int .i64 t36] 28 (0, 0)) from hbox)); replace HN := qO (Nat.le_trans HN.out hkt.1); replace HB := qO (hb0); replace HX := qO (Below.refl w100.heap.size w100); clear hkp hb0 hkt zz_ hbox; refine hK.out _ _ ⟨qc0 BK3.out, qc1 BK3.out, qc0 BK7.out, qc1 BK7.out, qc2 BK7.out⟩ (fun hHeld => ?_); clear hK K; refine qPu 11 7 laws_FnExactCommit.y19 rfl rfl qa5 qa8 qa2 ?_; refine qPu 12 8 laws_FnExactCommit.y20 rfl rfl qa5 qa8 qa2 ?_; refine done_ qa5 ?_; have hcz4_0_BK3 := qc0 BK3.out; have hcz4_1_BK3 := qc1 BK3.out
   go_wp2_with (first | ((with_reducible refine gate_callee (f := 13) rfl ?_); refine goesL_ (some 40) rfl rfl Try.func13 qa5 rfl #[.agg #[.slice A0_0 l0_0.length c0_0, .int .i64 a0_1]] rfl qa26 ?_; (with_reducible refine (laws_toStore.calls k _ _ l0_0 a0_1 t105 t106 _ ?side1 ?side2 A107.out).mono ?_); (case side1 => exact qa101); (case side2 => exact HC0_0.out); rintro e w108 ⟨vt105, rfl, ho0, hb⟩; refine ⟨_, rfl, ?_⟩; have hx_ := lw10_hx hb qa25; have hbt := below_step hx_ hb; obtain ⟨lo109, hi109, hl_, hh_, hc_⟩ := lw10_iv (Nat.le_trans HN.out (below_size hx_)) hb.size; have CHlo109 := qO (show nn98 ≤ lo109 ∧ lo109 ≤ hi109 from hc_); clear hc_; replace BK3 := qO (blk_below (g := gb1) BK3.out hbt); replace BK7 := qO (blk_below (g := gb5) BK7.out hbt); replace HO95 := qO (Kd.S_below HO95.out hbt); replace BK99 := qO (blk_below (g := gb96) BK99.out hbt); have HO110 := qO (Kd.S_mono (ok' := fun k_ => lo109 ≤ k_ ∧ k_ < hi109) (Kd.S_lower (Kd.S_bound ho0) (below_size (below_step HB.out hx_))) (fun k_ hk_ => ⟨qa87, qa78⟩)); replace HN := qO ((show hi109 ≤ w108.heap.size from Nat.le_of_eq hh_)); replace HB := qO (below_step HB.out hbt); replace HX := qO (Below.refl w108.heap.size w108); clear hb hbt hx_ hl_ hh_; (try clear ho0); obtain ⟨Aoo111, coo111, eoo111⟩ := Kd.S_slice HO110.out; (first | subst eoo111 | (injection eoo111 with f1_ f2_ f3_; have f4_ := f1_.symm; have f5_ := f3_.symm; clear f1_ f2_ f3_; subst f4_; subst f5_)); skip) | ((with_reducible refine gate_dst (N := 9) rfl ?_); refine qX 9 #[.slice none 0 0, .int .i64 0] 28 ?_; intro gb112 hg w113 hbox hb; have GEgb112 := qO (qa131 : _ ≤ gb112); have BK114r := qO hbox; have n0_ := qO (below_step qa25 hb); have hnb115 : gb112 ≠ gb1 := (fun e_ => by have z1_ := GEgb112.out; have z2_ := blk_lt BK3.out; omega); have hnb115c : gb1 ≠ gb112 := fun e_ => hnb115 e_.symm; have hnb116 : gb112 ≠ gb5 := (fun e_ => by have z1_ := GEgb112.out; have z2_ := blk_lt BK7.out; omega); have hnb116c : gb5 ≠ gb112 := fun e_ => hnb116 e_.symm; have hnb117 : gb112 ≠ gb96 := (fun e_ => by have z1_ := GEgb112.out; have z2_ := blk_lt BK99.out; omega); have hnb117c : gb96 ≠ gb112 := fun e_ => hnb117 e_.symm; clear HX; have HX := n0_; clear n0_ hb hg; have hcz118 := qc0 BK114r.out; have hfz119 := blk_frozen BK114r.out 0; have hcz120 := qc1 BK114r.out; have hfz121 := blk_frozen BK114r.out 1; have hcz6_0_BK7 : w113.cell? ⟨gb5, 0, none⟩ = some (.int .i64 a1_0) := (blk_cell (blk_below (g := gb5) BK7.out HX.out) 0).trans rfl; have hcz6_1_BK7 : w113.cell? ⟨gb5, 1, none⟩ = some (.slice A1_1 l1_1.length c1_1) := (blk_cell (blk_below (g := gb5) BK7.out HX.out) 1).trans rfl; have hcz6_2_BK7 : w113.cell? ⟨gb5, 2, none⟩ = some (.slice A1_2 l1_2.length c1_2) := (blk_cell (blk_below (g := gb5) BK7.out HX.out) 2).trans rfl; clear hbox) | ((with_reducible refine gate_callee (f := 45) rfl ?_); refine goesL_ (some 42) rfl rfl Try.func45 qa5 rfl #[.agg #[.int .i64 a1_0, .slice A1_1 l1_1.length c1_1, .slice A1_2 l1_2.length c1_2]] rfl qa26 ?_; (with_reducible refine (laws_toTxn.calls k a1_0 _ _ l1_1 _ _ l1_2 t122 t123 t124 _ ?side1 ?side2 ?side3 ?side4 A125.out).mono ?_); (case side1 => exact Kd.C_below HR1_1.out (below_step HB.out (by repeat (first | (with_reducible first | exact HX.out | apply qbA | apply qbN | apply qbD | refine qbS ?_ GEgb112.out) | exact HX.out)))); (case side2 => exact HC1_1.out); (case side3 => exact Kd.C_below HR1_2.out (below_step HB.out (by repeat (first | (with_reducible first | exact HX.out | apply qbA | apply qbN | apply qbD | refine qbS ?_ GEgb112.out) | exact HX.out)))); (case side4 => exact HC1_2.out); rintro e w126 ⟨vt123, vt124, rfl, ho0, ho1, hb⟩; refine ⟨_, rfl, ?_⟩; have hx_ := lw10_hx hb (by repeat (first | (with_reducible first | exact HX.out | apply qbA | apply qbN | apply qbD | refine qbS ?_ GEgb112.out) | exact HX.out)); have hp_ := lw10_lt (g := gb112) (o := .cells #[.slice Aoo111 t105.length coo111, .int .i64 t106] 28 (0, 0)) hb (by (with_reducible repeat (first | refine qkN ?_ _ | refine qkD ?_ | refine qkA ?_ _)); refine blk_put (cs := #[.slice Aoo111 t105.length coo111, .int .i64 0]) ?_ 1 _ rfl; (with_reducible repeat (first | refine qkN ?_ _ | refine qkD ?_ | refine qkA ?_ _)); refine blk_put (cs := #[.slice none 0 0, .int .i64 0]) ?_ 0 _ rfl; (with_reducible repeat (first | refine qkN ?_ _ | refine qkD ?_ | refine qkA ?_ _)); exact BK114r.out); have CHgb112 := qO (show hi109 ≤ gb112 from Nat.le_trans HN.out GEgb112.out); have hbt := below_step hx_ hb; obtain ⟨lo127, hi127, hl_, hh_, hc_⟩ := lw10_iv (hp_.1) hb.size; have CHlo127 := qO (show gb112 + 1 ≤ lo127 ∧ lo127 ≤ hi127 from hc_); clear hc_; have BK114 := qO (hp_.2); replace BK3 := qO (blk_below (g := gb1) BK3.out hbt); replace BK7 := qO (blk_below (g := gb5) BK7.out hbt); replace HO95 := qO (Kd.S_below HO95.out hbt); replace BK99 := qO (blk_below (g := gb96) BK99.out hbt); replace HO110 := qO (Kd.S_below HO110.out hbt); have HO128 := qO (Kd.R_mono (ok' := fun k_ => lo127 ≤ k_ ∧ k_ < hi127) (Kd.R_lower (Kd.R_bound ho0) (below_size (below_step HB.out hx_))) (fun k_ hk_ => ⟨qa87, qa78⟩)); have HO129 := qO (Kd.R_mono (ok' := fun k_ => lo127 ≤ k_ ∧ k_ < hi127) (Kd.R_lower (Kd.R_bound ho1) (below_size (below_step HB.out hx_))) (fun k_ hk_ => ⟨qa87, qa78⟩)); replace HN := qO ((show hi127 ≤ w126.heap.size from Nat.le_of_eq hh_)); replace HB := qO (below_step HB.out hbt); replace HX := qO (Below.refl w126.heap.size w126); have IVgb112 := qO (show gb112 ≤ gb112 ∧ gb112 < gb112 + 1 from ⟨Nat.le_refl _, Nat.lt_succ_self _⟩); clear hb hbt hx_ hp_ hl_ hh_; (try clear ho0); obtain ⟨Aoo130, coo130, eoo130⟩ := Kd.R_slice HO128.out; (first | subst eoo130 | (injection eoo130 with f1_ f2_ f3_; have f4_ := f1_.symm; have f5_ := f3_.symm; clear f1_ f2_ f3_; subst f4_; subst f5_)); (try clear ho1); obtain ⟨Aoo131, coo131, eoo131⟩ := Kd.R_slice HO129.out; (first | subst eoo131 | (injection eoo131 with f1_ f2_ f3_; have f4_ := f1_.symm; have f5_ := f3_.symm; clear f1_ f2_ f3_; subst f4_; subst f5_)); skip) | ((with_reducible refine gate_dst (N := 10) rfl ?_); refine qX 10 #[.int .i64 0, .slice none 0 0, .slice none 0 0] 65 ?_; intro gb132 hg w133 hbox hb; have GEgb132 := qO (qa131 : _ ≤ gb132); have BK134r := qO hbox; have n0_ := qO (below_step qa25 hb); have hnb135 : gb132 ≠ gb1 := (fun e_ => by have z1_ := GEgb132.out; have z2_ := blk_lt BK3.out; omega); have hnb135c : gb1 ≠ gb132 := fun e_ => hnb135 e_.symm; have hnb136 : gb132 ≠ gb5 := (fun e_ => by have z1_ := GEgb132.out; have z2_ := blk_lt BK7.out; omega); have hnb136c : gb5 ≠ gb132 := fun e_ => hnb136 e_.symm; have hnb137 : gb132 ≠ gb96 := (fun e_ => by have z1_ := GEgb132.out; have z2_ := blk_lt BK99.out; omega); have hnb137c : gb96 ≠ gb132 := fun e_ => hnb137 e_.symm; have hnb138 : gb132 ≠ gb112 := (fun e_ => by have z1_ := GEgb132.out; have z2_ := blk_lt BK114.out; omega); have hnb138c : gb112 ≠ gb132 := fun e_ => hnb138 e_.symm; clear HX; have HX := n0_; clear n0_ hb hg; have hcz139 := qc0 BK134r.out; have hfz140 := blk_frozen BK134r.out 0; have hcz141 := qc1 BK134r.out; have hfz142 := blk_frozen BK134r.out 1; have hcz143 := qc2 BK134r.out; have hfz144 := blk_frozen BK134r.out 2; have hcz8_0_BK114 : w133.cell? ⟨gb112, 0, none⟩ = some (.slice Aoo111 t105.length coo111) := (blk_cell (blk_below (g := gb112) BK114.out HX.out) 0).trans rfl; have hcz8_1_BK114 : w133.cell? ⟨gb112, 1, none⟩ = some (.int .i64 t106) := (blk_cell (blk_below (g := gb112) BK114.out HX.out) 1).trans rfl; clear hbox) | ((with_reducible refine gate_callee (f := 52) rfl ?_); refine goesL_ (some 46) rfl rfl Try.func52 qa5 rfl #[.agg #[.slice Aoo111 t105.length coo111, .int .i64 t106], .agg #[.int .i64 t122, .slice Aoo130 t123.length coo130, .slice Aoo131 t124.length coo131]] rfl qa26 ?_; (with_reducible refine (impl_Commit.calls k _ _ t105 t106 t122 _ _ t123 _ _ t124 t145 t146 t147 t148 _ ?side1 ?side2 ?side3 ?side4 ?side5 ?side6 A149.out).mono ?_); (case side1 => exact Kd.C_below (Kd.S_reads' HO110.out).2.2 (by repeat (first | (with_reducible first | exact HX.out | apply qbA | apply qbN | apply qbD | refine qbS ?_ GEgb132.out) | exact HX.out))); (case side2 => have z_ := Kd.S_reads' HO110.out; have y_ := z_.1; have x_ := z_.2.1; omega); (case side3 => exact Kd.C_below (Kd.R_reads' HO128.out).2.2 (by repeat (first | (with_reducible first | exact HX.out | apply qbA | apply qbN | apply qbD | refine qbS ?_ GEgb132.out) | exact HX.out))); (case side4 => have z_ := Kd.R_reads' HO128.out; have y_ := z_.1; have x_ := z_.2.1; omega); (case side5 => exact Kd.C_below (Kd.R_reads' HO129.out).2.2 (by repeat (first | (with_reducible first | exact HX.out | apply qbA | apply qbN | apply qbD | refine qbS ?_ GEgb132.out) | exact HX.out))); (case side6 => have z_ := Kd.R_reads' HO129.out; have y_ := z_.1; have x_ := z_.2.1; omega); rintro e w150 ⟨vt145, rfl, ho0, hb⟩; refine ⟨_, rfl, ?_⟩; have hx_ := lw10_hx hb (by repeat (first | (with_reducible first | exact HX.out | apply qbA | apply qbN | apply qbD | refine qbS ?_ GEgb132.out) | exact HX.out)); have hp_ := lw10_lt (g := gb132) (o := .cells #[.int .i64 t122, .slice Aoo130 t123.length coo130, .slice Aoo131 t124.length coo131] 65 (0, 0)) hb (by (with_reducible repeat (first | refine qkN ?_ _ | refine qkD ?_ | refine qkA ?_ _)); refine blk_put (cs := #[.int .i64 t122, .slice Aoo130 t123.length coo130, .slice none 0 0]) ?_ 2 _ rfl; (with_reducible repeat (first | refine qkN ?_ _ | refine qkD ?_ | refine qkA ?_ _)); refine blk_put (cs := #[.int .i64 t122, .slice none 0 0, .slice none 0 0]) ?_ 1 _ rfl; (with_reducible repeat (first | refine qkN ?_ _ | refine qkD ?_ | refine qkA ?_ _)); refine blk_put (cs := #[.int .i64 0, .slice none 0 0, .slice none 0 0]) ?_ 0 _ rfl; (with_reducible repeat (first | refine qkN ?_ _ | refine qkD ?_ | refine qkA ?_ _)); exact BK134r.out); have CHgb132 := qO (show hi127 ≤ gb132 from Nat.le_trans HN.out GEgb132.out); have hbt := below_step hx_ hb; obtain ⟨lo151, hi151, hl_, hh_, hc_⟩ := lw10_iv (hp_.1) hb.size; have CHlo151 := qO (show gb132 + 1 ≤ lo151 ∧ lo151 ≤ hi151 from hc_); clear hc_; have BK134 := qO (hp_.2); replace BK3 := qO (blk_below (g := gb1) BK3.out hbt); replace BK7 := qO (blk_below (g := gb5) BK7.out hbt); replace HO95 := qO (Kd.S_below HO95.out hbt); replace BK99 := qO (blk_below (g := gb96) BK99.out hbt); replace HO110 := qO (Kd.S_below HO110.out hbt); replace BK114 := qO (blk_below (g := gb112) BK114.out hbt); replace HO128 := qO (Kd.R_below HO128.out hbt); replace HO129 := qO (Kd.R_below HO129.out hbt); have HO152 := qO (Kd.S_mono (ok' := fun k_ => lo151 ≤ k_ ∧ k_ < hi151) (Kd.S_lower (Kd.S_bound ho0) (below_size (below_step HB.out hx_))) (fun k_ hk_ => ⟨qa87, qa78⟩)); replace HN := qO ((show hi151 ≤ w150.heap.size from Nat.le_of_eq hh_)); replace HB := qO (below_step HB.out hbt); replace HX := qO (Below.refl w150.heap.size w150); have IVgb132 := qO (show gb132 ≤ gb132 ∧ gb132 < gb132 + 1 from ⟨Nat.le_refl _, Nat.lt_succ_self _⟩); clear hb hbt hx_ hp_ hl_ hh_; (try clear ho0); obtain ⟨Aoo153, coo153, eoo153⟩ := Kd.S_slice HO152.out; (first | subst eoo153 | (injection eoo153 with f1_ f2_ f3_; have f4_ := f1_.symm; have f5_ := f3_.symm; clear f1_ f2_ f3_; subst f4_; subst f5_)); skip) | ((with_reducible refine gate_dst (N := 11) rfl ?_); refine qX 11 #[.slice none 0 0, .int .i64 0] 28 ?_; intro gb154 hg w155 hbox hb; have GEgb154 := qO (qa131 : _ ≤ gb154); have BK156r := qO hbox; have n0_ := qO (below_step qa25 hb); have hnb157 : gb154 ≠ gb1 := (fun e_ => by have z1_ := GEgb154.out; have z2_ := blk_lt BK3.out; omega); have hnb157c : gb1 ≠ gb154 := fun e_ => hnb157 e_.symm; have hnb158 : gb154 ≠ gb5 := (fun e_ => by have z1_ := GEgb154.out; have z2_ := blk_lt BK7.out; omega); have hnb158c : gb5 ≠ gb154 := fun e_ => hnb158 e_.symm; have hnb159 : gb154 ≠ gb96 := (fun e_ => by have z1_ := GEgb154.out; have z2_ := blk_lt BK99.out; omega); have hnb159c : gb96 ≠ gb154 := fun e_ => hnb159 e_.symm; have hnb160 : gb154 ≠ gb112 := (fun e_ => by have z1_ := GEgb154.out; have z2_ := blk_lt BK114.out; omega); have hnb160c : gb112 ≠ gb154 := fun e_ => hnb160 e_.symm; have hnb161 : gb154 ≠ gb132 := (fun e_ => by have z1_ := GEgb154.out; have z2_ := blk_lt BK134.out; omega); have hnb161c : gb132 ≠ gb154 := fun e_ => hnb161 e_.symm; clear HX; have HX := n0_; clear n0_ hb hg; have hcz162 := qc0 BK156r.out; have hfz163 := blk_frozen BK156r.out 0; have hcz164 := qc1 BK156r.out; have hfz165 := blk_frozen BK156r.out 1; have hcz10_0_BK99 : w155.cell? ⟨gb96, 0, none⟩ = some (.slice Aoo94 t35.length coo94) := (blk_cell (blk_below (g := gb96) BK99.out HX.out) 0).trans rfl; have hcz10_1_BK99 : w155.cell? ⟨gb96, 1, none⟩ = some (.int .i64 t36) := (blk_cell (blk_below (g := gb96) BK99.out HX.out) 1).trans rfl; clear hbox) | ((with_reducible refine gate_callee (f := 15) rfl ?_); refine goesL_ (some 52) rfl rfl Try.func15 qa5 rfl #[.agg #[.slice Aoo153 t145.length coo153, .int .i64 t146], .agg #[.slice Aoo94 t35.length coo94, .int .i64 t36]] rfl qa26 ?_; (with_reducible refine (laws_eqStore.calls k _ _ t145 t146 _ _ t35 t36 true _ ?side1 ?side2 ?side3 ?side4 A167.out).mono ?_); (case side1 => exact Kd.C_below (Kd.S_reads' HO152.out).2.2 (by repeat (first | (with_reducible first | exact HX.out | apply qbA | apply qbN | apply qbD | refine qbS ?_ GEgb154.out) | exact HX.out))); (case side2 => exact qa165); (case side3 => exact Kd.C_below (Kd.S_reads' HO95.out).2.2 (by repeat (first | (with_reducible first | exact HX.out | apply qbA | apply qbN | apply qbD | refine qbS ?_ GEgb154.out) | exact HX.out))); (case side4 => exact qa181); rintro e w168 ⟨rfl, hb⟩; refine ⟨_, rfl, ?_⟩; have hx_ := lw10_hx hb (by repeat (first | (with_reducible first | exact HX.out | apply qbA | apply qbN | apply qbD | refine qbS ?_ GEgb154.out) | exact HX.out)); have hp_ := lw10_lt (g := gb154) (o := .cells #[.slice Aoo153 t145.length coo153, .int .i64 t146] 28 (0, 0)) hb (by (with_reducible repeat (first | refine qkN ?_ _ | refine qkD ?_ | refine qkA ?_ _)); refine blk_put (cs := #[.slice Aoo153 t145.length coo153, .int .i64 0]) ?_ 1 _ rfl; (with_reducible repeat (first | refine qkN ?_ _ | refine qkD ?_ | refine qkA ?_ _)); refine blk_put (cs := #[.slice none 0 0, .int .i64 0]) ?_ 0 _ rfl; (with_reducible repeat (first | refine qkN ?_ _ | refine qkD ?_ | refine qkA ?_ _)); exact BK156r.out); have CHgb154 := qO (show hi151 ≤ gb154 from Nat.le_trans HN.out GEgb154.out); have hbt := below_step hx_ hb; have BK156 := qO (hp_.2); replace BK3 := qO (blk_below (g := gb1) BK3.out hbt); replace BK7 := qO (blk_below (g := gb5) BK7.out hbt); replace HO95 := qO (Kd.S_below HO95.out hbt); replace BK99 := qO (blk_below (g := gb96) BK99.out hbt); replace HO110 := qO (Kd.S_below HO110.out hbt); replace BK114 := qO (blk_below (g := gb112) BK114.out hbt); replace HO128 := qO (Kd.R_below HO128.out hbt); replace HO129 := qO (Kd.R_below HO129.out hbt); replace BK134 := qO (blk_below (g := gb132) BK134.out hbt); replace HO152 := qO (Kd.S_below HO152.out hbt); replace HN := qO (Nat.le_trans (hp_.1) hb.size); replace HB := qO (below_step HB.out hbt); replace HX := qO (Below.refl w168.heap.size w168); have IVgb154 := qO (show gb154 ≤ gb154 ∧ gb154 < gb154 + 1 from ⟨Nat.le_refl _, Nat.lt_succ_self _⟩); clear hb hbt hx_ hp_; skip))
   try go_wp2
   have hdr_ := qO (qbD HX.out); refine start_ (n := 5) (S := fun w' => w'.cell? ⟨gb112, 0, none⟩ = some (.slice Aoo111 t105.length coo111) ∧ w'.cell? ⟨gb112, 1, none⟩ = some (.int .i64 t106) ∧ w'.cell? ⟨gb1, 0, none⟩ = some (.slice A0_0 l0_0.length c0_0) ∧ w'.cell? ⟨gb1, 1, none⟩ = some (.int .i64 a0_1)) (ds := []) #[qf,qf,qf,qf,qf] qa5 rfl rfl ⟨(blk_cell (blk_below (g := gb112) BK114.out hdr_.out) 0).trans rfl, (blk_cell (blk_below (g := gb112) BK114.out hdr_.out) 1).trans rfl, (blk_cell (blk_below (g := gb1) BK3.out hdr_.out) 0).trans rfl, (blk_cell (blk_below (g := gb1) BK3.out hdr_.out) 1).trans rfl⟩ (fun hHeld => ?_); generalize w168.drew = w170 at hdr_ hHeld ⊢; clear HX; have HX := hdr_; clear hdr_; refine qTk 0 64 #[qt,qf,qf,qf,qf] rfl rfl qa5 qa45 hHeld qa2 ?_; refine qTk 1 65 #[qt,qt,qf,qf,qf] rfl rfl qa5 qa45 hHeld qa2 ?_; refine one_ (i := 2) (N := some 66) #[qt,qt,qt,qf,qf] rfl rfl qa5 qa51 (fun K hK => ?_); refine goes_ Try.func13 qa5 rfl #[.agg #[.slice A0_0 l0_0.length c0_0, .int .i64 a0_1]] (by rfl) rfl rfl qa26 ?_; (with_reducible refine (laws_toStore.calls k _ _ l0_0 a0_1 t171 t172 _ ?side1 ?side2 A173.out).mono ?_); (case side1 => exact qa169); (case side2 => exact HC0_0.out); rintro e w174 ⟨vt171, rfl, ho0, hb⟩; refine ⟨_, rfl, ?_⟩; have hx_ := lw10_hx hb HX.out; have hbt := below_step hx_ hb; obtain ⟨lo175, hi175, hl_, hh_, hc_⟩ := lw10_iv (Nat.le_trans HN.out (below_size hx_)) hb.size; have CHlo175 := qO (show gb154 + 1 ≤ lo175 ∧ lo175 ≤ hi175 from hc_); clear hc_; replace BK3 := qO (blk_below (g := gb1) BK3.out hbt); replace BK7 := qO (blk_below (g := gb5) BK7.out hbt); replace HO95 := qO (Kd.S_below HO95.out hbt); replace BK99 := qO (blk_below (g := gb96) BK99.out hbt); replace HO110 := qO (Kd.S_below HO110.out hbt); replace BK114 := qO (blk_below (g := gb112) BK114.out hbt); replace HO128 := qO (Kd.R_below HO128.out hbt); replace HO129 := qO (Kd.R_below HO129.out hbt); replace BK134 := qO (blk_below (g := gb132) BK134.out hbt); replace HO152 := qO (Kd.S_below HO152.out hbt); replace BK156 := qO (blk_below (g := gb154) BK156.out hbt); have HO176 := qO (Kd.S_mono (ok' := fun k_ => lo175 ≤ k_ ∧ k_ < hi175) (Kd.S_lower (Kd.S_bound ho0) (below_size (below_step HB.out hx_))) (fun k_ hk_ => ⟨qa87, qa78⟩)); replace HN := qO ((show hi175 ≤ w174.heap.size from Nat.le_of_eq hh_)); replace HB := qO (below_step HB.out hbt); replace HX := qO (Below.refl w174.heap.size w174); clear hb hbt hx_ hl_ hh_; (try clear ho0); obtain ⟨Aoo177, coo177, eoo177⟩ := Kd.S_slice HO176.out; (first | subst eoo177 | (injection eoo177 with f1_ f2_ f3_; have f4_ := f1_.symm; have f5_ := f3_.symm; clear f1_ f2_ f3_; subst f4_; subst f5_)); refine hK.out _ _ ⟨qc0 BK114.out, qc1 BK114.out, qc0 BK3.out, qc1 BK3.out⟩ (fun hHeld => ?_); clear hK K; refine norm_ (a' := ?_) ?_ ?_; rotate_left
   ·exact qa11
   refine one_ (i := 3) (N := some 67) #[qt,qt,qt,qt,qf] rfl rfl qa5 qa51 (fun K hK => ?_); refine goes_ Try.func15 qa5 rfl #[.agg #[.slice Aoo111 t105.length coo111, .int .i64 t106], .agg #[.slice Aoo177 t171.length coo177, .int .i64 t172]] (by rfl) rfl rfl qa26 ?_; (with_reducible refine (laws_eqStore.calls k _ _ t105 t106 _ _ t171 t172 true _ ?side1 ?side2 ?side3 ?side4 A179.out).mono ?_); (case side1 => exact Kd.C_below (Kd.S_reads' HO110.out).2.2 HX.out); (case side2 => have z_ := Kd.S_reads' HO110.out; have y_ := z_.1; have x_ := z_.2.1; omega); (case side3 => exact Kd.C_below (Kd.S_reads' HO176.out).2.2 HX.out); (case side4 => have z_ := Kd.S_reads' HO176.out; have y_ := z_.1; have x_ := z_.2.1; omega); rintro e w180 ⟨rfl, hb⟩; refine ⟨_, rfl, ?_⟩; have hx_ := lw10_hx hb HX.out; have hbt := below_step hx_ hb; replace BK3 := qO (blk_below (g := gb1) BK3.out hbt); replace BK7 := qO (blk_below (g := gb5) BK7.out hbt); replace HO95 := qO (Kd.S_below HO95.out hbt); replace BK99 := qO (blk_below (g := gb96) BK99.out hbt); replace HO110 := qO (Kd.S_below HO110.out hbt); replace BK114 := qO (blk_below (g := gb112) BK114.out hbt); replace HO128 := qO (Kd.R_below HO128.out hbt); replace HO129 := qO (Kd.R_below HO129.out hbt); replace BK134 := qO (blk_below (g := gb132) BK134.out hbt); replace HO152 := qO (Kd.S_below HO152.out hbt); replace BK156 := qO (blk_below (g := gb154) BK156.out hbt); replace HO176 := qO (Kd.S_below HO176.out hbt); replace HN := qO (Nat.le_trans (Nat.le_trans HN.out (below_size hx_)) hb.size); replace HB := qO (below_step HB.out hbt); replace HX := qO (Below.refl w180.heap.size w180); clear hb hbt hx_; refine hK.out _ _ ⟨qc0 BK114.out, qc1 BK114.out, qc0 BK3.out, qc1 BK3.out⟩ (fun hHeld => ?_); clear hK K; refine norm_ (a' := ?_) ?_ ?_; rotate_left
   ·exact qa11
   refine qPu 4 68 #[qt,qt,qt,qt,qt] rfl rfl qa5 qa8 qa2 ?_; refine done_ qa5 ?_
   skip
   try go_wp2
   have hdr_ := qO (qbD HX.out); refine start_ (n := 5) (S := fun w' => w'.cell? ⟨gb132, 0, none⟩ = some (.int .i64 t122) ∧ w'.cell? ⟨gb132, 1, none⟩ = some (.slice Aoo130 t123.length coo130) ∧ w'.cell? ⟨gb132, 2, none⟩ = some (.slice Aoo131 t124.length coo131) ∧ w'.cell? ⟨gb5, 0, none⟩ = some (.int .i64 a1_0) ∧ w'.cell? ⟨gb5, 1, none⟩ = some (.slice A1_1 l1_1.length c1_1) ∧ w'.cell? ⟨gb5, 2, none⟩ = some (.slice A1_2 l1_2.length c1_2)) (ds := []) #[qf,qf,qf,qf,qf] qa5 rfl rfl ⟨(blk_cell (blk_below (g := gb132) BK134.out hdr_.out) 0).trans rfl, (blk_cell (blk_below (g := gb132) BK134.out hdr_.out) 1).trans rfl, (blk_cell (blk_below (g := gb132) BK134.out hdr_.out) 2).trans rfl, (blk_cell (blk_below (g := gb5) BK7.out hdr_.out) 0).trans rfl, (blk_cell (blk_below (g := gb5) BK7.out hdr_.out) 1).trans rfl, (blk_cell (blk_below (g := gb5) BK7.out hdr_.out) 2).trans rfl⟩ (fun hHeld => ?_); generalize w180.drew = w182 at hdr_ hHeld ⊢; clear HX; have HX := hdr_; clear hdr_; refine qTk 0 69 #[qt,qf,qf,qf,qf] rfl rfl qa5 qa109 hHeld qa2 ?_; refine qTk 1 70 #[qt,qt,qf,qf,qf] rfl rfl qa5 qa109 hHeld qa2 ?_; refine one_ (i := 2) (N := some 71) #[qt,qt,qt,qf,qf] rfl rfl qa5 qa51 (fun K hK => ?_); refine goes_ Try.func45 qa5 rfl #[.agg #[.int .i64 a1_0, .slice A1_1 l1_1.length c1_1, .slice A1_2 l1_2.length c1_2]] (by rfl) rfl rfl qa26 ?_; (with_reducible refine (laws_toTxn.calls k a1_0 _ _ l1_1 _ _ l1_2 t183 t184 t185 _ ?side1 ?side2 ?side3 ?side4 A186.out).mono ?_); (case side1 => exact qa150); (case side2 => exact HC1_1.out); (case side3 => exact qa151); (case side4 => exact HC1_2.out); rintro e w187 ⟨vt184, vt185, rfl, ho0, ho1, hb⟩; refine ⟨_, rfl, ?_⟩; have hx_ := lw10_hx hb HX.out; have hbt := below_step hx_ hb; obtain ⟨lo188, hi188, hl_, hh_, hc_⟩ := lw10_iv (Nat.le_trans HN.out (below_size hx_)) hb.size; have CHlo188 := qO (show hi175 ≤ lo188 ∧ lo188 ≤ hi188 from hc_); clear hc_; replace BK3 := qO (blk_below (g := gb1) BK3.out hbt); replace BK7 := qO (blk_below (g := gb5) BK7.out hbt); replace HO95 := qO (Kd.S_below HO95.out hbt); replace BK99 := qO (blk_below (g := gb96) BK99.out hbt); replace HO110 := qO (Kd.S_below HO110.out hbt); replace BK114 := qO (blk_below (g := gb112) BK114.out hbt); replace HO128 := qO (Kd.R_below HO128.out hbt); replace HO129 := qO (Kd.R_below HO129.out hbt); replace BK134 := qO (blk_below (g := gb132) BK134.out hbt); replace HO152 := qO (Kd.S_below HO152.out hbt); replace BK156 := qO (blk_below (g := gb154) BK156.out hbt); replace HO176 := qO (Kd.S_below HO176.out hbt); have HO189 := qO (Kd.R_mono (ok' := fun k_ => lo188 ≤ k_ ∧ k_ < hi188) (Kd.R_lower (Kd.R_bound ho0) (below_size (below_step HB.out hx_))) (fun k_ hk_ => ⟨qa87, qa78⟩)); have HO190 := qO (Kd.R_mono (ok' := fun k_ => lo188 ≤ k_ ∧ k_ < hi188) (Kd.R_lower (Kd.R_bound ho1) (below_size (below_step HB.out hx_))) (fun k_ hk_ => ⟨qa87, qa78⟩)); replace HN := qO ((show hi188 ≤ w187.heap.size from Nat.le_of_eq hh_)); replace HB := qO (below_step HB.out hbt); replace HX := qO (Below.refl w187.heap.size w187); clear hb hbt hx_ hl_ hh_; (try clear ho0); obtain ⟨Aoo191, coo191, eoo191⟩ := Kd.R_slice HO189.out; (first | subst eoo191 | (injection eoo191 with f1_ f2_ f3_; have f4_ := f1_.symm; have f5_ := f3_.symm; clear f1_ f2_ f3_; subst f4_; subst f5_)); (try clear ho1); obtain ⟨Aoo192, coo192, eoo192⟩ := Kd.R_slice HO190.out; (first | subst eoo192 | (injection eoo192 with f1_ f2_ f3_; have f4_ := f1_.symm; have f5_ := f3_.symm; clear f1_ f2_ f3_; subst f4_; subst f5_)); refine hK.out _ _ ⟨qc0 BK134.out, qc1 BK134.out, qc2 BK134.out, qc0 BK7.out, qc1 BK7.out, qc2 BK7.out⟩ (fun hHeld => ?_); clear hK K; refine norm_ (a' := ?_) ?_ ?_; rotate_left
   ·exact qa11
   refine one_ (i := 3) (N := some 72) #[qt,qt,qt,qt,qf] rfl rfl qa5 qa51 (fun K hK => ?_); refine goes_ Try.func47 qa5 rfl #[.agg #[.int .i64 t122, .slice Aoo130 t123.length coo130, .slice Aoo131 t124.length coo131], .agg #[.int .i64 t183, .slice Aoo191 t184.length coo191, .slice Aoo192 t185.length coo192]] (by rfl) rfl rfl qa26 ?_; (with_reducible refine (laws_eqTxn.calls k t122 _ _ t123 _ _ t124 t183 _ _ t184 _ _ t185 true _ ?side1 ?side2 ?side3 ?side4 ?side5 ?side6 ?side7 ?side8 A194.out).mono ?_); (case side1 => exact Kd.C_below (Kd.R_reads' HO128.out).2.2 HX.out); (case side2 => have z_ := Kd.R_reads' HO128.out; have y_ := z_.1; have x_ := z_.2.1; omega); (case side3 => exact Kd.C_below (Kd.R_reads' HO129.out).2.2 HX.out); (case side4 => have z_ := Kd.R_reads' HO129.out; have y_ := z_.1; have x_ := z_.2.1; omega); (case side5 => exact Kd.C_below (Kd.R_reads' HO189.out).2.2 HX.out); (case side6 => have z_ := Kd.R_reads' HO189.out; have y_ := z_.1; have x_ := z_.2.1; omega); (case side7 => exact Kd.C_below (Kd.R_reads' HO190.out).2.2 HX.out); (case side8 => have z_ := Kd.R_reads' HO190.out; have y_ := z_.1; have x_ := z_.2.1; omega); rintro e w195 ⟨rfl, hb⟩; refine ⟨_, rfl, ?_⟩; have hx_ := lw10_hx hb HX.out; have hbt := below_step hx_ hb; replace BK3 := qO (blk_below (g := gb1) BK3.out hbt); replace BK7 := qO (blk_below (g := gb5) BK7.out hbt); replace HO95 := qO (Kd.S_below HO95.out hbt); replace BK99 := qO (blk_below (g := gb96) BK99.out hbt); replace HO110 := qO (Kd.S_below HO110.out hbt); replace BK114 := qO (blk_below (g := gb112) BK114.out hbt); replace HO128 := qO (Kd.R_below HO128.out hbt); replace HO129 := qO (Kd.R_below HO129.out hbt); replace BK134 := qO (blk_below (g := gb132) BK134.out hbt); replace HO152 := qO (Kd.S_below HO152.out hbt); replace BK156 := qO (blk_below (g := gb154) BK156.out hbt); replace HO176 := qO (Kd.S_below HO176.out hbt); replace HO189 := qO (Kd.R_below HO189.out hbt); replace HO190 := qO (Kd.R_below HO190.out hbt); replace HN := qO (Nat.le_trans (Nat.le_trans HN.out (below_size hx_)) hb.size); replace HB := qO (below_step HB.out hbt); replace HX := qO (Below.refl w195.heap.size w195); clear hb hbt hx_; refine hK.out _ _ ⟨qc0 BK134.out, qc1 BK134.out, qc2 BK134.out, qc0 BK7.out, qc1 BK7.out, qc2 BK7.out⟩ (fun hHeld => ?_); clear hK K; refine norm_ (a' := ?_) ?_ ?_; rotate_left
   ·exact qa11
   refine qPu 4 73 #[qt,qt,qt,qt,qt] rfl rfl qa5 qa8 qa2 ?_; refine done_ qa5 ?_; have hcz13_0_BK114 := qc0 BK114.out; have hcz13_1_BK114 := qc1 BK114.out
   go_wp2_with (first | ((with_reducible refine gate_callee (f := 16) rfl ?_); refine goesL_ (some 76) rfl rfl Try.func16 qa5 rfl #[.agg #[.slice Aoo111 t105.length coo111, .int .i64 t106], .int .i64 1] rfl qa26 ?_; (with_reducible refine (laws_markStore.calls k (fun k_ => lo109 ≤ k_ ∧ k_ < hi109) _ t105 t106 1 t197 t198 w _ ?sB ?s0 A199.out).mono ?_); (case sB => exact qa135); (case s0 => exact Kd.S_below HO110.out (by repeat (first | (with_reducible first | exact HX.out | apply qbA | apply qbN | apply qbD) | exact HX.out))); rintro e w200 ⟨rfl, hy0, hb0, hkp⟩; refine ⟨_, rfl, ?_⟩; have hkt := Kept.then_ (Kept.of_below qa25 (fun k_ => (lo109 ≤ k_ ∧ k_ < hi109))) hkp (fun k_ h_ => .inl h_); have zz_ := And.intro CHlo4.out (And.intro CHlo8.out (And.intro CHlo97.out (And.intro CHlo109.out (And.intro CHgb112.out (And.intro CHlo127.out (And.intro CHgb132.out (And.intro CHlo151.out (And.intro CHgb154.out (And.intro CHlo175.out (CHlo188.out)))))))))); obtain ⟨lo201, hi201, hl_, hh_, hc_⟩ := lw10_ivk hkp (Nat.le_trans HN.out (below_size qa25)); have CHlo201 := qO (show hi188 ≤ lo201 ∧ lo201 ≤ hi201 from hc_); clear hc_; replace BK3 := qO (blk_kept (g := gb1) BK3.out hkt (fun h2_ => lw10_no IVgb1.out h2_ qa29)); replace BK7 := qO (blk_kept (g := gb5) BK7.out hkt (fun h2_ => lw10_no IVgb5.out h2_ qa29)); replace HO95 := qO (Kd.S_kept HO95.out hkt (fun _ h1_ h2_ => lw10_no h1_ h2_ qa29)); replace BK99 := qO (blk_kept (g := gb96) BK99.out hkt (fun h2_ => lw10_no IVgb96.out h2_ qa29)); replace BK114 := qO (blk_kept (g := gb112) BK114.out hkt (fun h2_ => lw10_no IVgb112.out h2_ qa29)); replace HO128 := qO (Kd.R_kept HO128.out hkt (fun _ h1_ h2_ => lw10_no h1_ h2_ qa29)); replace HO129 := qO (Kd.R_kept HO129.out hkt (fun _ h1_ h2_ => lw10_no h1_ h2_ qa29)); replace BK134 := qO (blk_kept (g := gb132) BK134.out hkt (fun h2_ => lw10_no IVgb132.out h2_ qa29)); replace HO152 := qO (Kd.S_kept HO152.out hkt (fun _ h1_ h2_ => lw10_no h1_ h2_ qa29)); replace BK156 := qO (blk_kept (g := gb154) BK156.out hkt (fun h2_ => lw10_no IVgb154.out h2_ qa29)); replace HO176 := qO (Kd.S_kept HO176.out hkt (fun _ h1_ h2_ => lw10_no h1_ h2_ qa29)); replace HO189 := qO (Kd.R_kept HO189.out hkt (fun _ h1_ h2_ => lw10_no h1_ h2_ qa29)); replace HO190 := qO (Kd.R_kept HO190.out hkt (fun _ h1_ h2_ => lw10_no h1_ h2_ qa29)); replace HO110 := qO ((show Kd.S (Kd.slice 43 k43) 41 w200 w.heap.size (fun k_ => (lo109 ≤ k_ ∧ k_ < hi109) ∨ (lo201 ≤ k_ ∧ k_ < hi201)) (.slice Aoo111 t105.length coo111) t198 from Kd.S_mono (Kd.S_bound hy0) (fun _ hk_ => hk_.1.elim (fun z_ => .inl z_) (fun z_ => .inr ⟨by rw [hl_]; exact z_, qa78⟩)))); replace HN := qO ((show hi201 ≤ w200.heap.size from Nat.le_of_eq hh_)); replace HB := qO (hb0); replace HX := qO (Below.refl w200.heap.size w200); clear hkp hb0 hkt zz_ hl_ hh_; (try clear hy0); have LEN202 := qO (Kd.S_reads' HO110.out).1; have hcz14_0_BK134 := qc0 BK134.out; have hcz14_1_BK134 := qc1 BK134.out; have hcz14_2_BK134 := qc2 BK134.out) | ((with_reducible refine gate_callee (f := 48) rfl ?_); refine goesL_ (some 79) rfl rfl Try.func48 qa5 rfl #[.agg #[.int .i64 t122, .slice Aoo130 t123.length coo130, .slice Aoo131 t124.length coo131], .int .i64 t197] rfl qa26 ?_; (with_reducible refine (laws_markTxn.calls k t122 (fun k_ => lo127 ≤ k_ ∧ k_ < hi127) _ t123 (fun k_ => lo127 ≤ k_ ∧ k_ < hi127) _ t124 t197 t203 t204 t205 w _ ?sB ?s0 ?s1 A206.out).mono ?_); (case sB => exact qa135); (case s0 => exact Kd.R_below HO128.out (by repeat (first | (with_reducible first | exact HX.out | apply qbA | apply qbN | apply qbD) | exact HX.out))); (case s1 => exact Kd.R_below HO129.out (by repeat (first | (with_reducible first | exact HX.out | apply qbA | apply qbN | apply qbD) | exact HX.out))); rintro e w207 ⟨rfl, hy0, hy1, hb0, hkp⟩; refine ⟨_, rfl, ?_⟩; have hkt := Kept.then_ (Kept.of_below qa25 (fun k_ => (lo127 ≤ k_ ∧ k_ < hi127) ∨ (lo127 ≤ k_ ∧ k_ < hi127))) hkp (fun k_ h_ => .inl h_); have zz_ := And.intro CHlo4.out (And.intro CHlo8.out (And.intro CHlo97.out (And.intro CHlo109.out (And.intro CHgb112.out (And.intro CHlo127.out (And.intro CHgb132.out (And.intro CHlo151.out (And.intro CHgb154.out (And.intro CHlo175.out (And.intro CHlo188.out (CHlo201.out))))))))))); obtain ⟨lo208, hi208, hl_, hh_, hc_⟩ := lw10_ivk hkp (Nat.le_trans HN.out (below_size qa25)); have CHlo208 := qO (show hi201 ≤ lo208 ∧ lo208 ≤ hi208 from hc_); clear hc_; replace BK3 := qO (blk_kept (g := gb1) BK3.out hkt (fun h2_ => lw10_no2 IVgb1.out h2_ qa29)); replace BK7 := qO (blk_kept (g := gb5) BK7.out hkt (fun h2_ => lw10_no2 IVgb5.out h2_ qa29)); replace HO95 := qO (Kd.S_kept HO95.out hkt (fun _ h1_ h2_ => lw10_no2 h1_ h2_ qa29)); replace BK99 := qO (blk_kept (g := gb96) BK99.out hkt (fun h2_ => lw10_no2 IVgb96.out h2_ qa29)); replace HO110 := qO (Kd.S_kept HO110.out hkt (fun _ h1_ h2_ => lw10_on2 h1_ h2_ qa29)); replace BK114 := qO (blk_kept (g := gb112) BK114.out hkt (fun h2_ => lw10_no2 IVgb112.out h2_ qa29)); replace BK134 := qO (blk_kept (g := gb132) BK134.out hkt (fun h2_ => lw10_no2 IVgb132.out h2_ qa29)); replace HO152 := qO (Kd.S_kept HO152.out hkt (fun _ h1_ h2_ => lw10_no2 h1_ h2_ qa29)); replace BK156 := qO (blk_kept (g := gb154) BK156.out hkt (fun h2_ => lw10_no2 IVgb154.out h2_ qa29)); replace HO176 := qO (Kd.S_kept HO176.out hkt (fun _ h1_ h2_ => lw10_no2 h1_ h2_ qa29)); replace HO189 := qO (Kd.R_kept HO189.out hkt (fun _ h1_ h2_ => lw10_no2 h1_ h2_ qa29)); replace HO190 := qO (Kd.R_kept HO190.out hkt (fun _ h1_ h2_ => lw10_no2 h1_ h2_ qa29)); replace HO128 := qO ((show Kd.R (Kd.int .i64) 3 w207 w.heap.size (fun k_ => (lo127 ≤ k_ ∧ k_ < hi127) ∨ (lo208 ≤ k_ ∧ k_ < hi208)) (.slice Aoo130 t123.length coo130) t204 from Kd.R_mono (Kd.R_bound hy0) (fun _ hk_ => hk_.1.elim (fun z_ => .inl (z_.elim (fun q_ => q_) (fun q_ => q_))) (fun z_ => .inr ⟨by rw [hl_]; exact z_, qa78⟩)))); replace HO129 := qO ((show Kd.R k58 58 w207 w.heap.size (fun k_ => (lo127 ≤ k_ ∧ k_ < hi127) ∨ (lo208 ≤ k_ ∧ k_ < hi208)) (.slice Aoo131 t124.length coo131) t205 from Kd.R_mono (Kd.R_bound hy1) (fun _ hk_ => hk_.1.elim (fun z_ => .inl (z_.elim (fun q_ => q_) (fun q_ => q_))) (fun z_ => .inr ⟨by rw [hl_]; exact z_, qa78⟩)))); replace HN := qO ((show hi208 ≤ w207.heap.size from Nat.le_of_eq hh_)); replace HB := qO (hb0); replace HX := qO (Below.refl w207.heap.size w207); clear hkp hb0 hkt zz_ hl_ hh_; (try clear hy0 hy1); have LEN209 := qO (Kd.R_reads' HO128.out).1; have LEN210 := qO (Kd.R_reads' HO129.out).1; have hcz15_0_BK99 := qc0 BK99.out; have hcz15_1_BK99 := qc1 BK99.out; have hcz15_0_BK156 := qc0 BK156.out; have hcz15_1_BK156 := qc1 BK156.out) | (go_at_call 15; (with_reducible refine (laws_eqStore.calls k _ _ t145 t146 _ _ t35 t36 true _ ?side1 ?side2 ?side3 ?side4 A212.out).mono ?_); (case side1 => exact qa122); (case side2 => exact qa165); (case side3 => exact qa160); (case side4 => exact qa181); rintro e w213 ⟨rfl, hb⟩; have hx_ := lw10_hx hb qa25; have hbt := below_step hx_ hb; replace BK3 := qO (blk_below (g := gb1) BK3.out hbt); replace BK7 := qO (blk_below (g := gb5) BK7.out hbt); replace HO95 := qO (Kd.S_below HO95.out hbt); replace BK99 := qO (blk_below (g := gb96) BK99.out hbt); replace HO110 := qO (Kd.S_below HO110.out hbt); replace BK114 := qO (blk_below (g := gb112) BK114.out hbt); replace HO128 := qO (Kd.R_below HO128.out hbt); replace HO129 := qO (Kd.R_below HO129.out hbt); replace BK134 := qO (blk_below (g := gb132) BK134.out hbt); replace HO152 := qO (Kd.S_below HO152.out hbt); replace BK156 := qO (blk_below (g := gb154) BK156.out hbt); replace HO176 := qO (Kd.S_below HO176.out hbt); replace HO189 := qO (Kd.R_below HO189.out hbt); replace HO190 := qO (Kd.R_below HO190.out hbt); replace HN := qO (Nat.le_trans (Nat.le_trans HN.out (below_size hx_)) hb.size); replace HB := qO (below_step HB.out hbt); replace HX := qO (Below.refl w213.heap.size w213); clear hb hbt hx_; have hcz16_0_BK156 := qc0 BK156.out; have hcz16_1_BK156 := qc1 BK156.out) | ((with_reducible refine gate_callee (f := 16) rfl ?_); refine goesL_ (some 100) rfl rfl Try.func16 qa5 rfl #[.agg #[.slice Aoo153 t145.length coo153, .int .i64 t146], .int .i64 1] rfl qa26 ?_; (with_reducible refine (laws_markStore.calls k (fun k_ => lo151 ≤ k_ ∧ k_ < hi151) _ t145 t146 1 t215 t216 w _ ?sB ?s0 A217.out).mono ?_); (case sB => exact qa135); (case s0 => exact Kd.S_below HO152.out (by repeat (first | (with_reducible first | exact HX.out | apply qbA | apply qbN | apply qbD) | exact HX.out))); rintro e w218 ⟨rfl, hy0, hb0, hkp⟩; refine ⟨_, rfl, ?_⟩; have hkt := Kept.then_ (Kept.of_below qa25 (fun k_ => (lo151 ≤ k_ ∧ k_ < hi151))) hkp (fun k_ h_ => .inl h_); have zz_ := And.intro CHlo4.out (And.intro CHlo8.out (And.intro CHlo97.out (And.intro CHlo109.out (And.intro CHgb112.out (And.intro CHlo127.out (And.intro CHgb132.out (And.intro CHlo151.out (And.intro CHgb154.out (And.intro CHlo175.out (And.intro CHlo188.out (And.intro CHlo201.out (CHlo208.out)))))))))))); obtain ⟨lo219, hi219, hl_, hh_, hc_⟩ := lw10_ivk hkp (Nat.le_trans HN.out (below_size qa25)); have CHlo219 := qO (show hi208 ≤ lo219 ∧ lo219 ≤ hi219 from hc_); clear hc_; replace BK3 := qO (blk_kept (g := gb1) BK3.out hkt (fun h2_ => lw10_no IVgb1.out h2_ qa29)); replace BK7 := qO (blk_kept (g := gb5) BK7.out hkt (fun h2_ => lw10_no IVgb5.out h2_ qa29)); replace HO95 := qO (Kd.S_kept HO95.out hkt (fun _ h1_ h2_ => lw10_no h1_ h2_ qa29)); replace BK99 := qO (blk_kept (g := gb96) BK99.out hkt (fun h2_ => lw10_no IVgb96.out h2_ qa29)); replace HO110 := qO (Kd.S_kept HO110.out hkt (fun _ h1_ h2_ => lw10_on h1_ h2_ qa29)); replace BK114 := qO (blk_kept (g := gb112) BK114.out hkt (fun h2_ => lw10_no IVgb112.out h2_ qa29)); replace HO128 := qO (Kd.R_kept HO128.out hkt (fun _ h1_ h2_ => lw10_on h1_ h2_ qa29)); replace HO129 := qO (Kd.R_kept HO129.out hkt (fun _ h1_ h2_ => lw10_on h1_ h2_ qa29)); replace BK134 := qO (blk_kept (g := gb132) BK134.out hkt (fun h2_ => lw10_no IVgb132.out h2_ qa29)); replace BK156 := qO (blk_kept (g := gb154) BK156.out hkt (fun h2_ => lw10_no IVgb154.out h2_ qa29)); replace HO176 := qO (Kd.S_kept HO176.out hkt (fun _ h1_ h2_ => lw10_no h1_ h2_ qa29)); replace HO189 := qO (Kd.R_kept HO189.out hkt (fun _ h1_ h2_ => lw10_no h1_ h2_ qa29)); replace HO190 := qO (Kd.R_kept HO190.out hkt (fun _ h1_ h2_ => lw10_no h1_ h2_ qa29)); replace HO152 := qO ((show Kd.S (Kd.slice 43 k43) 41 w218 w.heap.size (fun k_ => (lo151 ≤ k_ ∧ k_ < hi151) ∨ (lo219 ≤ k_ ∧ k_ < hi219)) (.slice Aoo153 t145.length coo153) t216 from Kd.S_mono (Kd.S_bound hy0) (fun _ hk_ => hk_.1.elim (fun z_ => .inl z_) (fun z_ => .inr ⟨by rw [hl_]; exact z_, qa78⟩)))); replace HN := qO ((show hi219 ≤ w218.heap.size from Nat.le_of_eq hh_)); replace HB := qO (hb0); replace HX := qO (Below.refl w218.heap.size w218); clear hkp hb0 hkt zz_ hl_ hh_; (try clear hy0); have LEN220 := qO (Kd.S_reads' HO152.out).1; have hcz17_0_BK156 := qc0 BK156.out; have hcz17_1_BK156 := qc1 BK156.out) | ((with_reducible refine gate_callee (f := 17) rfl ?_); refine goesL_ (some 103) rfl rfl Try.func17 qa5 rfl #[.agg #[.slice Aoo153 t216.length coo153, .int .i64 t146], .int .i64 1] rfl qa166 ?_; (with_reducible refine (laws_heldStore.calls k _ _ t216 t146 1 t221 _ ?side1 ?side2 A222.out).mono ?_); (case side1 => exact qa122); (case side2 => exact qa165); rintro e w223 ⟨rfl, hb⟩; refine ⟨_, rfl, ?_⟩; have hx_ := lw10_hx hb qa25; have hbt := below_step hx_ hb; replace BK3 := qO (blk_below (g := gb1) BK3.out hbt); replace BK7 := qO (blk_below (g := gb5) BK7.out hbt); replace HO95 := qO (Kd.S_below HO95.out hbt); replace BK99 := qO (blk_below (g := gb96) BK99.out hbt); replace HO110 := qO (Kd.S_below HO110.out hbt); replace BK114 := qO (blk_below (g := gb112) BK114.out hbt); replace HO128 := qO (Kd.R_below HO128.out hbt); replace HO129 := qO (Kd.R_below HO129.out hbt); replace BK134 := qO (blk_below (g := gb132) BK134.out hbt); replace HO152 := qO (Kd.S_below HO152.out hbt); replace BK156 := qO (blk_below (g := gb154) BK156.out hbt); replace HO176 := qO (Kd.S_below HO176.out hbt); replace HO189 := qO (Kd.R_below HO189.out hbt); replace HO190 := qO (Kd.R_below HO190.out hbt); replace HN := qO (Nat.le_trans (Nat.le_trans HN.out (below_size hx_)) hb.size); replace HB := qO (below_step HB.out hbt); replace HX := qO (Below.refl w223.heap.size w223); clear hb hbt hx_; skip))
   try go_wp2
   have hdr_ := qO (qbD HX.out); refine start_ (n := 13) (S := fun w' => w'.cell? ⟨gb1, 0, none⟩ = some (.slice A0_0 l0_0.length c0_0) ∧ w'.cell? ⟨gb1, 1, none⟩ = some (.int .i64 a0_1) ∧ w'.cell? ⟨gb5, 0, none⟩ = some (.int .i64 a1_0) ∧ w'.cell? ⟨gb5, 1, none⟩ = some (.slice A1_1 l1_1.length c1_1) ∧ w'.cell? ⟨gb5, 2, none⟩ = some (.slice A1_2 l1_2.length c1_2)) (ds := []) laws_FnExactCommit.y0 qa5 rfl rfl ⟨(blk_cell (blk_below (g := gb1) BK3.out hdr_.out) 0).trans rfl, (blk_cell (blk_below (g := gb1) BK3.out hdr_.out) 1).trans rfl, (blk_cell (blk_below (g := gb5) BK7.out hdr_.out) 0).trans rfl, (blk_cell (blk_below (g := gb5) BK7.out hdr_.out) 1).trans rfl, (blk_cell (blk_below (g := gb5) BK7.out hdr_.out) 2).trans rfl⟩ (fun hHeld => ?_); generalize w223.drew = w225 at hdr_ hHeld ⊢; clear HX; have HX := hdr_; clear hdr_; refine qTk 0 110 laws_FnExactCommit.y1 rfl rfl qa5 qa65 hHeld qa2 ?_; refine qTk 2 112 laws_FnExactCommit.y2 rfl rfl qa5 qa65 hHeld qa2 ?_; have HS_ := qO (show ∀ W_ : World, Below w223.heap.size w223 W_ → W_.cell? ⟨gb1, 0, none⟩ = some (.slice A0_0 l0_0.length c0_0) ∧ W_.cell? ⟨gb1, 1, none⟩ = some (.int .i64 a0_1) ∧ W_.cell? ⟨gb5, 0, none⟩ = some (.int .i64 a1_0) ∧ W_.cell? ⟨gb5, 1, none⟩ = some (.slice A1_1 l1_1.length c1_1) ∧ W_.cell? ⟨gb5, 2, none⟩ = some (.slice A1_2 l1_2.length c1_2) from fun W_ h_ => ⟨(blk_cell (blk_below (g := gb1) BK3.out h_) 0).trans rfl, (blk_cell (blk_below (g := gb1) BK3.out h_) 1).trans rfl, (blk_cell (blk_below (g := gb5) BK7.out h_) 0).trans rfl, (blk_cell (blk_below (g := gb5) BK7.out h_) 1).trans rfl, (blk_cell (blk_below (g := gb5) BK7.out h_) 2).trans rfl⟩); have HXR := qO HX.out; replace HB := qO (below_step HB.out HX.out); replace HN := qO (Nat.le_trans HN.out HX.out.size); clear HX; have HX := qO (Below.refl w225.heap.size w225); refine join_ (σ := Option Addr × Nat × Option Addr × Nat × Option Addr × Nat × Option Addr × Nat × Nat × Nat × Nat × Nat) 3 laws_FnExactCommit.y3 (fun s_ => [(111, .agg #[.slice s_.1 t226.length s_.2.1, .int .i64 t227]), (113, .agg #[.int .i64 t233, .slice s_.2.2.1 t234.length s_.2.2.2.1, .slice s_.2.2.2.2.1 t235.length s_.2.2.2.2.2.1]), (114, .tuple #[.agg #[.slice s_.2.2.2.2.2.2.1 t243.length s_.2.2.2.2.2.2.2.1, .int .i64 t244], .int .i64 t245, .int .i64 t246]), (17, .pointer (some ⟨s_.2.2.2.2.2.2.2.2.1, 0, none⟩)), (109, .tuple #[.agg #[.slice s_.2.2.2.2.2.2.1 t243.length s_.2.2.2.2.2.2.2.1, .int .i64 t244], .int .i64 t245, .int .i64 t246]), (115, .agg #[.slice s_.2.2.2.2.2.2.1 t243.length s_.2.2.2.2.2.2.2.1, .int .i64 t244]), (116, .int .i64 t245), (117, .int .i64 t246)]) (fun s_ w' => w'.heap[gb1]? = some (.cells #[.slice A0_0 l0_0.length c0_0, .int .i64 a0_1] 24 (0, 0)) ∧ w'.heap[gb5]? = some (.cells #[.int .i64 a1_0, .slice A1_1 l1_1.length c1_1, .slice A1_2 l1_2.length c1_2] 75 (0, 0)) ∧ Kd.S (Kd.slice 43 k43) 41 w' w.heap.size (fun k_ => lo97 ≤ k_ ∧ k_ < hi97) (.slice Aoo94 t35.length coo94) t35 ∧ w'.heap[gb96]? = some (.cells #[.slice Aoo94 t35.length coo94, .int .i64 t36] 28 (0, 0)) ∧ Kd.S (Kd.slice 43 k43) 41 w' w.heap.size (fun k_ => (lo109 ≤ k_ ∧ k_ < hi109) ∨ (lo201 ≤ k_ ∧ k_ < hi201)) (.slice Aoo111 t105.length coo111) t198 ∧ w'.heap[gb112]? = some (.cells #[.slice Aoo111 t105.length coo111, .int .i64 t106] 28 (0, 0)) ∧ Kd.R (Kd.int .i64) 3 w' w.heap.size (fun k_ => (lo127 ≤ k_ ∧ k_ < hi127) ∨ (lo208 ≤ k_ ∧ k_ < hi208)) (.slice Aoo130 t123.length coo130) t204 ∧ Kd.R k58 58 w' w.heap.size (fun k_ => (lo127 ≤ k_ ∧ k_ < hi127) ∨ (lo208 ≤ k_ ∧ k_ < hi208)) (.slice Aoo131 t124.length coo131) t205 ∧ w'.heap[gb132]? = some (.cells #[.int .i64 t122, .slice Aoo130 t123.length coo130, .slice Aoo131 t124.length coo131] 65 (0, 0)) ∧ Kd.S (Kd.slice 43 k43) 41 w' w.heap.size (fun k_ => (lo151 ≤ k_ ∧ k_ < hi151) ∨ (lo219 ≤ k_ ∧ k_ < hi219)) (.slice Aoo153 t145.length coo153) t216 ∧ w'.heap[gb154]? = some (.cells #[.slice Aoo153 t145.length coo153, .int .i64 t146] 28 (0, 0)) ∧ Kd.S (Kd.slice 43 k43) 41 w' w.heap.size (fun k_ => lo175 ≤ k_ ∧ k_ < hi175) (.slice Aoo177 t171.length coo177) t171 ∧ Kd.R (Kd.int .i64) 3 w' w.heap.size (fun k_ => lo188 ≤ k_ ∧ k_ < hi188) (.slice Aoo191 t184.length coo191) t184 ∧ Kd.R k58 58 w' w.heap.size (fun k_ => lo188 ≤ k_ ∧ k_ < hi188) (.slice Aoo192 t185.length coo192) t185 ∧ Kd.S (Kd.slice 43 k43) 41 w' w.heap.size (fun k_ => s_.2.2.2.2.2.2.2.2.2.1 ≤ k_ ∧ k_ < s_.2.2.2.2.2.2.2.2.2.2.1) (.slice s_.2.2.2.2.2.2.1 t243.length s_.2.2.2.2.2.2.2.1) t243 ∧ w'.heap[s_.2.2.2.2.2.2.2.2.1]? = some (.cells #[.slice none 0 0, .int .i64 0] 28 (0, 0)) ∧ Below w.heap.size w w' ∧ (hi219 ≤ s_.2.2.2.2.2.2.2.2.2.1 ∧ s_.2.2.2.2.2.2.2.2.2.1 ≤ s_.2.2.2.2.2.2.2.2.2.2.1 ∧ s_.2.2.2.2.2.2.2.2.2.2.1 ≤ s_.2.2.2.2.2.2.2.2.2.2.2 ∧ hi219 ≤ s_.2.2.2.2.2.2.2.2.1 ∧ s_.2.2.2.2.2.2.2.2.1 < s_.2.2.2.2.2.2.2.2.2.2.2 ∧ (s_.2.2.2.2.2.2.2.2.1 < s_.2.2.2.2.2.2.2.2.2.1 ∨ s_.2.2.2.2.2.2.2.2.2.2.1 ≤ s_.2.2.2.2.2.2.2.2.1)) ∧ s_.2.2.2.2.2.2.2.2.2.2.2 ≤ w'.heap.size) (fun s_ w225j hF_ => ?_) (fun hcont => ?_); rotate_left
   ·refine two_ (i := 1) (j := 9) (Ni := some 111) (Nj := some 17) laws_FnExactCommit.y4 laws_FnExactCommit.y5 rfl rfl rfl rfl qa5 qa51 qa51 (fun K hK => ?_) (fun K hK => ?_)
    ·refine goes_ Try.func13 qa5 rfl #[.agg #[.slice A0_0 l0_0.length c0_0, .int .i64 a0_1]] (by rfl) rfl rfl qa26 ?_
     (with_reducible refine (laws_toStore.calls k _ _ l0_0 a0_1 t226 t227 _ ?side1 ?side2 A228.out).mono ?_); (case side1 => exact qa169); (case side2 => exact HC0_0.out); rintro e w229 ⟨vt226, rfl, ho0, hb⟩; refine ⟨_, rfl, ?_⟩; have hx_ := lw10_hx hb HX.out; have hbt := below_step hx_ hb; obtain ⟨lo230, hi230, hl_, hh_, hc_⟩ := lw10_iv (Nat.le_trans HN.out (below_size hx_)) hb.size; have CHlo230 := qO (show hi219 ≤ lo230 ∧ lo230 ≤ hi230 from hc_); clear hc_; replace HXR := qO (below_step HXR.out hbt); have HO231 := qO (Kd.S_mono (ok' := fun k_ => lo230 ≤ k_ ∧ k_ < hi230) (Kd.S_lower (Kd.S_bound ho0) (below_size (below_step HB.out hx_))) (fun k_ hk_ => ⟨qa87, qa78⟩)); replace HN := qO ((show hi230 ≤ w229.heap.size from Nat.le_of_eq hh_)); replace HB := qO (below_step HB.out hbt); replace HX := qO (Below.refl w229.heap.size w229); clear hb hbt hx_ hl_ hh_; (try clear ho0); obtain ⟨Aoo232, coo232, eoo232⟩ := Kd.S_slice HO231.out; (first | subst eoo232 | (injection eoo232 with f1_ f2_ f3_; have f4_ := f1_.symm; have f5_ := f3_.symm; clear f1_ f2_ f3_; subst f4_; subst f5_)); refine hK.out _ _ (HS_.out _ HXR.out) (fun hHeld => ?_); clear hK K; refine norm_ (a' := ?_) ?_ ?_; rotate_left
     ·exact qa11
     refine two_ (i := 3) (j := 9) (Ni := some 113) (Nj := some 17) laws_FnExactCommit.y6 laws_FnExactCommit.y7 rfl rfl rfl rfl qa5 qa51 qa51 (fun K hK => ?_) (fun K hK => ?_)
     ·refine goes_ Try.func45 qa5 rfl #[.agg #[.int .i64 a1_0, .slice A1_1 l1_1.length c1_1, .slice A1_2 l1_2.length c1_2]] (by rfl) rfl rfl qa26 ?_
      (with_reducible refine (laws_toTxn.calls k a1_0 _ _ l1_1 _ _ l1_2 t233 t234 t235 _ ?side1 ?side2 ?side3 ?side4 A236.out).mono ?_); (case side1 => exact qa150); (case side2 => exact HC1_1.out); (case side3 => exact qa151); (case side4 => exact HC1_2.out); rintro e w237 ⟨vt234, vt235, rfl, ho0, ho1, hb⟩; refine ⟨_, rfl, ?_⟩; have hx_ := lw10_hx hb HX.out; have hbt := below_step hx_ hb; obtain ⟨lo238, hi238, hl_, hh_, hc_⟩ := lw10_iv (Nat.le_trans HN.out (below_size hx_)) hb.size; have CHlo238 := qO (show hi230 ≤ lo238 ∧ lo238 ≤ hi238 from hc_); clear hc_; replace HXR := qO (below_step HXR.out hbt); replace HO231 := qO (Kd.S_below HO231.out hbt); have HO239 := qO (Kd.R_mono (ok' := fun k_ => lo238 ≤ k_ ∧ k_ < hi238) (Kd.R_lower (Kd.R_bound ho0) (below_size (below_step HB.out hx_))) (fun k_ hk_ => ⟨qa87, qa78⟩)); have HO240 := qO (Kd.R_mono (ok' := fun k_ => lo238 ≤ k_ ∧ k_ < hi238) (Kd.R_lower (Kd.R_bound ho1) (below_size (below_step HB.out hx_))) (fun k_ hk_ => ⟨qa87, qa78⟩)); replace HN := qO ((show hi238 ≤ w237.heap.size from Nat.le_of_eq hh_)); replace HB := qO (below_step HB.out hbt); replace HX := qO (Below.refl w237.heap.size w237); clear hb hbt hx_ hl_ hh_; (try clear ho0); obtain ⟨Aoo241, coo241, eoo241⟩ := Kd.R_slice HO239.out; (first | subst eoo241 | (injection eoo241 with f1_ f2_ f3_; have f4_ := f1_.symm; have f5_ := f3_.symm; clear f1_ f2_ f3_; subst f4_; subst f5_)); (try clear ho1); obtain ⟨Aoo242, coo242, eoo242⟩ := Kd.R_slice HO240.out; (first | subst eoo242 | (injection eoo242 with f1_ f2_ f3_; have f4_ := f1_.symm; have f5_ := f3_.symm; clear f1_ f2_ f3_; subst f4_; subst f5_)); refine hK.out _ _ (HS_.out _ HXR.out) (fun hHeld => ?_); clear hK K; refine norm_ (a' := ?_) ?_ ?_; rotate_left
      ·exact qa11
      refine two_ (i := 4) (j := 9) (Ni := some 114) (Nj := some 17) laws_FnExactCommit.y8 laws_FnExactCommit.y9 rfl rfl rfl rfl qa5 qa51 qa51 (fun K hK => ?_) (fun K hK => ?_)
      ·refine goes_ Try.func52 qa5 rfl #[.agg #[.slice Aoo232 t226.length coo232, .int .i64 t227], .agg #[.int .i64 t233, .slice Aoo241 t234.length coo241, .slice Aoo242 t235.length coo242]] (by rfl) rfl rfl qa26 ?_
       (with_reducible refine (impl_Commit.calls k _ _ t226 t227 t233 _ _ t234 _ _ t235 t243 t244 t245 t246 _ ?side1 ?side2 ?side3 ?side4 ?side5 ?side6 A247.out).mono ?_); (case side1 => exact qa186); (case side2 => exact qa179); (case side3 => exact Kd.C_below (Kd.R_reads' HO239.out).2.2 HX.out); (case side4 => have z_ := Kd.R_reads' HO239.out; have y_ := z_.1; have x_ := z_.2.1; omega); (case side5 => exact Kd.C_below (Kd.R_reads' HO240.out).2.2 HX.out); (case side6 => have z_ := Kd.R_reads' HO240.out; have y_ := z_.1; have x_ := z_.2.1; omega); rintro e w248 ⟨vt243, rfl, ho0, hb⟩; refine ⟨_, rfl, ?_⟩; have hx_ := lw10_hx hb HX.out; have hbt := below_step hx_ hb; obtain ⟨lo249, hi249, hl_, hh_, hc_⟩ := lw10_iv (Nat.le_trans HN.out (below_size hx_)) hb.size; have CHlo249 := qO (show hi238 ≤ lo249 ∧ lo249 ≤ hi249 from hc_); clear hc_ HO231 HO239 HO240; replace HXR := qO (below_step HXR.out hbt); have HO250 := qO (Kd.S_mono (ok' := fun k_ => lo249 ≤ k_ ∧ k_ < hi249) (Kd.S_lower (Kd.S_bound ho0) (below_size (below_step HB.out hx_))) (fun k_ hk_ => ⟨qa87, qa78⟩)); replace HN := qO ((show hi249 ≤ w248.heap.size from Nat.le_of_eq hh_)); replace HB := qO (below_step HB.out hbt); replace HX := qO (Below.refl w248.heap.size w248); clear hb hbt hx_ hl_ hh_; (try clear ho0); obtain ⟨Aoo251, coo251, eoo251⟩ := Kd.S_slice HO250.out; (first | subst eoo251 | (injection eoo251 with f1_ f2_ f3_; have f4_ := f1_.symm; have f5_ := f3_.symm; clear f1_ f2_ f3_; subst f4_; subst f5_)); refine hK.out _ _ (HS_.out _ HXR.out) (fun hHeld => ?_); clear hK K; refine norm_ (a' := ?_) ?_ ?_; rotate_left
       ·exact qa11
       refine qPu 5 109 laws_FnExactCommit.y10 rfl rfl qa5 qa8 qa2 ?_; refine qPu 6 115 laws_FnExactCommit.y11 rfl rfl qa5 qa8 qa2 ?_; refine qPu 7 116 laws_FnExactCommit.y12 rfl rfl qa5 qa8 qa2 ?_; refine qPu 8 117 laws_FnExactCommit.y13 rfl rfl qa5 qa8 qa2 ?_; refine one_ (i := 9) (N := some 17) laws_FnExactCommit.y3 rfl rfl qa5 qa51 (fun K hK => ?_); refine box_step (by rfl) (N := 17) rfl (cs := #[.slice none 0 0, .int .i64 0]) (t := 28) ?hr ?_; (case hr => exact qa10); intro gb252 hg w253 hbox hb; have hx_ := lw10_hx hb HX.out; have hbt := below_step hx_ hb; obtain ⟨lo255, hi255, hl_, hh_, hc_⟩ := lw10_iv (Nat.le_trans HN.out (below_size hx_)) hb.size; have CHlo255 := qO (show hi249 ≤ lo255 ∧ lo255 ≤ hi255 from hc_); clear hc_; replace HXR := qO (below_step HXR.out hbt); replace HO250 := qO (Kd.S_below HO250.out hbt); have BK254 := qO (hbox); replace HN := qO ((show hi255 ≤ w253.heap.size from Nat.le_of_eq hh_)); replace HB := qO (below_step HB.out hbt); replace HX := qO (Below.refl w253.heap.size w253); have IVgb252 := qO (show lo255 ≤ gb252 ∧ gb252 < hi255 from ⟨Nat.le_of_eq (hl_.trans hg.symm), qa137⟩); clear hb hbt hx_ hl_ hh_ hg hbox; refine hK.out _ _ (HS_.out _ HXR.out) (fun hHeld => ?_); clear hK K; refine norm_ (a' := ?_) ?_ ?_; rotate_left
       ·exact qa11
       refine norm_ ?_ (hcont (Aoo232, coo232, Aoo241, coo241, Aoo242, coo242, Aoo251, coo251, gb252, lo249, hi249, hi255) _ ⟨blk_below (g := gb1) BK3.out HXR.out, blk_below (g := gb5) BK7.out HXR.out, Kd.S_below HO95.out HXR.out, blk_below (g := gb96) BK99.out HXR.out, Kd.S_below HO110.out HXR.out, blk_below (g := gb112) BK114.out HXR.out, Kd.R_below HO128.out HXR.out, Kd.R_below HO129.out HXR.out, blk_below (g := gb132) BK134.out HXR.out, Kd.S_below HO152.out HXR.out, blk_below (g := gb154) BK156.out HXR.out, Kd.S_below HO176.out HXR.out, Kd.R_below HO189.out HXR.out, Kd.R_below HO190.out HXR.out, HO250.out, BK254.out, below_step HB.out HX.out, (by dsimp only; have z0_ := CHlo4.out; have z1_ := CHlo8.out; have z2_ := CHlo97.out; have z3_ := CHlo109.out; have z4_ := CHgb112.out; have z5_ := CHlo127.out; have z6_ := CHgb132.out; have z7_ := CHlo151.out; have z8_ := CHgb154.out; have z9_ := CHlo175.out; have z10_ := CHlo188.out; have z11_ := CHlo201.out; have z12_ := CHlo208.out; have z13_ := CHlo219.out; have z14_ := CHlo230.out; have z15_ := CHlo238.out; have z16_ := CHlo249.out; have z17_ := CHlo255.out; have h1_ := IVgb252.out; omega), HN.out⟩); simp only [putAll, Act.put, qzA, qzB, qzC, i64_w, i32_w]; (try rfl)
      ·refine box_step (by rfl) (N := 17) rfl (cs := #[.slice none 0 0, .int .i64 0]) (t := 28) ?hr ?_
       (case hr => exact qa10); intro gb256 hg w257 hbox hb; have hx_ := lw10_hx hb HX.out; have hbt := below_step hx_ hb; obtain ⟨lo259, hi259, hl_, hh_, hc_⟩ := lw10_iv (Nat.le_trans HN.out (below_size hx_)) hb.size; have CHlo259 := qO (show hi238 ≤ lo259 ∧ lo259 ≤ hi259 from hc_); clear hc_; replace HXR := qO (below_step HXR.out hbt); replace HO231 := qO (Kd.S_below HO231.out hbt); replace HO239 := qO (Kd.R_below HO239.out hbt); replace HO240 := qO (Kd.R_below HO240.out hbt); have BK258 := qO (hbox); replace HN := qO ((show hi259 ≤ w257.heap.size from Nat.le_of_eq hh_)); replace HB := qO (below_step HB.out hbt); replace HX := qO (Below.refl w257.heap.size w257); have IVgb256 := qO (show lo259 ≤ gb256 ∧ gb256 < hi259 from ⟨Nat.le_of_eq (hl_.trans hg.symm), qa137⟩); clear hb hbt hx_ hl_ hh_ hg hbox; refine hK.out _ _ (HS_.out _ HXR.out) (fun hHeld => ?_); clear hK K; refine norm_ (a' := ?_) ?_ ?_; rotate_left
       ·exact qa11
       refine one_ (i := 4) (N := some 114) laws_FnExactCommit.y14 rfl rfl qa5 qa51 (fun K hK => ?_); refine goes_ Try.func52 qa5 rfl #[.agg #[.slice Aoo232 t226.length coo232, .int .i64 t227], .agg #[.int .i64 t233, .slice Aoo241 t234.length coo241, .slice Aoo242 t235.length coo242]] (by rfl) rfl rfl qa26 ?_; (with_reducible refine (impl_Commit.calls k _ _ t226 t227 t233 _ _ t234 _ _ t235 t243 t244 t245 t246 _ ?side1 ?side2 ?side3 ?side4 ?side5 ?side6 A247.out).mono ?_); (case side1 => exact qa186); (case side2 => exact qa179); (case side3 => exact Kd.C_below (Kd.R_reads' HO239.out).2.2 HX.out); (case side4 => have z_ := Kd.R_reads' HO239.out; have y_ := z_.1; have x_ := z_.2.1; omega); (case side5 => exact Kd.C_below (Kd.R_reads' HO240.out).2.2 HX.out); (case side6 => have z_ := Kd.R_reads' HO240.out; have y_ := z_.1; have x_ := z_.2.1; omega); rintro e w260 ⟨vt243, rfl, ho0, hb⟩; refine ⟨_, rfl, ?_⟩; have hx_ := lw10_hx hb HX.out; have hbt := below_step hx_ hb; obtain ⟨lo261, hi261, hl_, hh_, hc_⟩ := lw10_iv (Nat.le_trans HN.out (below_size hx_)) hb.size; have CHlo261 := qO (show hi259 ≤ lo261 ∧ lo261 ≤ hi261 from hc_); clear hc_ HO231 HO239 HO240; replace HXR := qO (below_step HXR.out hbt); replace BK258 := qO (blk_below (g := gb256) BK258.out hbt); have HO262 := qO (Kd.S_mono (ok' := fun k_ => lo261 ≤ k_ ∧ k_ < hi261) (Kd.S_lower (Kd.S_bound ho0) (below_size (below_step HB.out hx_))) (fun k_ hk_ => ⟨qa87, qa78⟩)); replace HN := qO ((show hi261 ≤ w260.heap.size from Nat.le_of_eq hh_)); replace HB := qO (below_step HB.out hbt); replace HX := qO (Below.refl w260.heap.size w260); clear hb hbt hx_ hl_ hh_; (try clear ho0); obtain ⟨Aoo263, coo263, eoo263⟩ := Kd.S_slice HO262.out; (first | subst eoo263 | (injection eoo263 with f1_ f2_ f3_; have f4_ := f1_.symm; have f5_ := f3_.symm; clear f1_ f2_ f3_; subst f4_; subst f5_)); refine hK.out _ _ (HS_.out _ HXR.out) (fun hHeld => ?_); clear hK K; refine norm_ (a' := ?_) ?_ ?_; rotate_left
       ·exact qa11
       refine qPu 5 109 laws_FnExactCommit.y15 rfl rfl qa5 qa8 qa2 ?_; refine qPu 6 115 laws_FnExactCommit.y16 rfl rfl qa5 qa8 qa2 ?_; refine qPu 7 116 laws_FnExactCommit.y17 rfl rfl qa5 qa8 qa2 ?_; refine qPu 8 117 laws_FnExactCommit.y3 rfl rfl qa5 qa8 qa2 ?_; refine norm_ ?_ (hcont (Aoo232, coo232, Aoo241, coo241, Aoo242, coo242, Aoo263, coo263, gb256, lo261, hi261, hi261) _ ⟨blk_below (g := gb1) BK3.out HXR.out, blk_below (g := gb5) BK7.out HXR.out, Kd.S_below HO95.out HXR.out, blk_below (g := gb96) BK99.out HXR.out, Kd.S_below HO110.out HXR.out, blk_below (g := gb112) BK114.out HXR.out, Kd.R_below HO128.out HXR.out, Kd.R_below HO129.out HXR.out, blk_below (g := gb132) BK134.out HXR.out, Kd.S_below HO152.out HXR.out, blk_below (g := gb154) BK156.out HXR.out, Kd.S_below HO176.out HXR.out, Kd.R_below HO189.out HXR.out, Kd.R_below HO190.out HXR.out, HO262.out, BK258.out, below_step HB.out HX.out, (by dsimp only; have z0_ := CHlo4.out; have z1_ := CHlo8.out; have z2_ := CHlo97.out; have z3_ := CHlo109.out; have z4_ := CHgb112.out; have z5_ := CHlo127.out; have z6_ := CHgb132.out; have z7_ := CHlo151.out; have z8_ := CHgb154.out; have z9_ := CHlo175.out; have z10_ := CHlo188.out; have z11_ := CHlo201.out; have z12_ := CHlo208.out; have z13_ := CHlo219.out; have z14_ := CHlo230.out; have z15_ := CHlo238.out; have z16_ := CHlo259.out; have z17_ := CHlo261.out; have h1_ := IVgb256.out; omega), HN.out⟩); simp only [putAll, Act.put, qzA, qzB, qzC, i64_w, i32_w]; (try rfl)
     ·refine box_step (by rfl) (N := 17) rfl (cs := #[.slice none 0 0, .int .i64 0]) (t := 28) ?hr ?_
      (case hr => exact qa10); intro gb264 hg w265 hbox hb; have hx_ := lw10_hx hb HX.out; have hbt := below_step hx_ hb; obtain ⟨lo267, hi267, hl_, hh_, hc_⟩ := lw10_iv (Nat.le_trans HN.out (below_size hx_)) hb.size; have CHlo267 := qO (show hi230 ≤ lo267 ∧ lo267 ≤ hi267 from hc_); clear hc_; replace HXR := qO (below_step HXR.out hbt); replace HO231 := qO (Kd.S_below HO231.out hbt); have BK266 := qO (hbox); replace HN := qO ((show hi267 ≤ w265.heap.size from Nat.le_of_eq hh_)); replace HB := qO (below_step HB.out hbt); replace HX := qO (Below.refl w265.heap.size w265); have IVgb264 := qO (show lo267 ≤ gb264 ∧ gb264 < hi267 from ⟨Nat.le_of_eq (hl_.trans hg.symm), qa137⟩); clear hb hbt hx_ hl_ hh_ hg hbox; refine hK.out _ _ (HS_.out _ HXR.out) (fun hHeld => ?_); clear hK K; refine norm_ (a' := ?_) ?_ ?_; rotate_left
      ·exact qa11
      refine one_ (i := 3) (N := some 113) laws_FnExactCommit.y9 rfl rfl qa5 qa51 (fun K hK => ?_); refine goes_ Try.func45 qa5 rfl #[.agg #[.int .i64 a1_0, .slice A1_1 l1_1.length c1_1, .slice A1_2 l1_2.length c1_2]] (by rfl) rfl rfl qa26 ?_; (with_reducible refine (laws_toTxn.calls k a1_0 _ _ l1_1 _ _ l1_2 t233 t234 t235 _ ?side1 ?side2 ?side3 ?side4 A236.out).mono ?_); (case side1 => exact qa150); (case side2 => exact HC1_1.out); (case side3 => exact qa151); (case side4 => exact HC1_2.out); rintro e w268 ⟨vt234, vt235, rfl, ho0, ho1, hb⟩; refine ⟨_, rfl, ?_⟩; have hx_ := lw10_hx hb HX.out; have hbt := below_step hx_ hb; obtain ⟨lo269, hi269, hl_, hh_, hc_⟩ := lw10_iv (Nat.le_trans HN.out (below_size hx_)) hb.size; have CHlo269 := qO (show hi267 ≤ lo269 ∧ lo269 ≤ hi269 from hc_); clear hc_; replace HXR := qO (below_step HXR.out hbt); replace HO231 := qO (Kd.S_below HO231.out hbt); replace BK266 := qO (blk_below (g := gb264) BK266.out hbt); have HO270 := qO (Kd.R_mono (ok' := fun k_ => lo269 ≤ k_ ∧ k_ < hi269) (Kd.R_lower (Kd.R_bound ho0) (below_size (below_step HB.out hx_))) (fun k_ hk_ => ⟨qa87, qa78⟩)); have HO271 := qO (Kd.R_mono (ok' := fun k_ => lo269 ≤ k_ ∧ k_ < hi269) (Kd.R_lower (Kd.R_bound ho1) (below_size (below_step HB.out hx_))) (fun k_ hk_ => ⟨qa87, qa78⟩)); replace HN := qO ((show hi269 ≤ w268.heap.size from Nat.le_of_eq hh_)); replace HB := qO (below_step HB.out hbt); replace HX := qO (Below.refl w268.heap.size w268); clear hb hbt hx_ hl_ hh_; (try clear ho0); obtain ⟨Aoo272, coo272, eoo272⟩ := Kd.R_slice HO270.out; (first | subst eoo272 | (injection eoo272 with f1_ f2_ f3_; have f4_ := f1_.symm; have f5_ := f3_.symm; clear f1_ f2_ f3_; subst f4_; subst f5_)); (try clear ho1); obtain ⟨Aoo273, coo273, eoo273⟩ := Kd.R_slice HO271.out; (first | subst eoo273 | (injection eoo273 with f1_ f2_ f3_; have f4_ := f1_.symm; have f5_ := f3_.symm; clear f1_ f2_ f3_; subst f4_; subst f5_)); refine hK.out _ _ (HS_.out _ HXR.out) (fun hHeld => ?_); clear hK K; refine norm_ (a' := ?_) ?_ ?_; rotate_left
      ·exact qa11
      refine one_ (i := 4) (N := some 114) laws_FnExactCommit.y14 rfl rfl qa5 qa51 (fun K hK => ?_); refine goes_ Try.func52 qa5 rfl #[.agg #[.slice Aoo232 t226.length coo232, .int .i64 t227], .agg #[.int .i64 t233, .slice Aoo272 t234.length coo272, .slice Aoo273 t235.length coo273]] (by rfl) rfl rfl qa26 ?_; (with_reducible refine (impl_Commit.calls k _ _ t226 t227 t233 _ _ t234 _ _ t235 t243 t244 t245 t246 _ ?side1 ?side2 ?side3 ?side4 ?side5 ?side6 A247.out).mono ?_); (case side1 => exact qa186); (case side2 => exact qa179); (case side3 => exact Kd.C_below (Kd.R_reads' HO270.out).2.2 HX.out); (case side4 => have z_ := Kd.R_reads' HO270.out; have y_ := z_.1; have x_ := z_.2.1; omega); (case side5 => exact Kd.C_below (Kd.R_reads' HO271.out).2.2 HX.out); (case side6 => have z_ := Kd.R_reads' HO271.out; have y_ := z_.1; have x_ := z_.2.1; omega); rintro e w274 ⟨vt243, rfl, ho0, hb⟩; refine ⟨_, rfl, ?_⟩; have hx_ := lw10_hx hb HX.out; have hbt := below_step hx_ hb; obtain ⟨lo275, hi275, hl_, hh_, hc_⟩ := lw10_iv (Nat.le_trans HN.out (below_size hx_)) hb.size; have CHlo275 := qO (show hi269 ≤ lo275 ∧ lo275 ≤ hi275 from hc_); clear hc_ HO231 HO270 HO271; replace HXR := qO (below_step HXR.out hbt); replace BK266 := qO (blk_below (g := gb264) BK266.out hbt); have HO276 := qO (Kd.S_mono (ok' := fun k_ => lo275 ≤ k_ ∧ k_ < hi275) (Kd.S_lower (Kd.S_bound ho0) (below_size (below_step HB.out hx_))) (fun k_ hk_ => ⟨qa87, qa78⟩)); replace HN := qO ((show hi275 ≤ w274.heap.size from Nat.le_of_eq hh_)); replace HB := qO (below_step HB.out hbt); replace HX := qO (Below.refl w274.heap.size w274); clear hb hbt hx_ hl_ hh_; (try clear ho0); obtain ⟨Aoo277, coo277, eoo277⟩ := Kd.S_slice HO276.out; (first | subst eoo277 | (injection eoo277 with f1_ f2_ f3_; have f4_ := f1_.symm; have f5_ := f3_.symm; clear f1_ f2_ f3_; subst f4_; subst f5_)); refine hK.out _ _ (HS_.out _ HXR.out) (fun hHeld => ?_); clear hK K; refine norm_ (a' := ?_) ?_ ?_; rotate_left
      ·exact qa11
      refine qPu 5 109 laws_FnExactCommit.y15 rfl rfl qa5 qa8 qa2 ?_; refine qPu 6 115 laws_FnExactCommit.y16 rfl rfl qa5 qa8 qa2 ?_; refine qPu 7 116 laws_FnExactCommit.y17 rfl rfl qa5 qa8 qa2 ?_; refine qPu 8 117 laws_FnExactCommit.y3 rfl rfl qa5 qa8 qa2 ?_; refine norm_ ?_ (hcont (Aoo232, coo232, Aoo272, coo272, Aoo273, coo273, Aoo277, coo277, gb264, lo275, hi275, hi275) _ ⟨blk_below (g := gb1) BK3.out HXR.out, blk_below (g := gb5) BK7.out HXR.out, Kd.S_below HO95.out HXR.out, blk_below (g := gb96) BK99.out HXR.out, Kd.S_below HO110.out HXR.out, blk_below (g := gb112) BK114.out HXR.out, Kd.R_below HO128.out HXR.out, Kd.R_below HO129.out HXR.out, blk_below (g := gb132) BK134.out HXR.out, Kd.S_below HO152.out HXR.out, blk_below (g := gb154) BK156.out HXR.out, Kd.S_below HO176.out HXR.out, Kd.R_below HO189.out HXR.out, Kd.R_below HO190.out HXR.out, HO276.out, BK266.out, below_step HB.out HX.out, (by dsimp only; have z0_ := CHlo4.out; have z1_ := CHlo8.out; have z2_ := CHlo97.out; have z3_ := CHlo109.out; have z4_ := CHgb112.out; have z5_ := CHlo127.out; have z6_ := CHgb132.out; have z7_ := CHlo151.out; have z8_ := CHgb154.out; have z9_ := CHlo175.out; have z10_ := CHlo188.out; have z11_ := CHlo201.out; have z12_ := CHlo208.out; have z13_ := CHlo219.out; have z14_ := CHlo230.out; have z15_ := CHlo267.out; have z16_ := CHlo269.out; have z17_ := CHlo275.out; have h1_ := IVgb264.out; omega), HN.out⟩); simp only [putAll, Act.put, qzA, qzB, qzC, i64_w, i32_w]; (try rfl)
    ·refine box_step (by rfl) (N := 17) rfl (cs := #[.slice none 0 0, .int .i64 0]) (t := 28) ?hr ?_
     (case hr => exact qa10); intro gb278 hg w279 hbox hb; have hx_ := lw10_hx hb HX.out; have hbt := below_step hx_ hb; obtain ⟨lo281, hi281, hl_, hh_, hc_⟩ := lw10_iv (Nat.le_trans HN.out (below_size hx_)) hb.size; have CHlo281 := qO (show hi219 ≤ lo281 ∧ lo281 ≤ hi281 from hc_); clear hc_; replace HXR := qO (below_step HXR.out hbt); have BK280 := qO (hbox); replace HN := qO ((show hi281 ≤ w279.heap.size from Nat.le_of_eq hh_)); replace HB := qO (below_step HB.out hbt); replace HX := qO (Below.refl w279.heap.size w279); have IVgb278 := qO (show lo281 ≤ gb278 ∧ gb278 < hi281 from ⟨Nat.le_of_eq (hl_.trans hg.symm), qa137⟩); clear hb hbt hx_ hl_ hh_ hg hbox; refine hK.out _ _ (HS_.out _ HXR.out) (fun hHeld => ?_); clear hK K; refine norm_ (a' := ?_) ?_ ?_; rotate_left
     ·exact qa11
     refine one_ (i := 1) (N := some 111) laws_FnExactCommit.y7 rfl rfl qa5 qa51 (fun K hK => ?_); refine goes_ Try.func13 qa5 rfl #[.agg #[.slice A0_0 l0_0.length c0_0, .int .i64 a0_1]] (by rfl) rfl rfl qa26 ?_; (with_reducible refine (laws_toStore.calls k _ _ l0_0 a0_1 t226 t227 _ ?side1 ?side2 A228.out).mono ?_); (case side1 => exact qa169); (case side2 => exact HC0_0.out); rintro e w282 ⟨vt226, rfl, ho0, hb⟩; refine ⟨_, rfl, ?_⟩; have hx_ := lw10_hx hb HX.out; have hbt := below_step hx_ hb; obtain ⟨lo283, hi283, hl_, hh_, hc_⟩ := lw10_iv (Nat.le_trans HN.out (below_size hx_)) hb.size; have CHlo283 := qO (show hi281 ≤ lo283 ∧ lo283 ≤ hi283 from hc_); clear hc_; replace HXR := qO (below_step HXR.out hbt); replace BK280 := qO (blk_below (g := gb278) BK280.out hbt); have HO284 := qO (Kd.S_mono (ok' := fun k_ => lo283 ≤ k_ ∧ k_ < hi283) (Kd.S_lower (Kd.S_bound ho0) (below_size (below_step HB.out hx_))) (fun k_ hk_ => ⟨qa87, qa78⟩)); replace HN := qO ((show hi283 ≤ w282.heap.size from Nat.le_of_eq hh_)); replace HB := qO (below_step HB.out hbt); replace HX := qO (Below.refl w282.heap.size w282); clear hb hbt hx_ hl_ hh_; (try clear ho0); obtain ⟨Aoo285, coo285, eoo285⟩ := Kd.S_slice HO284.out; (first | subst eoo285 | (injection eoo285 with f1_ f2_ f3_; have f4_ := f1_.symm; have f5_ := f3_.symm; clear f1_ f2_ f3_; subst f4_; subst f5_)); refine hK.out _ _ (HS_.out _ HXR.out) (fun hHeld => ?_); clear hK K; refine norm_ (a' := ?_) ?_ ?_; rotate_left
     ·exact qa11
     refine one_ (i := 3) (N := some 113) laws_FnExactCommit.y9 rfl rfl qa5 qa51 (fun K hK => ?_); refine goes_ Try.func45 qa5 rfl #[.agg #[.int .i64 a1_0, .slice A1_1 l1_1.length c1_1, .slice A1_2 l1_2.length c1_2]] (by rfl) rfl rfl qa26 ?_; (with_reducible refine (laws_toTxn.calls k a1_0 _ _ l1_1 _ _ l1_2 t233 t234 t235 _ ?side1 ?side2 ?side3 ?side4 A236.out).mono ?_); (case side1 => exact qa150); (case side2 => exact HC1_1.out); (case side3 => exact qa151); (case side4 => exact HC1_2.out); rintro e w286 ⟨vt234, vt235, rfl, ho0, ho1, hb⟩; refine ⟨_, rfl, ?_⟩; have hx_ := lw10_hx hb HX.out; have hbt := below_step hx_ hb; obtain ⟨lo287, hi287, hl_, hh_, hc_⟩ := lw10_iv (Nat.le_trans HN.out (below_size hx_)) hb.size; have CHlo287 := qO (show hi283 ≤ lo287 ∧ lo287 ≤ hi287 from hc_); clear hc_; replace HXR := qO (below_step HXR.out hbt); replace BK280 := qO (blk_below (g := gb278) BK280.out hbt); replace HO284 := qO (Kd.S_below HO284.out hbt); have HO288 := qO (Kd.R_mono (ok' := fun k_ => lo287 ≤ k_ ∧ k_ < hi287) (Kd.R_lower (Kd.R_bound ho0) (below_size (below_step HB.out hx_))) (fun k_ hk_ => ⟨qa87, qa78⟩)); have HO289 := qO (Kd.R_mono (ok' := fun k_ => lo287 ≤ k_ ∧ k_ < hi287) (Kd.R_lower (Kd.R_bound ho1) (below_size (below_step HB.out hx_))) (fun k_ hk_ => ⟨qa87, qa78⟩)); replace HN := qO ((show hi287 ≤ w286.heap.size from Nat.le_of_eq hh_)); replace HB := qO (below_step HB.out hbt); replace HX := qO (Below.refl w286.heap.size w286); clear hb hbt hx_ hl_ hh_; (try clear ho0); obtain ⟨Aoo290, coo290, eoo290⟩ := Kd.R_slice HO288.out; (first | subst eoo290 | (injection eoo290 with f1_ f2_ f3_; have f4_ := f1_.symm; have f5_ := f3_.symm; clear f1_ f2_ f3_; subst f4_; subst f5_)); (try clear ho1); obtain ⟨Aoo291, coo291, eoo291⟩ := Kd.R_slice HO289.out; (first | subst eoo291 | (injection eoo291 with f1_ f2_ f3_; have f4_ := f1_.symm; have f5_ := f3_.symm; clear f1_ f2_ f3_; subst f4_; subst f5_)); refine hK.out _ _ (HS_.out _ HXR.out) (fun hHeld => ?_); clear hK K; refine norm_ (a' := ?_) ?_ ?_; rotate_left
     ·exact qa11
     refine one_ (i := 4) (N := some 114) laws_FnExactCommit.y14 rfl rfl qa5 qa51 (fun K hK => ?_); refine goes_ Try.func52 qa5 rfl #[.agg #[.slice Aoo285 t226.length coo285, .int .i64 t227], .agg #[.int .i64 t233, .slice Aoo290 t234.length coo290, .slice Aoo291 t235.length coo291]] (by rfl) rfl rfl qa26 ?_; (with_reducible refine (impl_Commit.calls k _ _ t226 t227 t233 _ _ t234 _ _ t235 t243 t244 t245 t246 _ ?side1 ?side2 ?side3 ?side4 ?side5 ?side6 A247.out).mono ?_); (case side1 => exact Kd.C_below (Kd.S_reads' HO284.out).2.2 HX.out); (case side2 => have z_ := Kd.S_reads' HO284.out; have y_ := z_.1; have x_ := z_.2.1; omega); (case side3 => exact Kd.C_below (Kd.R_reads' HO288.out).2.2 HX.out); (case side4 => have z_ := Kd.R_reads' HO288.out; have y_ := z_.1; have x_ := z_.2.1; omega); (case side5 => exact Kd.C_below (Kd.R_reads' HO289.out).2.2 HX.out); (case side6 => have z_ := Kd.R_reads' HO289.out; have y_ := z_.1; have x_ := z_.2.1; omega); rintro e w292 ⟨vt243, rfl, ho0, hb⟩; refine ⟨_, rfl, ?_⟩; have hx_ := lw10_hx hb HX.out; have hbt := below_step hx_ hb; obtain ⟨lo293, hi293, hl_, hh_, hc_⟩ := lw10_iv (Nat.le_trans HN.out (below_size hx_)) hb.size; have CHlo293 := qO (show hi287 ≤ lo293 ∧ lo293 ≤ hi293 from hc_); clear hc_ HO284 HO288 HO289; replace HXR := qO (below_step HXR.out hbt); replace BK280 := qO (blk_below (g := gb278) BK280.out hbt); have HO294 := qO (Kd.S_mono (ok' := fun k_ => lo293 ≤ k_ ∧ k_ < hi293) (Kd.S_lower (Kd.S_bound ho0) (below_size (below_step HB.out hx_))) (fun k_ hk_ => ⟨qa87, qa78⟩)); replace HN := qO ((show hi293 ≤ w292.heap.size from Nat.le_of_eq hh_)); replace HB := qO (below_step HB.out hbt); replace HX := qO (Below.refl w292.heap.size w292); clear hb hbt hx_ hl_ hh_; (try clear ho0); obtain ⟨Aoo295, coo295, eoo295⟩ := Kd.S_slice HO294.out; (first | subst eoo295 | (injection eoo295 with f1_ f2_ f3_; have f4_ := f1_.symm; have f5_ := f3_.symm; clear f1_ f2_ f3_; subst f4_; subst f5_)); refine hK.out _ _ (HS_.out _ HXR.out) (fun hHeld => ?_); clear hK K; refine norm_ (a' := ?_) ?_ ?_; rotate_left
     ·exact qa11
     refine qPu 5 109 laws_FnExactCommit.y15 rfl rfl qa5 qa8 qa2 ?_; refine qPu 6 115 laws_FnExactCommit.y16 rfl rfl qa5 qa8 qa2 ?_; refine qPu 7 116 laws_FnExactCommit.y17 rfl rfl qa5 qa8 qa2 ?_; refine qPu 8 117 laws_FnExactCommit.y3 rfl rfl qa5 qa8 qa2 ?_; refine norm_ ?_ (hcont (Aoo285, coo285, Aoo290, coo290, Aoo291, coo291, Aoo295, coo295, gb278, lo293, hi293, hi293) _ ⟨blk_below (g := gb1) BK3.out HXR.out, blk_below (g := gb5) BK7.out HXR.out, Kd.S_below HO95.out HXR.out, blk_below (g := gb96) BK99.out HXR.out, Kd.S_below HO110.out HXR.out, blk_below (g := gb112) BK114.out HXR.out, Kd.R_below HO128.out HXR.out, Kd.R_below HO129.out HXR.out, blk_below (g := gb132) BK134.out HXR.out, Kd.S_below HO152.out HXR.out, blk_below (g := gb154) BK156.out HXR.out, Kd.S_below HO176.out HXR.out, Kd.R_below HO189.out HXR.out, Kd.R_below HO190.out HXR.out, HO294.out, BK280.out, below_step HB.out HX.out, (by dsimp only; have z0_ := CHlo4.out; have z1_ := CHlo8.out; have z2_ := CHlo97.out; have z3_ := CHlo109.out; have z4_ := CHgb112.out; have z5_ := CHlo127.out; have z6_ := CHgb132.out; have z7_ := CHlo151.out; have z8_ := CHgb154.out; have z9_ := CHlo175.out; have z10_ := CHlo188.out; have z11_ := CHlo201.out; have z12_ := CHlo208.out; have z13_ := CHlo219.out; have z14_ := CHlo281.out; have z15_ := CHlo283.out; have z16_ := CHlo287.out; have z17_ := CHlo293.out; have h1_ := IVgb278.out; omega), HN.out⟩); simp only [putAll, Act.put, qzA, qzB, qzC, i64_w, i32_w]; (try rfl)
   clear BK3 BK7 HO95 BK99 HO110 BK114 HO128 HO129 BK134 HO152 BK156 HO176 HO189 HO190 HX HB HN HXR HS_; obtain ⟨Aoo296, coo296, Aoo298, coo298, Aoo300, coo300, Aoo302, coo302, gb304, lo305, hi305, nn306⟩ := s_
   dsimp only at hF_ ⊢
   obtain ⟨f0_, f1_, f2_, f3_, f4_, f5_, f6_, f7_, f8_, f9_, f10_, f11_, f12_, f13_, f14_, f15_, f16_, f17_, f18_⟩ := hF_; have BK3 := qO f0_; have BK7 := qO f1_; have HO95 := qO f2_; have BK99 := qO f3_; have HO110 := qO f4_; have BK114 := qO f5_; have HO128 := qO f6_; have HO129 := qO f7_; have BK134 := qO f8_; have HO152 := qO f9_; have BK156 := qO f10_; have HO176 := qO f11_; have HO189 := qO f12_; have HO190 := qO f13_; have HO303 := qO f14_; have BK307 := qO f15_; have HB := qO f16_; have CHlo305 := qO f17_; have HN := qO f18_; clear f0_ f1_ f2_ f3_ f4_ f5_ f6_ f7_ f8_ f9_ f10_ f11_ f12_ f13_ f14_ f15_ f16_ f17_ f18_; have HX := qO (Below.refl w225j.heap.size w225j); have IVgb304 := qO (show gb304 ≤ gb304 ∧ gb304 < gb304 + 1 from ⟨Nat.le_refl _, Nat.lt_succ_self _⟩); refine norm_ (a' := ?_) ?_ ?_; rotate_left
   ·simp only [putAll, Act.put, qzA, qzB, qzC, i64_w, i32_w]
    rfl
   refine one_ (i := 10) (N := none) laws_FnExactCommit.y18 rfl rfl qa5 qa51 (fun K hK => ?_); obtain ⟨hcz309, hcz310, hfz311, hfz312⟩ := qb2 BK307.out; refine lw10_store (w0 := w) gb304 28 [.slice Aoo302 t243.length coo302, .int .i64 t244] #[.slice none 0 0, .int .i64 0] (by rfl) rfl ?hr (by have h1_ := CHlo305.out; have z0_ := CHlo4.out; have z1_ := CHlo8.out; have z2_ := CHlo97.out; have z3_ := CHlo109.out; have z4_ := CHgb112.out; have z5_ := CHlo127.out; have z6_ := CHgb132.out; have z7_ := CHlo151.out; have z8_ := CHgb154.out; have z9_ := CHlo175.out; have z10_ := CHlo188.out; have z11_ := CHlo201.out; have z12_ := CHlo208.out; have z13_ := CHlo219.out; have z14_ := CHlo305.out; omega) HB.out BK307.out ?_; (case hr => exact qa10); clear hcz309 hcz310 hfz311 hfz312; intro w308 hbox hkp hb0; clear BK307; have hkt := Kept.then_ (Kept.of_below HX.out (fun k_ => gb304 ≤ k_ ∧ k_ < gb304 + 1)) hkp (fun k_ h_ => .inl h_); have zz_ := And.intro CHlo4.out (And.intro CHlo8.out (And.intro CHlo97.out (And.intro CHlo109.out (And.intro CHgb112.out (And.intro CHlo127.out (And.intro CHgb132.out (And.intro CHlo151.out (And.intro CHgb154.out (And.intro CHlo175.out (And.intro CHlo188.out (And.intro CHlo201.out (And.intro CHlo208.out (And.intro CHlo219.out (CHlo305.out)))))))))))))); replace BK3 := qO (blk_kept (g := gb1) BK3.out hkt (fun h2_ => lw10_no IVgb1.out h2_ qa29)); replace BK7 := qO (blk_kept (g := gb5) BK7.out hkt (fun h2_ => lw10_no IVgb5.out h2_ qa29)); replace HO95 := qO (Kd.S_kept HO95.out hkt (fun _ h1_ h2_ => lw10_no h1_ h2_ qa29)); replace BK99 := qO (blk_kept (g := gb96) BK99.out hkt (fun h2_ => lw10_no IVgb96.out h2_ qa29)); replace HO110 := qO (Kd.S_kept HO110.out hkt (fun _ h1_ h2_ => lw10_on h1_ h2_ qa29)); replace BK114 := qO (blk_kept (g := gb112) BK114.out hkt (fun h2_ => lw10_no IVgb112.out h2_ qa29)); replace HO128 := qO (Kd.R_kept HO128.out hkt (fun _ h1_ h2_ => lw10_on h1_ h2_ qa29)); replace HO129 := qO (Kd.R_kept HO129.out hkt (fun _ h1_ h2_ => lw10_on h1_ h2_ qa29)); replace BK134 := qO (blk_kept (g := gb132) BK134.out hkt (fun h2_ => lw10_no IVgb132.out h2_ qa29)); replace HO152 := qO (Kd.S_kept HO152.out hkt (fun _ h1_ h2_ => lw10_on h1_ h2_ qa29)); replace BK156 := qO (blk_kept (g := gb154) BK156.out hkt (fun h2_ => lw10_no IVgb154.out h2_ qa29)); replace HO176 := qO (Kd.S_kept HO176.out hkt (fun _ h1_ h2_ => lw10_no h1_ h2_ qa29)); replace HO189 := qO (Kd.R_kept HO189.out hkt (fun _ h1_ h2_ => lw10_no h1_ h2_ qa29)); replace HO190 := qO (Kd.R_kept HO190.out hkt (fun _ h1_ h2_ => lw10_no h1_ h2_ qa29)); replace HO303 := qO (Kd.S_kept HO303.out hkt (fun _ h1_ h2_ => lw10_no h1_ h2_ qa29)); have BK307 := qO ((show w308.heap[gb304]? = some (.cells #[.slice Aoo302 t243.length coo302, .int .i64 t244] 28 (0, 0)) from hbox)); replace HN := qO (Nat.le_trans HN.out hkt.1); replace HB := qO (hb0); replace HX := qO (Below.refl w308.heap.size w308); clear hkp hb0 hkt zz_ hbox; refine hK.out _ _ ⟨qc0 BK3.out, qc1 BK3.out, qc0 BK7.out, qc1 BK7.out, qc2 BK7.out⟩ (fun hHeld => ?_); clear hK K; refine qPu 11 18 laws_FnExactCommit.y19 rfl rfl qa5 qa8 qa2 ?_; refine qPu 12 19 laws_FnExactCommit.y20 rfl rfl qa5 qa8 qa2 ?_; refine done_ qa5 ?_; have hcz19_0_BK99 := qc0 BK99.out; have hcz19_1_BK99 := qc1 BK99.out; have hcz19_0_BK307 := qc0 BK307.out; have hcz19_1_BK307 := qc1 BK307.out
   go_wp2_with (first | ((with_reducible refine gate_callee (f := 15) rfl ?_); refine goesL_ (some 120) rfl rfl Try.func15 qa5 rfl #[.agg #[.slice Aoo302 t243.length coo302, .int .i64 t244], .agg #[.slice Aoo94 t35.length coo94, .int .i64 t36]] rfl qa26 ?_; (with_reducible refine (laws_eqStore.calls k _ _ t243 t244 _ _ t35 t36 true _ ?side1 ?side2 ?side3 ?side4 A314.out).mono ?_); (case side1 => exact Kd.C_below (Kd.S_reads' HO303.out).2.2 (by repeat (first | (with_reducible first | exact HX.out | apply qbA | apply qbN | apply qbD) | exact HX.out))); (case side2 => have z_ := Kd.S_reads' HO303.out; have y_ := z_.1; have x_ := z_.2.1; omega); (case side3 => exact qa160); (case side4 => exact qa181); rintro e w315 ⟨rfl, hb⟩; refine ⟨_, rfl, ?_⟩; have hx_ := lw10_hx hb qa25; have hbt := below_step hx_ hb; replace BK3 := qO (blk_below (g := gb1) BK3.out hbt); replace BK7 := qO (blk_below (g := gb5) BK7.out hbt); replace HO95 := qO (Kd.S_below HO95.out hbt); replace BK99 := qO (blk_below (g := gb96) BK99.out hbt); replace HO110 := qO (Kd.S_below HO110.out hbt); replace BK114 := qO (blk_below (g := gb112) BK114.out hbt); replace HO128 := qO (Kd.R_below HO128.out hbt); replace HO129 := qO (Kd.R_below HO129.out hbt); replace BK134 := qO (blk_below (g := gb132) BK134.out hbt); replace HO152 := qO (Kd.S_below HO152.out hbt); replace BK156 := qO (blk_below (g := gb154) BK156.out hbt); replace HO176 := qO (Kd.S_below HO176.out hbt); replace HO189 := qO (Kd.R_below HO189.out hbt); replace HO190 := qO (Kd.R_below HO190.out hbt); replace HO303 := qO (Kd.S_below HO303.out hbt); replace BK307 := qO (blk_below (g := gb304) BK307.out hbt); replace HN := qO (Nat.le_trans (Nat.le_trans HN.out (below_size hx_)) hb.size); replace HB := qO (below_step HB.out hbt); replace HX := qO (Below.refl w315.heap.size w315); clear hb hbt hx_; have hcz20_0_BK156 := qc0 BK156.out; have hcz20_1_BK156 := qc1 BK156.out) | ((with_reducible refine gate_callee (f := 17) rfl ?_); refine goesL_ (some 134) rfl rfl Try.func17 qa5 rfl #[.agg #[.slice Aoo153 t216.length coo153, .int .i64 t146], .int .i64 1] rfl qa166 ?_; (with_reducible refine (laws_heldStore.calls k _ _ t216 t146 1 t317 _ ?side1 ?side2 A318.out).mono ?_); (case side1 => exact qa122); (case side2 => exact qa165); rintro e w319 ⟨rfl, hb⟩; refine ⟨_, rfl, ?_⟩; have hx_ := lw10_hx hb qa25; have hbt := below_step hx_ hb; replace BK3 := qO (blk_below (g := gb1) BK3.out hbt); replace BK7 := qO (blk_below (g := gb5) BK7.out hbt); replace HO95 := qO (Kd.S_below HO95.out hbt); replace BK99 := qO (blk_below (g := gb96) BK99.out hbt); replace HO110 := qO (Kd.S_below HO110.out hbt); replace BK114 := qO (blk_below (g := gb112) BK114.out hbt); replace HO128 := qO (Kd.R_below HO128.out hbt); replace HO129 := qO (Kd.R_below HO129.out hbt); replace BK134 := qO (blk_below (g := gb132) BK134.out hbt); replace HO152 := qO (Kd.S_below HO152.out hbt); replace BK156 := qO (blk_below (g := gb154) BK156.out hbt); replace HO176 := qO (Kd.S_below HO176.out hbt); replace HO189 := qO (Kd.R_below HO189.out hbt); replace HO190 := qO (Kd.R_below HO190.out hbt); replace HO303 := qO (Kd.S_below HO303.out hbt); replace BK307 := qO (blk_below (g := gb304) BK307.out hbt); replace HN := qO (Nat.le_trans (Nat.le_trans HN.out (below_size hx_)) hb.size); replace HB := qO (below_step HB.out hbt); replace HX := qO (Below.refl w319.heap.size w319); clear hb hbt hx_; skip))
   go_ret
   exact ⟨by first | rfl | (simp [*]; done), below_step HB.out qa25⟩

end Go.Proofs.Ytfiboooflebdpaa.Q
namespace Go.Proofs.Ytfiboooflebdpaa.Q
open Go.RowKit Go.Proofs.YtfiboooflebdpaaW.PrintWords Go.Proofs.Ytfiboooflebdpaa.Opens
set_option linter.unusedVariables false
def i141 (x : S141) : Prop := (Lit.int .i64 x.f0).wf = true ∧ (Lit.int .i64 x.f1).wf = true
theorem o141 : Opens Try.prog 141 k141 i141 := opens_struct (N := 2) Try.underlying141 qa5 (opensF_cons rfl qa5 (opens_int Try.underlying3) (opensF_one rfl rfl qa5 (opens_int Try.underlying3))) (fun y => ⟨y.1, y.2⟩) (fun _ => rfl)
def i24 (x : S24) : Prop := (x.f0.length ≤ 9223372036854775807 ∧ ∀ y1_ ∈ x.f0, (y1_.length ≤ 9223372036854775807 ∧ ∀ y2_ ∈ y1_, i141 y2_)) ∧ (Lit.int .i64 x.f1).wf = true
theorem o24 : Opens Try.prog 24 k24 i24 := opens_struct (N := 2) Try.underlying24 qa5 (opensF_cons rfl qa5 (opens_slice Try.underlying22 qa5 (opens_slice Try.underlying122 qa5 o141)) (opensF_one rfl rfl qa5 (opens_int Try.underlying3))) (fun y => ⟨y.1, y.2⟩) (fun _ => rfl)
def i76 (x : S76) : Prop := (Lit.int .i64 x.f0).wf = true ∧ (Lit.int .i64 x.f1).wf = true
theorem o76 : Opens Try.prog 76 k76 i76 := opens_struct (N := 2) Try.underlying76 qa5 (opensF_cons rfl qa5 (opens_int Try.underlying3) (opensF_one rfl rfl qa5 (opens_int Try.underlying3))) (fun y => ⟨y.1, y.2⟩) (fun _ => rfl)
def i75 (x : S75) : Prop := (Lit.int .i64 x.f0).wf = true ∧ (x.f1.length ≤ 9223372036854775807 ∧ ∀ y1_ ∈ x.f1, (Lit.int .i64 y1_).wf = true) ∧ (x.f2.length ≤ 9223372036854775807 ∧ ∀ y1_ ∈ x.f2, i76 y1_)
theorem o75 : Opens Try.prog 75 k75 i75 := opens_struct (N := 3) Try.underlying75 qa5 (opensF_cons rfl qa5 (opens_int Try.underlying3) (opensF_cons rfl qa5 (opens_slice Try.underlying60 qa5 (opens_int Try.underlying3)) (opensF_one rfl rfl qa5 (opens_slice Try.underlying48 qa5 o76)))) (fun y => ⟨y.1, y.2.1, y.2.2⟩) (fun _ => rfl)
def laws_FnExactCommit.Pure2 : Prop := ∀ (y0 : S24), ∀ (y1 : S75), i24 y0 → i75 y1 → ∃ k, laws_FnExactCommit.f k y0.f0 y0.f1 y1.f0 y1.f1 y1.f2 = some true
end Go.Proofs.Ytfiboooflebdpaa.Q
namespace Go.Proofs.Ytfiboooflebdpaa.Pure2
open Go.RowKit Go.Proofs.Ytfiboooflebdpaa.Q Go.Proofs.YtfiboooflebdpaaW.PrintWords Go.Proofs.YtfiboooflebdpaaW.PrintLast
set_option linter.unusedVariables false
set_option linter.unusedSimpArgs false
/-! small words -/
theorem wsucc {j n : Nat} (h : j < n) (hn : n ≤ 4611686018427387904) : wrap64 ((j : Int) + 1) = ((j + 1 : Nat) : Int) := by unfold wrap64; omega
theorem ev_step {α : Type} {g f : Nat → Option α} {r : α} (h : ∃ K, ∀ k, K ≤ k → g (k + 1) = f k) (k : Ev f r) : Ev g r := by
  obtain ⟨K, h⟩ := h
  obtain ⟨K', k⟩ := k
  refine ⟨max K K' + 1, fun n hn => ?_⟩
  obtain ⟨m, rfl⟩ : ∃ m, n = m + 1 := ⟨n - 1, qa29⟩
  rw [h m qa29, k m qa29]
theorem ev_now {α : Type} {g : Nat → Option α} {r : α} (h : ∃ K, ∀ k, K ≤ k → g (k + 1) = some r) : Ev g r := ev_step (f := fun _ => some r) h (Ev.now r)
theorem ev_same {α : Type} {g f : Nat → Option α} {r : α} (h : ∃ K, ∀ k, K ≤ k → g k = f k) (k : Ev f r) : Ev g r := by
  obtain ⟨K, h⟩ := h
  obtain ⟨K', k⟩ := k
  exact ⟨max K K', fun n hn => by rw [h n qa29, k n qa29]⟩
theorem ev_two {α β : Type} {g : Nat → Option α} {f : Nat → Option β} {r : α} {q : β} (h : Ev g r) (k : Ev f q) : ∃ K, ∀ n, K ≤ n → g n = some r ∧ f n = some q := by
  obtain ⟨K, h⟩ := h
  obtain ⟨K', k⟩ := k
  exact ⟨max K K', fun n hn => ⟨h n qa29, k n qa29⟩⟩
theorem ev_mk {α : Type} {g : Nat → Option α} {r : α} (K : Nat) (h : ∀ k, K ≤ k → g k = some r) : Ev g r := ⟨K, h⟩
theorem ev_at {α : Type} {g : Nat → Option α} {r : α} (h : Ev g r) : ∃ K, ∀ k, K ≤ k → g k = some r := h
/-- A loop that counts up to n: from the end back. -/
theorem count_loop {ρ : Type} (n : Nat) (L : Nat → Int → Option ρ) (Post : Nat → ρ → Prop) (hend : ∃ r, Post n r ∧ Ev (fun k => L k (n : Int)) r)
    (hstep : ∀ j, j < n → ∀ r, Post (j + 1) r → Ev (fun k => L k ((j + 1 : Nat) : Int)) r → ∃ r', Post j r' ∧ Ev (fun k => L k (j : Int)) r') :
    ∀ j, j ≤ n → ∃ r, Post j r ∧ Ev (fun k => L k (j : Int)) r := by
  have key : ∀ d j, j ≤ n → n - j = d → ∃ r, Post j r ∧ Ev (fun k => L k (j : Int)) r := by
    intro d
    induction d with
    | zero => intro j hj hd; obtain rfl : j = n := by omega
              exact hend
    | succ d ih =>
      intro j hj hd
      obtain ⟨r, hp, he⟩ := ih (j + 1) qa29 qa29
      exact hstep j qa29 r hp he
  intro j hj
  exact key _ j hj rfl
/-- A loop that carries a state up to n. -/
theorem state_loop {σ ρ : Type} (n : Nat) (L : Nat → σ → Int → Option ρ) (Inv : Nat → σ → Prop) (Post : Nat → σ → ρ → Prop) (hend : ∀ s, Inv n s → ∃ r, Post n s r ∧ Ev (fun k => L k s (n : Int)) r)
    (hstep : ∀ j s, j < n → Inv j s → (∃ r, Post j s r ∧ Ev (fun k => L k s (j : Int)) r) ∨ ∃ s', Inv (j + 1) s' ∧ (∀ r, Post (j + 1) s' r → Post j s r) ∧ ∃ K, ∀ k, K ≤ k → L (k + 1) s (j : Int) = L k s' ((j + 1 : Nat) : Int)) :
    ∀ j s, j ≤ n → Inv j s → ∃ r, Post j s r ∧ Ev (fun k => L k s (j : Int)) r := by
  have key : ∀ d j s, j ≤ n → n - j = d → Inv j s → ∃ r, Post j s r ∧ Ev (fun k => L k s (j : Int)) r := by
    intro d
    induction d with
    | zero => intro j s hj hd hi; obtain rfl : j = n := by omega
              exact hend s hi
    | succ d ih =>
      intro j s hj hd hi
      rcases hstep j s qa29 hi with h | ⟨s', hi', hp, hk⟩
      · exact h
      · obtain ⟨r, hr, he⟩ := ih (j + 1) s' qa29 qa29 hi'
        exact ⟨r, hp r hr, ev_step hk he⟩
  intro j s hj hi
  exact key _ j s hj rfl hi
/-- A loop that fills a row of its own. -/
theorem fill_loop {α β : Type} (xs : List α) (z : α) (g : α → β) (L : Nat → List β → Int → Option (List β)) (hend : ∀ y : List β, y.length = xs.length → ∃ K, ∀ k, K ≤ k → L (k + 1) y (xs.length : Int) = some y)
    (hstep : ∀ (j : Nat) (y : List β), j < xs.length → y.length = xs.length → ∃ K, ∀ k, K ≤ k → L (k + 1) y (j : Int) = L k (y.set j (g (xs.getD j z))) ((j + 1 : Nat) : Int)) (y : List β) (hy : y.length = xs.length) :
    Ev (fun k => L k y 0) (xs.map g) := by
  obtain ⟨r, hr, he⟩ := state_loop xs.length L (fun j y => y.length = xs.length ∧ ∀ i, i < j → y[i]? = (xs.map g)[i]?) (fun _ _ r => r = xs.map g) (fun y hi => ⟨y, List.ext_getElem? fun i => by
      by_cases hi' : i < xs.length
      · exact hi.2 i hi'
      · rw [List.getElem?_eq_none qa29, List.getElem?_eq_none qa192], ev_now (hend y hi.1)⟩) (fun j y hj hi => .inr ⟨_, ⟨by simp [hi.1], fun i hij => by
      by_cases he : i = j
      · subst he
        rw [List.getElem?_set_self qa29]
        simp [List.getD_eq_getElem?_getD, List.getElem?_eq_getElem hj]
      · rw [List.getElem?_set_ne qa29]
        exact hi.2 i qa29⟩, fun r h => h, hstep j y hj hi.1⟩) 0 y qa29 ⟨hy, fun i hi => by omega⟩
  subst hr
  exact he
/-- The measure of a store that came in. -/
theorem sz_row (l : List S141) (a : Int) (h0 : 0 ≤ a) (h1 : a ≤ 1048576) (hl : l.length ≤ 9223372036854775807) : ∃ r, laws_szVersionS.f l a = some r ∧ (r < 0 ∨ 0 ≤ r ∧ r ≤ a ∧ l.length ≤ 1048576) := by
  have hw : wrap64 (a - (l.length : Int)) = a - (l.length : Int) := by unfold wrap64; omega
  unfold laws_szVersionS.f
  rw [hw]
  by_cases h : a - (l.length : Int) < 0
  · rw [if_pos h]; exact ⟨_, rfl, .inl qa29⟩
  · rw [if_neg h]; exact ⟨_, rfl, .inr ⟨qa29, qa29, qa29⟩⟩
theorem sz_rows (l : List (List S141)) (a : Int) (h0 : 0 ≤ a) (h1 : a ≤ 1048576) (hl : l.length ≤ 9223372036854775807) (hx : ∀ x ∈ l, x.length ≤ 9223372036854775807) :
    ∃ r, Ev (fun k => laws_szVersionSS.f k l a) r ∧ (r < 0 ∨ 0 ≤ r ∧ r ≤ a ∧ l.length ≤ 1048576 ∧ ∀ x ∈ l, x.length ≤ 1048576) := by
  have hw : wrap64 (a - (l.length : Int)) = a - (l.length : Int) := by unfold wrap64; omega
  by_cases h : a - (l.length : Int) < 0
  · exact ⟨-1, ev_mk 0 (fun k _ => by unfold laws_szVersionSS.f; rw [hw, if_pos h]), .inl qa29⟩
  · obtain ⟨r, hr, he⟩ := state_loop l.length (fun k s i => laws_szVersionSS.l0 k l s i) (fun j s => 0 ≤ s ∧ s ≤ a ∧ ∀ i, i < j → (l.getD i []).length ≤ 1048576) (fun _ _ r => r < 0 ∨ 0 ≤ r ∧ r ≤ a ∧ ∀ i, i < l.length → (l.getD i []).length ≤ 1048576)
      (fun s hi => ⟨s, .inr hi, ev_now ⟨0, fun k _ => by simp only [laws_szVersionSS.l0]; rw [if_neg qa29]⟩⟩)
      (fun j s hj hi => by
        have hm : (l.getD j []) ∈ l := by rw [List.getD_eq_getElem?_getD, List.getElem?_eq_getElem hj]; exact List.getElem_mem hj
        obtain ⟨t, e, ht⟩ := sz_row (l.getD j []) s hi.1 qa29 (hx _ hm)
        have e' : laws_szVersionS.f (rd_L2 l (j : Int)) s = some t := e
        rcases ht with ht | ⟨t0, t1, t2⟩
        · exact .inl ⟨-1, .inl qa29, ev_now ⟨0, fun k _ => by simp only [laws_szVersionSS.l0]; rw [if_pos qa29, if_pos qa29, e']; simp only [Option.bind_some]; rw [if_pos ht]⟩⟩
        · refine .inr ⟨t, ⟨t0, qa29, fun i hij => ?_⟩, fun r h => h, 0, fun k _ => by simp only [laws_szVersionSS.l0]; rw [if_pos qa29, if_pos qa29, e']; simp only [Option.bind_some]; rw [if_neg qa29, wsucc hj qa29]⟩
          rcases Nat.lt_or_eq_of_le (Nat.le_of_lt_succ hij) with h' | rfl
          · exact hi.2.2 i h'
          · exact t2) 0 (a - l.length) qa29 ⟨qa29, qa29, fun i hi => by omega⟩
    refine ⟨r, ev_same ⟨0, fun k _ => by unfold laws_szVersionSS.f; rw [hw, if_neg h]; rfl⟩ he, ?_⟩
    rcases hr with hr | ⟨h2, h3, h4⟩
    · exact .inl hr
    · refine .inr ⟨h2, h3, qa29, fun x hx' => ?_⟩
      obtain ⟨i, hi, rfl⟩ := List.getElem_of_mem hx'
      have := h4 i hi
      rw [List.getD_eq_getElem?_getD, List.getElem?_eq_getElem hi] at this
      exact this
def Small (l : List (List S141)) : Prop := l.length ≤ 1048576 ∧ ∀ x ∈ l, x.length ≤ 1048576
theorem sz_store (y : S24) (a : Int) (h0 : 0 ≤ a) (h1 : a ≤ 1048576) (hi : i24 y) : ∃ r, Ev (fun k => laws_szStore.f k y.f0 y.f1 a) r ∧ (r < 0 ∨ 0 ≤ r ∧ r ≤ a ∧ Small y.f0) := by
  obtain ⟨r, he, hr⟩ := sz_rows y.f0 a h0 h1 hi.1.1 (fun x hx => (hi.1.2 x hx).1)
  obtain ⟨K, he⟩ := ev_at he
  rcases hr with hr | ⟨h2, h3, h4⟩
  · exact ⟨-1, ev_mk K (fun k hk => by unfold laws_szStore.f; rw [he k hk]; simp only [Option.bind_some]; rw [if_pos hr]), .inl qa29⟩
  · exact ⟨r, ev_mk K (fun k hk => by unfold laws_szStore.f; rw [he k hk]; simp only [Option.bind_some]; rw [if_neg qa29]), .inr ⟨h2, h3, h4⟩⟩
def cvV (x : S141) : S43 := ⟨x.f0, x.f1⟩
def cvS (l : List (List S141)) : List (List S43) := l.map (List.map cvV)
theorem to_row (l : List S141) (hl : l.length ≤ 1048576) : Ev (fun k => laws_toVersionS.f k l) (l.map cvV) := by
  have h := fill_loop l z141 cvV (fun k y i => laws_toVersionS.l0 k l y i) (fun y hy => ⟨0, fun k _ => by simp only [laws_toVersionS.l0]; rw [if_neg qa29]⟩)
    (fun j y hj hy => ⟨0, fun k _ => by
      simp only [laws_toVersionS.l0, laws_toVersion.f]; rw [if_pos qa29, if_pos qa29]; simp only [Option.bind_some]; rw [if_pos qa29, wsucc hj qa29]; rfl⟩) (List.replicate l.length z43) qa117
  refine ev_same ⟨0, fun k _ => ?_⟩ h
  unfold laws_toVersionS.f
  rw [if_pos qa29, if_pos qa192, Int.toNat_natCast]
theorem to_rows (l : List (List S141)) (hl : Small l) : Ev (fun k => laws_toVersionSS.f k l) (cvS l) := by
  have h := fill_loop l [] (List.map cvV) (fun k y i => laws_toVersionSS.l0 k l y i) (fun y hy => ⟨0, fun k _ => by simp only [laws_toVersionSS.l0]; rw [if_neg qa29]⟩)
    (fun j y hj hy => by
      have hm : (l.getD j []) ∈ l := by rw [List.getD_eq_getElem?_getD, List.getElem?_eq_getElem hj]; exact List.getElem_mem hj
      obtain ⟨K, hk⟩ := to_row (l.getD j []) (hl.2 _ hm)
      refine ⟨K, fun k hK => ?_⟩
      have e' : laws_toVersionS.f k (rd_L2 l (j : Int)) = some ((l.getD j []).map cvV) := hk k hK
      have hl' := hl.1
      simp only [laws_toVersionSS.l0]; rw [if_pos qa29, if_pos qa29, e']; simp only [Option.bind_some]; rw [if_pos qa29, wsucc hj qa29]; rfl) (List.replicate l.length []) qa117
  refine ev_same ⟨0, fun k _ => ?_⟩ h
  have hl' := hl.1
  unfold laws_toVersionSS.f
  rw [if_pos qa29, if_pos qa192, Int.toNat_natCast]
theorem to_store (l : List (List S141)) (n : Int) (hl : Small l) : Ev (fun k => laws_toStore.f k l n) (cvS l, n) := by
  obtain ⟨K, h⟩ := ev_at (to_rows l hl)
  exact ev_mk K (fun k hk => by unfold laws_toStore.f; rw [h k hk]; rfl)
theorem eq_row (l : List S43) (hl : l.length ≤ 1048576) : Ev (fun k => laws_eqVersionS.f k l l) true := by
  obtain ⟨r, hr, he⟩ := count_loop l.length (fun k i => laws_eqVersionS.l0 k l l i) (fun _ r => r = true) ⟨true, rfl, ev_now ⟨0, fun k _ => by simp only [laws_eqVersionS.l0]; rw [if_neg qa29]⟩⟩
    (fun j hj r hr he => ⟨r, hr, ev_step ⟨0, fun k _ => by simp only [laws_eqVersionS.l0, laws_eqVersion.f]; rw [if_pos qa29, if_pos qa29, if_pos qa29]; simp only [if_true, Option.bind_some]; rw [wsucc hj qa29]⟩ he⟩) 0 qa29
  subst hr
  exact ev_same ⟨0, fun k _ => by unfold laws_eqVersionS.f; rw [if_pos rfl]; rfl⟩ he
theorem eq_rows (l : List (List S43)) (hl : l.length ≤ 1048576) (hx : ∀ x ∈ l, x.length ≤ 1048576) : Ev (fun k => laws_eqVersionSS.f k l l) true := by
  obtain ⟨r, hr, he⟩ := count_loop l.length (fun k i => laws_eqVersionSS.l0 k l l i) (fun _ r => r = true) ⟨true, rfl, ev_now ⟨0, fun k _ => by simp only [laws_eqVersionSS.l0]; rw [if_neg qa29]⟩⟩
    (fun j hj r hr he => by
      have hm : (l.getD j []) ∈ l := by rw [List.getD_eq_getElem?_getD, List.getElem?_eq_getElem hj]; exact List.getElem_mem hj
      obtain ⟨K, hk⟩ := eq_row (l.getD j []) (hx _ hm)
      exact ⟨r, hr, ev_step ⟨K, fun k hK => by
        have e' : laws_eqVersionS.f k (rd_L4 l (j : Int)) (rd_L4 l (j : Int)) = some true := hk k hK
        simp only [laws_eqVersionSS.l0]; rw [if_pos qa29, if_pos qa29, if_pos qa29, e']; simp only [if_true, Option.bind_some]; rw [wsucc hj qa29]⟩ he⟩) 0 qa29
  subst hr
  exact ev_same ⟨0, fun k _ => by unfold laws_eqVersionSS.f; rw [if_pos rfl]; rfl⟩ he
theorem eq_store (l : List (List S43)) (n : Int) (hl : l.length ≤ 1048576) (hx : ∀ x ∈ l, x.length ≤ 1048576) : Ev (fun k => laws_eqStore.f k l n l n) true := by
  obtain ⟨K, h⟩ := ev_at (eq_rows l hl hx)
  exact ev_mk K (fun k hk => by unfold laws_eqStore.f; rw [h k hk]; simp)
theorem small_cv (l : List (List S141)) (h : Small l) : (cvS l).length ≤ 1048576 ∧ ∀ x ∈ cvS l, x.length ≤ 1048576 := by
  refine ⟨by simpa [cvS] using h.1, fun x hx => ?_⟩
  simp only [cvS, List.mem_map] at hx
  obtain ⟨y, hy, rfl⟩ := hx
  simpa using h.2 y hy
def fitsB (key v : Int) : Bool := if Int.tmod key 2 = 1 then decide (0 ≤ v ∧ v ≤ 8) else decide (-2147483648 ≤ v ∧ v ≤ 2147483647)
theorem spec_in (a b c : Int) : spec_l01In.f a b c = some (decide (b ≤ a ∧ a ≤ c)) := by
  unfold spec_l01In.f
  by_cases h : b ≤ a
  · rw [if_pos h]; simp [h]
  · rw [if_neg h]; simp [h]
theorem impl_in (a b c : Int) : impl_within.f a b c = some (decide (b ≤ a ∧ a ≤ c)) := spec_in a b c
theorem spec_fits (a b : Int) : spec_l06Value.f a b = some (fitsB a b) := by
  unfold spec_l06Value.f spec_IsInt.f fitsB
  by_cases h : Int.tmod a 2 = 1
  · rw [if_pos h, if_pos h, spec_in]; rfl
  · rw [if_neg h, if_neg h, spec_in]; rfl
theorem impl_fits (a b : Int) : impl_fits.f a b = some (fitsB a b) := by
  unfold impl_fits.f impl_IsInt.f fitsB
  by_cases h : Int.tmod a 2 = 1
  · rw [if_pos h, if_pos h, impl_in]; rfl
  · rw [if_neg h, if_neg h, impl_in]; rfl
/-- A version that is right at its place. -/
def VerOK (now : Int) (key : Nat) (c : List S43) (i : Nat) : Prop :=
  1 ≤ (c.getD i z43).f0 ∧ (c.getD i z43).f0 ≤ now ∧ fitsB key (c.getD i z43).f1 = true ∧ (0 < i → (c.getD (i - 1) z43).f0 < (c.getD i z43).f0)
def IsStore (cs : List (List S43)) (now : Int) : Prop := cs.length = 16 ∧ 0 ≤ now ∧ now ≤ 100000 ∧ ∀ i, i < 16 → ∀ j, j < (cs.getD i []).length → VerOK now i (cs.getD i []) j
theorem spec_chain (cs : List (List S43)) (now : Int) (hl : cs.length = 16) (i : Nat) (hi : i < 16) (hx : (cs.getD i []).length ≤ 1048576) (R : Bool) (hR : Ev (fun k => spec_StoreOK.l0 k ((i + 1 : Nat) : Int) cs now) R) :
    ∃ r, Ev (fun k => spec_StoreOK.l1 k i 0 cs now) r ∧ (r = true ↔ (∀ j, j < (cs.getD i []).length → VerOK now i (cs.getD i []) j) ∧ R = true) := by
  obtain ⟨r, hr, he⟩ := count_loop (cs.getD i []).length (fun k j => spec_StoreOK.l1 k i j cs now) (fun j r => r = true ↔ (∀ j', j ≤ j' → j' < (cs.getD i []).length → VerOK now i (cs.getD i []) j') ∧ R = true)
    ⟨R, ⟨fun h => ⟨fun j' h1 h2 => by omega, h⟩, fun h => h.2⟩, ev_step ⟨0, fun k _ => by
      simp only [spec_StoreOK.l1]; rw [if_pos qa29, if_pos qa29, if_neg (by show ¬ ((cs.getD i []).length : Int) < ((rd_L4 cs (i : Int)).length : Int); simp [rd_L4]), wsucc (n := 16) hi qa29]⟩ hR⟩
    (fun j hj r hr he => by
      have hd : rd_L4 cs (i : Int) = cs.getD i [] := rfl
      have hv : rd_T43 (cs.getD i []) (j : Int) = (cs.getD i []).getD j z43 := rfl
      have hw1 : 0 < j → rd_T43 (cs.getD i []) (wrap64 ((j : Int) - 1)) = (cs.getD i []).getD (j - 1) z43 := fun h0 => by
        have : wrap64 ((j : Int) - 1) = ((j - 1 : Nat) : Int) := by unfold wrap64; omega
        rw [this]; rfl
      have hw2 : 0 < j → 0 ≤ wrap64 ((j : Int) - 1) ∧ wrap64 ((j : Int) - 1) < ((cs.getD i []).length : Int) := fun h0 => by
        have : wrap64 ((j : Int) - 1) = ((j - 1 : Nat) : Int) := by unfold wrap64; omega
        rw [this]; omega
      have no : ¬ VerOK now i (cs.getD i []) j → (∃ K, ∀ k, K ≤ k → spec_StoreOK.l1 (k + 1) i j cs now = some false) → ∃ r', (r' = true ↔ (∀ j', j ≤ j' → j' < (cs.getD i []).length → VerOK now i (cs.getD i []) j') ∧ R = true) ∧ Ev (fun k => spec_StoreOK.l1 k i j cs now) r' :=
        fun hn hk => ⟨false, ⟨fun h => qa188, fun h => absurd (h.1 j (Nat.le_refl _) hj) hn⟩, ev_now hk⟩
      have yes : VerOK now i (cs.getD i []) j → (∃ K, ∀ k, K ≤ k → spec_StoreOK.l1 (k + 1) i j cs now = spec_StoreOK.l1 k i ((j + 1 : Nat) : Int) cs now) → ∃ r', (r' = true ↔ (∀ j', j ≤ j' → j' < (cs.getD i []).length → VerOK now i (cs.getD i []) j') ∧ R = true) ∧ Ev (fun k => spec_StoreOK.l1 k i j cs now) r' :=
        fun hn hk => ⟨r, hr.trans ⟨fun h => ⟨fun j' h1 h2 => by
          rcases Nat.lt_or_eq_of_le h1 with h3 | rfl
          · exact h.1 j' h3 h2
          · exact hn, h.2⟩, fun h => ⟨fun j' h1 h2 => h.1 j' qa29 h2, h.2⟩⟩, ev_step hk he⟩
      have hh : ∀ k, spec_StoreOK.l1 (k + 1) i j cs now = if (decide (1 ≤ ((cs.getD i []).getD j z43).f0 ∧ ((cs.getD i []).getD j z43).f0 ≤ now)) = true then (if fitsB i ((cs.getD i []).getD j z43).f1 = true then (if (j : Int) > 0 then (if ((cs.getD i []).getD (j - 1) z43).f0 ≥ ((cs.getD i []).getD j z43).f0 then some false else spec_StoreOK.l1 k i ((j + 1 : Nat) : Int) cs now) else spec_StoreOK.l1 k i ((j + 1 : Nat) : Int) cs now) else some false) else some false := by
        intro k
        conv => lhs; simp only [spec_StoreOK.l1]
        rw [hd, if_pos qa29, if_pos qa29, if_pos qa29, if_pos qa29, spec_in, spec_fits, hv]
        simp only [Option.bind_some, wsucc hj qa29]
        by_cases h0 : 0 < j
        · rw [hw1 h0, if_pos (hw2 h0).1, if_pos (hw2 h0).2]
        · simp only [if_neg (show ¬ ((j : Int) > 0) by omega)]
      by_cases h1 : 1 ≤ ((cs.getD i []).getD j z43).f0 ∧ ((cs.getD i []).getD j z43).f0 ≤ now
      · by_cases h2 : fitsB i ((cs.getD i []).getD j z43).f1 = true
        · by_cases h3 : 0 < j
          · by_cases h4 : ((cs.getD i []).getD (j - 1) z43).f0 ≥ ((cs.getD i []).getD j z43).f0
            · exact no (fun h => absurd (h.2.2.2 h3) qa29) ⟨0, fun k _ => by rw [hh, if_pos (decide_eq_true h1), if_pos h2, if_pos qa29, if_pos h4]⟩
            · exact yes ⟨h1.1, h1.2, h2, fun _ => by omega⟩ ⟨0, fun k _ => by rw [hh, if_pos (decide_eq_true h1), if_pos h2, if_pos qa29, if_neg h4]⟩
          · exact yes ⟨h1.1, h1.2, h2, fun h => absurd h h3⟩ ⟨0, fun k _ => by rw [hh, if_pos (decide_eq_true h1), if_pos h2, if_neg qa29]⟩
        · exact no (fun h => h2 h.2.2.1) ⟨0, fun k _ => by rw [hh, if_pos (decide_eq_true h1), if_neg h2]⟩
      · exact no (fun h => h1 ⟨h.1, h.2.1⟩) ⟨0, fun k _ => by rw [hh, if_neg (by simpa using h1)]⟩) 0 qa29
  exact ⟨r, he, hr.trans ⟨fun h => ⟨fun j hj => h.1 j qa29 hj, h.2⟩, fun h => ⟨fun j _ hj => h.1 j hj, h.2⟩⟩⟩
theorem spec_store_ok (cs : List (List S43)) (now : Int) (hx : ∀ x ∈ cs, x.length ≤ 1048576) : ∃ r, Ev (fun k => spec_StoreOK.f k cs now) r ∧ (r = true ↔ IsStore cs now) := by
  by_cases hl : cs.length = 16
  · by_cases hn : 0 ≤ now ∧ now ≤ 100000
    · obtain ⟨r, hr, he⟩ := count_loop 16 (fun k i => spec_StoreOK.l0 k i cs now) (fun i r => r = true ↔ ∀ i', i ≤ i' → i' < 16 → ∀ j, j < (cs.getD i' []).length → VerOK now i' (cs.getD i' []) j)
        ⟨true, ⟨fun _ i' h1 h2 => by omega, fun _ => rfl⟩, ev_now ⟨0, fun k _ => by simp only [spec_StoreOK.l0]; rw [if_neg qa29]⟩⟩
        (fun i hi R hR he => by
          have hm : (cs.getD i []) ∈ cs := by rw [List.getD_eq_getElem?_getD, List.getElem?_eq_getElem qa29]; exact List.getElem_mem qa29
          obtain ⟨r, he', hr⟩ := spec_chain cs now hl i hi (hx _ hm) R he
          refine ⟨r, ?_, ev_step ⟨0, fun k _ => by simp only [spec_StoreOK.l0]; rw [if_pos qa29]⟩ he'⟩
          rw [hr, hR]
          constructor
          · rintro ⟨h1, h2⟩ i' h3 h4
            rcases Nat.lt_or_eq_of_le h3 with h5 | rfl
            · exact h2 i' h5 h4
            · exact h1
          · intro h; exact ⟨h i (Nat.le_refl _) hi, fun i' h3 h4 => h i' qa29 h4⟩) 0 qa29
      refine ⟨r, ?_, hr.trans ⟨fun h => ⟨hl, hn.1, hn.2, fun i hi => h i qa29 hi⟩, fun h i _ hi => h.2.2.2 i hi⟩⟩
      refine ev_step (f := fun k => spec_StoreOK.l0 k 0 cs now) ⟨0, fun k _ => ?_⟩ he
      unfold spec_StoreOK.f
      rw [if_pos qa29, spec_in]
      simp only [Option.bind_some, decide_eq_true hn, Bool.not_true, spec_StoreOK.j0]
      rw [if_neg qa117]
    · refine ⟨false, ev_now ⟨0, fun k _ => ?_⟩, ⟨fun h => qa188, fun h => absurd ⟨h.2.1, h.2.2.1⟩ hn⟩⟩
      unfold spec_StoreOK.f
      rw [if_pos qa29, spec_in]
      simp only [Option.bind_some, decide_eq_false hn, Bool.not_false, spec_StoreOK.j0]
      exact if_pos trivial
  · refine ⟨false, ev_now ⟨0, fun k _ => ?_⟩, ⟨fun h => qa188, fun h => absurd h.1 hl⟩⟩
    unfold spec_StoreOK.f
    rw [if_neg qa29]
    simp only [spec_StoreOK.j0]
    exact if_pos trivial
theorem impl_chain (cs : List (List S43)) (now : Int) (i : Nat) (hi : i < 16) (c : List S43) (hc : c = cs.getD i []) (hx : c.length ≤ 1048576) (R : Bool) (hR : Ev (fun k => impl_StoreOK.l0 k cs 16 ((i + 1 : Nat) : Int) cs now) R) :
    ∃ r, Ev (fun k => impl_StoreOK.l1 k i c cs 16 i c (c.length : Int) 0 cs now) r ∧ (r = true ↔ (∀ j, j < c.length → VerOK now i c j) ∧ R = true) := by
  obtain ⟨r, hr, he⟩ := count_loop c.length (fun k j => impl_StoreOK.l1 k i c cs 16 i c (c.length : Int) j cs now) (fun j r => r = true ↔ (∀ j', j ≤ j' → j' < c.length → VerOK now i c j') ∧ R = true)
    ⟨R, ⟨fun h => ⟨fun j' h1 h2 => by omega, h⟩, fun h => h.2⟩, ev_step ⟨0, fun k _ => by
      simp only [impl_StoreOK.l1]; rw [if_neg qa29, wsucc (n := 16) hi qa29]⟩ hR⟩
    (fun j hj r hr he => by
      have hv : rd_T43 c (j : Int) = c.getD j z43 := rfl
      have hw1 : 0 < j → rd_T43 c (wrap64 ((j : Int) - 1)) = c.getD (j - 1) z43 := fun h0 => by
        have : wrap64 ((j : Int) - 1) = ((j - 1 : Nat) : Int) := by unfold wrap64; omega
        rw [this]; rfl
      have hw2 : 0 < j → 0 ≤ wrap64 ((j : Int) - 1) ∧ wrap64 ((j : Int) - 1) < (c.length : Int) := fun h0 => by
        have : wrap64 ((j : Int) - 1) = ((j - 1 : Nat) : Int) := by unfold wrap64; omega
        rw [this]; omega
      have no : ¬ VerOK now i c j → (∃ K, ∀ k, K ≤ k → impl_StoreOK.l1 (k + 1) i c cs 16 i c (c.length : Int) j cs now = some false) → ∃ r', (r' = true ↔ (∀ j', j ≤ j' → j' < c.length → VerOK now i c j') ∧ R = true) ∧ Ev (fun k => impl_StoreOK.l1 k i c cs 16 i c (c.length : Int) j cs now) r' :=
        fun hn hk => ⟨false, ⟨fun h => qa188, fun h => absurd (h.1 j (Nat.le_refl _) hj) hn⟩, ev_now hk⟩
      have yes : VerOK now i c j → (∃ K, ∀ k, K ≤ k → impl_StoreOK.l1 (k + 1) i c cs 16 i c (c.length : Int) j cs now = impl_StoreOK.l1 k i c cs 16 i c (c.length : Int) ((j + 1 : Nat) : Int) cs now) → ∃ r', (r' = true ↔ (∀ j', j ≤ j' → j' < c.length → VerOK now i c j') ∧ R = true) ∧ Ev (fun k => impl_StoreOK.l1 k i c cs 16 i c (c.length : Int) j cs now) r' :=
        fun hn hk => ⟨r, hr.trans ⟨fun h => ⟨fun j' h1 h2 => by
          rcases Nat.lt_or_eq_of_le h1 with h3 | rfl
          · exact h.1 j' h3 h2
          · exact hn, h.2⟩, fun h => ⟨fun j' h1 h2 => h.1 j' qa29 h2, h.2⟩⟩, ev_step hk he⟩
      have hh : ∀ k, impl_StoreOK.l1 (k + 1) i c cs 16 i c (c.length : Int) j cs now = if (decide (1 ≤ (c.getD j z43).f0 ∧ (c.getD j z43).f0 ≤ now)) = true then (if (j : Int) > 0 then (if (c.getD (j - 1) z43).f0 ≥ (c.getD j z43).f0 then some false else (if fitsB i (c.getD j z43).f1 = true then impl_StoreOK.l1 k i c cs 16 i c (c.length : Int) ((j + 1 : Nat) : Int) cs now else some false)) else (if fitsB i (c.getD j z43).f1 = true then impl_StoreOK.l1 k i c cs 16 i c (c.length : Int) ((j + 1 : Nat) : Int) cs now else some false)) else some false := by
        intro k
        conv => lhs; simp only [impl_StoreOK.l1]
        rw [if_pos qa29, if_pos qa29, if_pos qa29, impl_in, impl_fits, hv]
        simp only [Option.bind_some, wsucc hj qa29]
        by_cases h0 : 0 < j
        · rw [hw1 h0, if_pos (hw2 h0).1, if_pos (hw2 h0).2]
        · simp only [if_neg (show ¬ ((j : Int) > 0) by omega)]
      by_cases h1 : 1 ≤ (c.getD j z43).f0 ∧ (c.getD j z43).f0 ≤ now
      · by_cases h2 : fitsB i (c.getD j z43).f1 = true
        · by_cases h3 : 0 < j
          · by_cases h4 : (c.getD (j - 1) z43).f0 ≥ (c.getD j z43).f0
            · exact no (fun h => absurd (h.2.2.2 h3) qa29) ⟨0, fun k _ => by rw [hh, if_pos (decide_eq_true h1), if_pos qa29, if_pos h4]⟩
            · exact yes ⟨h1.1, h1.2, h2, fun _ => by omega⟩ ⟨0, fun k _ => by rw [hh, if_pos (decide_eq_true h1), if_pos qa29, if_neg h4, if_pos h2]⟩
          · exact yes ⟨h1.1, h1.2, h2, fun h => absurd h h3⟩ ⟨0, fun k _ => by rw [hh, if_pos (decide_eq_true h1), if_neg qa29, if_pos h2]⟩
        · refine no (fun h => h2 h.2.2.1) ⟨0, fun k _ => ?_⟩
          rw [hh, if_pos (decide_eq_true h1)]
          simp only [if_neg h2]
          repeat' split
          all_goals rfl
      · exact no (fun h => h1 ⟨h.1, h.2.1⟩) ⟨0, fun k _ => by rw [hh, if_neg (by simpa using h1)]⟩) 0 qa29
  exact ⟨r, he, hr.trans ⟨fun h => ⟨fun j hj => h.1 j qa29 hj, h.2⟩, fun h => ⟨fun j _ hj => h.1 j hj, h.2⟩⟩⟩
theorem impl_store_ok (cs : List (List S43)) (now : Int) (hx : ∀ x ∈ cs, x.length ≤ 1048576) : ∃ r, Ev (fun k => impl_StoreOK.f k cs now) r ∧ (r = true ↔ IsStore cs now) := by
  by_cases hl : cs.length = 16
  · by_cases hn : 0 ≤ now ∧ now ≤ 100000
    · obtain ⟨r, hr, he⟩ := count_loop 16 (fun k i => impl_StoreOK.l0 k cs 16 i cs now) (fun i r => r = true ↔ ∀ i', i ≤ i' → i' < 16 → ∀ j, j < (cs.getD i' []).length → VerOK now i' (cs.getD i' []) j)
        ⟨true, ⟨fun _ i' h1 h2 => by omega, fun _ => rfl⟩, ev_now ⟨0, fun k _ => by simp only [impl_StoreOK.l0]; rw [if_neg qa29]⟩⟩
        (fun i hi R hR he => by
          have hm : (cs.getD i []) ∈ cs := by rw [List.getD_eq_getElem?_getD, List.getElem?_eq_getElem qa29]; exact List.getElem_mem qa29
          obtain ⟨r, he', hr⟩ := impl_chain cs now i hi (cs.getD i []) rfl (hx _ hm) R he
          refine ⟨r, ?_, ev_step ⟨0, fun k _ => by simp only [impl_StoreOK.l0]; rw [if_pos qa29, if_pos qa29, if_pos qa29]; rfl⟩ he'⟩
          rw [hr, hR]
          constructor
          · rintro ⟨h1, h2⟩ i' h3 h4
            rcases Nat.lt_or_eq_of_le h3 with h5 | rfl
            · exact h2 i' h5 h4
            · exact h1
          · intro h; exact ⟨h i (Nat.le_refl _) hi, fun i' h3 h4 => h i' qa29 h4⟩) 0 qa29
      refine ⟨r, ?_, hr.trans ⟨fun h => ⟨hl, hn.1, hn.2, fun i hi => h i qa29 hi⟩, fun h i _ hi => h.2.2.2 i hi⟩⟩
      refine ev_step (f := fun k => impl_StoreOK.l0 k cs 16 0 cs now) ⟨0, fun k _ => ?_⟩ he
      unfold impl_StoreOK.f
      rw [if_pos qa29, impl_in]
      simp only [Option.bind_some, decide_eq_true hn, Bool.not_true, impl_StoreOK.j0]
      rw [if_neg qa117, hl]
      rfl
    · refine ⟨false, ev_now ⟨0, fun k _ => ?_⟩, ⟨fun h => qa188, fun h => absurd ⟨h.2.1, h.2.2.1⟩ hn⟩⟩
      unfold impl_StoreOK.f
      rw [if_pos qa29, impl_in]
      simp only [Option.bind_some, decide_eq_false hn, Bool.not_false, impl_StoreOK.j0]
      exact if_pos trivial
  · refine ⟨false, ev_now ⟨0, fun k _ => ?_⟩, ⟨fun h => qa188, fun h => absurd h.1 hl⟩⟩
    unfold impl_StoreOK.f
    rw [if_neg qa29]
    simp only [impl_StoreOK.j0]
    exact if_pos trivial
/-- Both say the same of a store. -/
theorem stores_agree (cs : List (List S43)) (now : Int) (hx : ∀ x ∈ cs, x.length ≤ 1048576) : ∃ r, Ev (fun k => spec_StoreOK.f k cs now) r ∧ Ev (fun k => impl_StoreOK.f k cs now) r ∧ (r = true ↔ IsStore cs now) := by
  obtain ⟨r, e, hr⟩ := spec_store_ok cs now hx
  obtain ⟨r', e', hr'⟩ := impl_store_ok cs now hx
  have : r' = r := by rw [Bool.eq_iff_iff, hr, hr']
  subst this
  exact ⟨r', e, e', hr⟩
end Go.Proofs.Ytfiboooflebdpaa.Pure2
namespace Go.Proofs.Ytfiboooflebdpaa.Pure2
open Go.RowKit Go.Proofs.Ytfiboooflebdpaa.Q Go.Proofs.YtfiboooflebdpaaW.PrintWords Go.Proofs.YtfiboooflebdpaaW.PrintLast
set_option linter.unusedVariables false
set_option linter.unusedSimpArgs false
/-! puts that came in, their copies, whether they are right -/
theorem sz_puts (l : List S76) (a : Int) (h0 : 0 ≤ a) (h1 : a ≤ 1048576) (hl : l.length ≤ 9223372036854775807) : ∃ r, laws_szPutS.f l a = some r ∧ (r < 0 ∨ 0 ≤ r ∧ r ≤ a ∧ l.length ≤ 1048576) := by
  have hw : wrap64 (a - (l.length : Int)) = a - (l.length : Int) := by unfold wrap64; omega
  unfold laws_szPutS.f
  rw [hw]
  by_cases h : a - (l.length : Int) < 0
  · rw [if_pos h]; exact ⟨_, rfl, .inl qa29⟩
  · rw [if_neg h]; exact ⟨_, rfl, .inr ⟨qa29, qa29, qa29⟩⟩
def cvP (x : S76) : S58 := ⟨x.f0, x.f1⟩
theorem to_puts (l : List S76) (hl : l.length ≤ 1048576) : Ev (fun k => laws_toPutS.f k l) (l.map cvP) := by
  have h := fill_loop l z76 cvP (fun k y i => laws_toPutS.l0 k l y i) (fun y hy => ⟨0, fun k _ => by simp only [laws_toPutS.l0]; rw [if_neg qa29]⟩)
    (fun j y hj hy => ⟨0, fun k _ => by
      simp only [laws_toPutS.l0, laws_toPut.f]; rw [if_pos qa29, if_pos qa29]; simp only [Option.bind_some]; rw [if_pos qa29, wsucc hj qa29]; rfl⟩) (List.replicate l.length z58) qa117
  refine ev_same ⟨0, fun k _ => ?_⟩ h
  unfold laws_toPutS.f
  rw [if_pos qa29, if_pos qa192, Int.toNat_natCast]
theorem eq_puts (l : List S58) (hl : l.length ≤ 1048576) : Ev (fun k => laws_eqPutS.f k l l) true := by
  obtain ⟨r, hr, he⟩ := count_loop l.length (fun k i => laws_eqPutS.l0 k l l i) (fun _ r => r = true) ⟨true, rfl, ev_now ⟨0, fun k _ => by simp only [laws_eqPutS.l0]; rw [if_neg qa29]⟩⟩
    (fun j hj r hr he => ⟨r, hr, ev_step ⟨0, fun k _ => by simp only [laws_eqPutS.l0, laws_eqPut.f]; rw [if_pos qa29, if_pos qa29, if_pos qa29]; simp only [if_true, Option.bind_some]; rw [wsucc hj qa29]⟩ he⟩) 0 qa29
  subst hr
  exact ev_same ⟨0, fun k _ => by unfold laws_eqPutS.f; rw [if_pos rfl]; rfl⟩ he
def IsPut (x : S58) : Prop := (0 ≤ x.f0 ∧ x.f0 ≤ 15) ∧ fitsB x.f0 x.f1 = true
def IsPuts (l : List S58) : Prop := l.length ≤ 400 ∧ ∀ j, j < l.length → IsPut (l.getD j z58)
theorem spec_puts (l : List S58) (hl : l.length ≤ 1048576) : ∃ r, Ev (fun k => spec_l06Puts.f k l) r ∧ (r = true ↔ IsPuts l) := by
  obtain ⟨r, hr, he⟩ := count_loop l.length (fun k i => spec_l06Puts.l0 k l i) (fun j r => r = true ↔ l.length ≤ 400 ∧ ∀ j', j ≤ j' → j' < l.length → IsPut (l.getD j' z58))
    ⟨decide ((l.length : Int) ≤ 400), ⟨fun h => ⟨by have := of_decide_eq_true h; omega, fun j' h1 h2 => by omega⟩, fun h => decide_eq_true (by have := h.1; omega)⟩, ev_now ⟨0, fun k _ => by simp only [spec_l06Puts.l0]; rw [if_neg qa29]⟩⟩
    (fun j hj r hr he => by
      have hd : rd_T58 l (j : Int) = l.getD j z58 := rfl
      have hh : ∀ k, spec_l06Puts.l0 (k + 1) l (j : Int) = if decide (0 ≤ (l.getD j z58).f0 ∧ (l.getD j z58).f0 ≤ 15) = true then (if fitsB (l.getD j z58).f0 (l.getD j z58).f1 = true then spec_l06Puts.l0 k l ((j + 1 : Nat) : Int) else some false) else some false := by
        intro k
        conv => lhs; simp only [spec_l06Puts.l0]
        rw [if_pos qa29, if_pos qa29, hd, spec_in, spec_fits]
        simp only [Option.bind_some, wsucc hj qa29]
      by_cases h1 : 0 ≤ (l.getD j z58).f0 ∧ (l.getD j z58).f0 ≤ 15
      · by_cases h2 : fitsB (l.getD j z58).f0 (l.getD j z58).f1 = true
        · refine ⟨r, hr.trans ⟨fun h => ⟨h.1, fun j' h3 h4 => ?_⟩, fun h => ⟨h.1, fun j' h3 h4 => h.2 j' qa29 h4⟩⟩, ev_step ⟨0, fun k _ => by rw [hh, if_pos (decide_eq_true h1), if_pos h2]⟩ he⟩
          rcases Nat.lt_or_eq_of_le h3 with h5 | rfl
          · exact h.2 j' h5 h4
          · exact ⟨h1, h2⟩
        · exact ⟨false, ⟨fun h => qa188, fun h => absurd (h.2 j (Nat.le_refl _) hj).2 h2⟩, ev_now ⟨0, fun k _ => by rw [hh, if_pos (decide_eq_true h1), if_neg h2]⟩⟩
      · exact ⟨false, ⟨fun h => qa188, fun h => absurd (h.2 j (Nat.le_refl _) hj).1 h1⟩, ev_now ⟨0, fun k _ => by rw [hh, if_neg (by simpa using h1)]⟩⟩) 0 qa29
  exact ⟨r, ev_same ⟨0, fun k _ => by unfold spec_l06Puts.f; rfl⟩ he, hr.trans ⟨fun h => ⟨h.1, fun j hj => h.2 j qa29 hj⟩, fun h => ⟨h.1, fun j _ hj => h.2 j hj⟩⟩⟩
theorem impl_put (a b : Int) : impl_isPut.f a b = some (decide (0 ≤ a ∧ a ≤ 15) && fitsB a b) := by
  unfold impl_isPut.f impl_isKey.f
  rw [impl_in, impl_fits]
  by_cases h : 0 ≤ a ∧ a ≤ 15
  · simp [h]
  · simp only [Option.bind_some, decide_eq_false h]; rfl
theorem impl_puts (l : List S58) : ∃ r, impl_arePuts.f l = some r ∧ (r = true ↔ IsPuts l) := by
  have hp : ∀ x, impl_arePuts.p x = false ↔ IsPut x := by
    intro x
    unfold impl_arePuts.p impl_arePuts_1.f
    rw [impl_put]
    simp only [Option.bind_some, IsPut]
    by_cases h : 0 ≤ x.f0 ∧ x.f0 ≤ 15
    · simp [h]
    · simp only [decide_eq_false h, Bool.false_and, Bool.not_false]
      exact ⟨fun h2 => (by cases h2), fun h2 => absurd h2.1 h⟩
  unfold impl_arePuts.f
  by_cases hl : (l.length : Int) ≤ 400
  · rw [if_pos hl]
    refine ⟨_, rfl, ?_⟩
    rw [Bool.not_eq_true', List.any_eq_false]
    constructor
    · intro h
      refine ⟨qa29, fun j hj => ?_⟩
      rw [List.getD_eq_getElem?_getD, List.getElem?_eq_getElem hj]
      exact (hp _).1 (by simpa using h _ (List.getElem_mem hj))
    · rintro ⟨_, h⟩ x hx
      obtain ⟨j, hj, rfl⟩ := List.getElem_of_mem hx
      have := h j hj
      rw [List.getD_eq_getElem?_getD, List.getElem?_eq_getElem hj] at this
      simpa using (hp _).2 this
  · rw [if_neg hl]
    exact ⟨false, rfl, ⟨fun h => qa188, fun h => absurd h.1 qa29⟩⟩
end Go.Proofs.Ytfiboooflebdpaa.Pure2
namespace Go.Proofs.Ytfiboooflebdpaa.Pure2
open Go.RowKit Go.Proofs.Ytfiboooflebdpaa.Q Go.Proofs.YtfiboooflebdpaaW.PrintWords Go.Proofs.YtfiboooflebdpaaW.PrintLast
set_option linter.unusedVariables false
set_option linter.unusedSimpArgs false
/-- The measure of a transaction that came in. -/
theorem sz_ints (l : List Int) (a : Int) (h0 : 0 ≤ a) (h1 : a ≤ 1048576) (hl : l.length ≤ 9223372036854775807) : ∃ r, laws_szIntS.f l a = some r ∧ (r < 0 ∨ 0 ≤ r ∧ r ≤ a ∧ l.length ≤ 1048576) := by
  have hw : wrap64 (a - (l.length : Int)) = a - (l.length : Int) := by unfold wrap64; omega
  unfold laws_szIntS.f
  rw [hw]
  by_cases h : a - (l.length : Int) < 0
  · rw [if_pos h]; exact ⟨_, rfl, .inl qa29⟩
  · rw [if_neg h]; exact ⟨_, rfl, .inr ⟨qa29, qa29, qa29⟩⟩
theorem sz_txn (y : S75) (a : Int) (h0 : 0 ≤ a) (h1 : a ≤ 1048576) (hi : i75 y) : ∃ r, laws_szTxn.f y.f0 y.f1 y.f2 a = some r ∧ (r < 0 ∨ 0 ≤ r ∧ r ≤ a ∧ y.f1.length ≤ 1048576 ∧ y.f2.length ≤ 1048576) := by
  obtain ⟨r, e, hr⟩ := sz_ints y.f1 a h0 h1 hi.2.1.1
  unfold laws_szTxn.f
  rw [e]
  simp only [Option.bind_some]
  rcases hr with hr | ⟨h2, h3, h4⟩
  · exact ⟨-1, by rw [if_pos hr], .inl qa29⟩
  · rw [if_neg qa29]
    obtain ⟨q, e2, hq⟩ := sz_puts y.f2 r h2 qa29 hi.2.2.1
    rw [e2]
    simp only [Option.bind_some]
    rcases hq with hq | ⟨h5, h6, h7⟩
    · exact ⟨-1, by rw [if_pos hq], .inl qa29⟩
    · exact ⟨q, by rw [if_neg (by omega)], .inr ⟨h5, qa29, h4, h7⟩⟩
theorem to_ints (l : List Int) (hl : l.length ≤ 1048576) : Ev (fun k => laws_toIntS.f k l) l := by
  have h := fill_loop l 0 id (fun k y i => laws_toIntS.l0 k l y i) (fun y hy => ⟨0, fun k _ => by simp only [laws_toIntS.l0]; rw [if_neg qa29]⟩)
    (fun j y hj hy => ⟨0, fun k _ => by
      simp only [laws_toIntS.l0]; rw [if_pos qa29, if_pos qa29, if_pos qa29, wsucc hj qa29]; rfl⟩) (List.replicate l.length 0) qa117
  rw [List.map_id] at h
  refine ev_same ⟨0, fun k _ => ?_⟩ h
  unfold laws_toIntS.f
  rw [if_pos qa29, if_pos qa192, Int.toNat_natCast]
theorem to_txn (a : Int) (l : List Int) (p : List S76) (hl : l.length ≤ 1048576) (hp : p.length ≤ 1048576) : Ev (fun k => laws_toTxn.f k a l p) (a, l, p.map cvP) := by
  obtain ⟨K1, h1⟩ := ev_at (to_ints l hl)
  obtain ⟨K2, h2⟩ := ev_at (to_puts p hp)
  exact ev_mk (K1 + K2) (fun k hk => by unfold laws_toTxn.f; rw [h1 k qa29]; simp only [Option.bind_some]; rw [h2 k qa29]; rfl)
theorem eq_ints (l : List Int) (hl : l.length ≤ 1048576) : Ev (fun k => laws_eqIntS.f k l l) true := by
  obtain ⟨r, hr, he⟩ := count_loop l.length (fun k i => laws_eqIntS.l0 k l l i) (fun _ r => r = true) ⟨true, rfl, ev_now ⟨0, fun k _ => by simp only [laws_eqIntS.l0]; rw [if_neg qa29]⟩⟩
    (fun j hj r hr he => ⟨r, hr, ev_step ⟨0, fun k _ => by simp only [laws_eqIntS.l0]; rw [if_pos qa29, if_pos qa29, if_pos qa29, if_pos trivial, wsucc hj qa29]⟩ he⟩) 0 qa29
  subst hr
  exact ev_same ⟨0, fun k _ => by unfold laws_eqIntS.f; rw [if_pos rfl]; rfl⟩ he
theorem eq_txn (a : Int) (l : List Int) (p : List S58) (hl : l.length ≤ 1048576) (hp : p.length ≤ 1048576) : Ev (fun k => laws_eqTxn.f k a l p a l p) true := by
  obtain ⟨K1, h1⟩ := ev_at (eq_ints l hl)
  obtain ⟨K2, h2⟩ := ev_at (eq_puts p hp)
  exact ev_mk (K1 + K2) (fun k hk => by unfold laws_eqTxn.f; rw [if_pos rfl, h1 k qa29]; simp only [Option.bind_some, if_true]; rw [h2 k qa29]; rfl)
theorem spec_int_in (l : List Int) (x : Int) (hl : l.length ≤ 1048576) : ∃ r, Ev (fun k => spec_l07In.f k l x) r ∧ (r = true ↔ ∃ j, j < l.length ∧ l.getD j 0 = x) := by
  obtain ⟨r, hr, he⟩ := count_loop l.length (fun k i => spec_l07In.l0 k l x i) (fun j r => r = true ↔ ∃ j', j ≤ j' ∧ j' < l.length ∧ l.getD j' 0 = x)
    ⟨false, ⟨fun h => qa188, fun ⟨j', h1, h2, _⟩ => by omega⟩, ev_now ⟨0, fun k _ => by simp only [spec_l07In.l0]; rw [if_neg qa29]⟩⟩
    (fun j hj r hr he => by
      have hd : rd l (j : Int) = l.getD j 0 := rfl
      by_cases hc : l.getD j 0 = x
      · exact ⟨true, ⟨fun _ => ⟨j, Nat.le_refl _, hj, hc⟩, fun _ => rfl⟩, ev_now ⟨0, fun k _ => by simp only [spec_l07In.l0]; rw [if_pos qa29, if_pos qa29, hd, if_pos hc]⟩⟩
      · refine ⟨r, hr.trans ⟨fun ⟨j', h1, h2, h3⟩ => ⟨j', qa29, h2, h3⟩, fun ⟨j', h1, h2, h3⟩ => ?_⟩, ev_step ⟨0, fun k _ => by simp only [spec_l07In.l0]; rw [if_pos qa29, if_pos qa29, hd, if_neg hc, wsucc hj qa29]⟩ he⟩
        rcases Nat.lt_or_eq_of_le h1 with h4 | rfl
        · exact ⟨j', h4, h2, h3⟩
        · exact absurd h3 hc) 0 qa29
  exact ⟨r, ev_same ⟨0, fun k _ => by unfold spec_l07In.f; rfl⟩ he, hr.trans ⟨fun ⟨j, _, h2, h3⟩ => ⟨j, h2, h3⟩, fun ⟨j, h2, h3⟩ => ⟨j, qa29, h2, h3⟩⟩⟩
theorem impl_int_in (l : List Int) (x : Int) (hl : l.length ≤ 1048576) : ∃ r, Ev (fun k => slices_Contains_int_int.f k l x) r ∧ (r = true ↔ ∃ j, j < l.length ∧ l.getD j 0 = x) := by
  obtain ⟨r, hr, he⟩ := count_loop l.length (fun k i => slices_Index_int_int.l0 k l x (l.length : Int) i) (fun j r => r ≥ 0 ↔ ∃ j', j ≤ j' ∧ j' < l.length ∧ l.getD j' 0 = x)
    ⟨-1, ⟨fun h => by omega, fun ⟨j', h1, h2, _⟩ => by omega⟩, ev_now ⟨0, fun k _ => by simp only [slices_Index_int_int.l0]; rw [if_neg qa29]⟩⟩
    (fun j hj r hr he => by
      have hd : rd l (j : Int) = l.getD j 0 := rfl
      by_cases hc : l.getD j 0 = x
      · exact ⟨(j : Int), ⟨fun _ => ⟨j, Nat.le_refl _, hj, hc⟩, fun _ => by omega⟩, ev_now ⟨0, fun k _ => by simp only [slices_Index_int_int.l0]; rw [if_pos qa29, if_pos qa29, if_pos qa29, hd, if_pos hc.symm]⟩⟩
      · refine ⟨r, hr.trans ⟨fun ⟨j', h1, h2, h3⟩ => ⟨j', qa29, h2, h3⟩, fun ⟨j', h1, h2, h3⟩ => ?_⟩, ev_step ⟨0, fun k _ => by simp only [slices_Index_int_int.l0]; rw [if_pos qa29, if_pos qa29, if_pos qa29, hd, if_neg (fun h => hc h.symm), wsucc hj qa29]⟩ he⟩
        rcases Nat.lt_or_eq_of_le h1 with h4 | rfl
        · exact ⟨j', h4, h2, h3⟩
        · exact absurd h3 hc) 0 qa29
  obtain ⟨K, hk⟩ := ev_at he
  refine ⟨decide (r ≥ 0), ev_mk K fun k hK => ?_, ?_⟩
  · have := hk k hK
    unfold slices_Contains_int_int.f slices_Index_int_int.f
    simp only [Int.natCast_zero] at this
    rw [this]
    rfl
  · rw [decide_eq_true_iff, hr]
    exact ⟨fun ⟨j, _, h2, h3⟩ => ⟨j, h2, h3⟩, fun ⟨j, h2, h3⟩ => ⟨j, qa29, h2, h3⟩⟩
/-- A read that is a key, and new. -/
def ReadOK (l : List Int) (j : Nat) : Prop := (0 ≤ l.getD j 0 ∧ l.getD j 0 ≤ 15) ∧ ¬ ∃ i, i < j ∧ l.getD i 0 = l.getD j 0
theorem take_in (l : List Int) (j : Nat) (hj : j < l.length) : (∃ i, i < (l.take j).length ∧ (l.take j).getD i 0 = l.getD j 0) ↔ ∃ i, i < j ∧ l.getD i 0 = l.getD j 0 := by
  have hl : (l.take j).length = j := by rw [List.length_take]; omega
  have hg : ∀ i, i < j → (l.take j).getD i 0 = l.getD i 0 := fun i hi => by simp [List.getD_eq_getElem?_getD, List.getElem?_take, hi]
  rw [hl]
  exact ⟨fun ⟨i, h1, h2⟩ => ⟨i, h1, by rw [← hg i h1]; exact h2⟩, fun ⟨i, h1, h2⟩ => ⟨i, h1, by rw [hg i h1]; exact h2⟩⟩
def IsTxn (cs : List (List S43)) (now st : Int) (l : List Int) (p : List S58) : Prop := IsStore cs now ∧ (0 ≤ st ∧ st ≤ now) ∧ IsPuts p ∧ ∀ j, j < l.length → ReadOK l j
theorem spec_reads (st : Int) (l : List Int) (p : List S58) (hl : l.length ≤ 1048576) : ∃ r, Ev (fun k => spec_l07OK.l0 k 0 st l p) r ∧ (r = true ↔ ∀ j, j < l.length → ReadOK l j) := by
  obtain ⟨r, hr, he⟩ := count_loop l.length (fun k i => spec_l07OK.l0 k i st l p) (fun j r => r = true ↔ ∀ j', j ≤ j' → j' < l.length → ReadOK l j')
    ⟨true, ⟨fun _ j' h1 h2 => by omega, fun _ => rfl⟩, ev_now ⟨0, fun k _ => by simp only [spec_l07OK.l0]; rw [if_neg qa29]⟩⟩
    (fun j hj r hr he => by
      have hd : rd l (j : Int) = l.getD j 0 := rfl
      obtain ⟨q, eq, hq⟩ := spec_int_in (l.take j) (l.getD j 0) (by rw [List.length_take]; omega)
      rw [take_in l j hj] at hq
      obtain ⟨K, hk⟩ := ev_at eq
      have hh : ∀ k, K ≤ k → spec_l07OK.l0 (k + 1) (j : Int) st l p = if decide (0 ≤ l.getD j 0 ∧ l.getD j 0 ≤ 15) = true then (if q = true then some false else spec_l07OK.l0 k ((j + 1 : Nat) : Int) st l p) else some false := by
        intro k hK
        conv => lhs; simp only [spec_l07OK.l0]
        rw [if_pos qa29, if_pos qa29, hd, spec_in]
        simp only [Option.bind_some, wsucc hj qa29, Int.toNat_natCast]
        rw [if_pos (show (j : Int) ≤ (l.length : Int) by omega), hk k hK]
        simp only [Option.bind_some]
      by_cases h1 : 0 ≤ l.getD j 0 ∧ l.getD j 0 ≤ 15
      · by_cases h2 : q = true
        · exact ⟨false, ⟨fun h => qa188, fun h => absurd (hq.1 h2) (h j (Nat.le_refl _) hj).2⟩, ev_now ⟨K, fun k hK => by rw [hh k hK, if_pos (decide_eq_true h1), if_pos h2]⟩⟩
        · refine ⟨r, hr.trans ⟨fun h j' h3 h4 => ?_, fun h j' h3 h4 => h j' qa29 h4⟩, ev_step ⟨K, fun k hK => by rw [hh k hK, if_pos (decide_eq_true h1), if_neg h2]⟩ he⟩
          rcases Nat.lt_or_eq_of_le h3 with h5 | rfl
          · exact h j' h5 h4
          · exact ⟨h1, fun h => h2 (hq.2 h)⟩
      · exact ⟨false, ⟨fun h => qa188, fun h => absurd (h j (Nat.le_refl _) hj).1 h1⟩, ev_now ⟨K, fun k hK => by rw [hh k hK, if_neg (by simpa using h1)]⟩⟩) 0 qa29
  exact ⟨r, he, hr.trans ⟨fun h j hj => h j qa29 hj, fun h j _ hj => h j hj⟩⟩
theorem impl_reads (st : Int) (l : List Int) (p : List S58) (hl : l.length ≤ 1048576) : ∃ r, Ev (fun k => impl_TxnOK.l0 k l (l.length : Int) 0 st l p) r ∧ (r = true ↔ ∀ j, j < l.length → ReadOK l j) := by
  obtain ⟨r, hr, he⟩ := count_loop l.length (fun k i => impl_TxnOK.l0 k l (l.length : Int) i st l p) (fun j r => r = true ↔ ∀ j', j ≤ j' → j' < l.length → ReadOK l j')
    ⟨true, ⟨fun _ j' h1 h2 => by omega, fun _ => rfl⟩, ev_now ⟨0, fun k _ => by simp only [impl_TxnOK.l0]; rw [if_neg qa29]⟩⟩
    (fun j hj r hr he => by
      have hd : rd l (j : Int) = l.getD j 0 := rfl
      obtain ⟨q, eq, hq⟩ := impl_int_in (l.take j) (l.getD j 0) (by rw [List.length_take]; omega)
      rw [take_in l j hj] at hq
      obtain ⟨K, hk⟩ := ev_at eq
      have hh : ∀ k, K ≤ k → impl_TxnOK.l0 (k + 1) l (l.length : Int) (j : Int) st l p = if decide (0 ≤ l.getD j 0 ∧ l.getD j 0 ≤ 15) = true then (if q = true then some false else impl_TxnOK.l0 k l (l.length : Int) ((j + 1 : Nat) : Int) st l p) else some false := by
        intro k hK
        conv => lhs; simp only [impl_TxnOK.l0, impl_isKey.f]
        rw [if_pos qa29, if_pos qa29, if_pos qa29, hd, impl_in]
        simp only [Option.bind_some, wsucc hj qa29, Int.toNat_natCast]
        rw [if_pos (show (j : Int) ≤ (l.length : Int) by omega), hk k hK]
        simp only [Option.bind_some]
      by_cases h1 : 0 ≤ l.getD j 0 ∧ l.getD j 0 ≤ 15
      · by_cases h2 : q = true
        · exact ⟨false, ⟨fun h => qa188, fun h => absurd (hq.1 h2) (h j (Nat.le_refl _) hj).2⟩, ev_now ⟨K, fun k hK => by rw [hh k hK, if_pos (decide_eq_true h1), if_pos h2]⟩⟩
        · refine ⟨r, hr.trans ⟨fun h j' h3 h4 => ?_, fun h j' h3 h4 => h j' qa29 h4⟩, ev_step ⟨K, fun k hK => by rw [hh k hK, if_pos (decide_eq_true h1), if_neg h2]⟩ he⟩
          rcases Nat.lt_or_eq_of_le h3 with h5 | rfl
          · exact h j' h5 h4
          · exact ⟨h1, fun h => h2 (hq.2 h)⟩
      · exact ⟨false, ⟨fun h => qa188, fun h => absurd (h j (Nat.le_refl _) hj).1 h1⟩, ev_now ⟨K, fun k hK => by rw [hh k hK, if_neg (by simpa using h1)]⟩⟩) 0 qa29
  exact ⟨r, he, hr.trans ⟨fun h j hj => h j qa29 hj, fun h j _ hj => h j hj⟩⟩
theorem txns_agree (cs : List (List S43)) (now st : Int) (l : List Int) (p : List S58) (hx : ∀ x ∈ cs, x.length ≤ 1048576) (hl : l.length ≤ 1048576) (hp : p.length ≤ 1048576) :
    ∃ r, Ev (fun k => spec_TxnOK.f k cs now st l p) r ∧ Ev (fun k => impl_TxnOK.f k cs now st l p) r ∧ (r = true ↔ IsTxn cs now st l p) := by
  obtain ⟨b, e1, e2, hb⟩ := stores_agree cs now hx
  obtain ⟨K1, h1⟩ := ev_at e1
  obtain ⟨K2, h2⟩ := ev_at e2
  obtain ⟨q, f1, hq⟩ := spec_puts p hp
  obtain ⟨q', f2, hq'⟩ := impl_puts p
  have : q' = q := by rw [Bool.eq_iff_iff, hq, hq']
  subst this
  obtain ⟨K3, h3⟩ := ev_at f1
  obtain ⟨t, g1, ht⟩ := spec_reads st l p hl
  obtain ⟨t', g2, ht'⟩ := impl_reads st l p hl
  have : t' = t := by rw [Bool.eq_iff_iff, ht, ht']
  subst this
  obtain ⟨K4, h4⟩ := ev_at g1
  obtain ⟨K5, h5⟩ := ev_at g2
  refine ⟨b && (decide (0 ≤ st ∧ st ≤ now) && (q' && t')), ev_mk (K1 + K3 + K4 + 1) fun k hk => ?_, ev_mk (K2 + K5 + 1) fun k hk => ?_, ?_⟩
  · obtain ⟨k, rfl⟩ : ∃ m, k = m + 1 := ⟨k - 1, qa29⟩
    unfold spec_TxnOK.f spec_l07OK.f
    rw [h1 _ qa29]
    simp only [Option.bind_some, spec_in]
    rw [h3 _ qa29]
    simp only [Option.bind_some, spec_l07OK.j0]
    rw [h4 k qa29]
    cases b <;> cases hd : decide (0 ≤ st ∧ st ≤ now) <;> cases q' <;> cases t' <;> rfl
  · obtain ⟨k, rfl⟩ : ∃ m, k = m + 1 := ⟨k - 1, qa29⟩
    unfold impl_TxnOK.f impl_Store_isHour.f
    rw [h2 _ qa29, f2]
    simp only [Option.bind_some, impl_in, impl_TxnOK.j0]
    rw [h5 k qa29]
    cases b <;> cases hd : decide (0 ≤ st ∧ st ≤ now) <;> cases q' <;> cases t' <;> rfl
  · rw [Bool.and_eq_true, Bool.and_eq_true, Bool.and_eq_true, hb, hq, ht, decide_eq_true_iff]
    rfl
end Go.Proofs.Ytfiboooflebdpaa.Pure2
namespace Go.Proofs.Ytfiboooflebdpaa.Pure2
open Go.RowKit Go.Proofs.Ytfiboooflebdpaa.Q Go.Proofs.YtfiboooflebdpaaW.PrintWords Go.Proofs.YtfiboooflebdpaaW.PrintLast
set_option linter.unusedVariables false
set_option linter.unusedSimpArgs false
/-! marks of rows of versions -/
def mkV (m : Int) (n : Nat) : List S43 := (List.range n).map (fun (j : Nat) => ⟨m + 2 * (j : Int), m + 2 * (j : Int) + 1⟩)
theorem mkV_len (m : Int) (n : Nat) : (mkV m n).length = n := by simp [mkV]
theorem mkV_at (m : Int) (n i : Nat) (h : i < n) : (mkV m n)[i]? = some ⟨m + 2 * (i : Int), m + 2 * (i : Int) + 1⟩ := by simp [mkV, h]
theorem mark_row (l : List S43) (m : Int) (h0 : 0 ≤ m) (hm : m ≤ 4611686018427387904) (hl : l.length ≤ 1048576) : Ev (fun k => laws_markVersionS.f k l m) (m + 2 * (l.length : Int), mkV m l.length) := by
  obtain ⟨r, hr, he⟩ := state_loop l.length (fun k (s : List S43 × Int) i => laws_markVersionS.l0 k s.1 s.2 i) (fun j s => s.2 = m + 2 * (j : Int) ∧ s.1.length = l.length ∧ ∀ i, i < j → s.1[i]? = some ⟨m + 2 * (i : Int), m + 2 * (i : Int) + 1⟩) (fun _ _ r => r = (m + 2 * (l.length : Int), mkV m l.length))
    (fun s hi => ⟨(s.2, s.1), by
      obtain ⟨h1, h2, h3⟩ := hi
      refine Prod.ext h1 (List.ext_getElem? fun i => ?_)
      by_cases h : i < l.length
      · rw [h3 i h, mkV_at m _ i h]
      · rw [List.getElem?_eq_none (show s.1.length ≤ i by omega), List.getElem?_eq_none (by rw [mkV_len]; omega)], ev_now ⟨0, fun k _ => by
        have h2 := hi.2.1
        simp only [laws_markVersionS.l0]; rw [if_neg qa29]⟩⟩)
    (fun j s hj hi => by
      obtain ⟨h1, h2, h3⟩ := hi
      have hw : wrap64 (s.2 + 1) = s.2 + 1 := by unfold wrap64; omega
      have hw2 : wrap64 ((wrap64 (s.2 + 1)) + 1) = s.2 + 2 := by rw [hw]; unfold wrap64; omega
      have hg : ((s.1.set j (⟨s.2, (s.1.getD j z43).f1⟩ : S43)).getD j z43) = ⟨s.2, (s.1.getD j z43).f1⟩ := by
        rw [List.getD_eq_getElem?_getD, List.getElem?_set_self qa29]; rfl
      refine .inr ⟨((s.1.set j (⟨s.2, (s.1.getD j z43).f1⟩ : S43)).set j (⟨s.2, s.2 + 1⟩ : S43), s.2 + 2), ⟨by show s.2 + 2 = _; omega, by simp [h2], fun i hij => ?_⟩, fun r h => h, 0, fun k _ => ?_⟩
      · by_cases he : i = j
        · subst he
          rw [List.getElem?_set_self qa192, h1]
        · rw [List.getElem?_set_ne qa29, List.getElem?_set_ne qa29]
          exact h3 i qa29
      · simp only [laws_markVersionS.l0]
        rw [if_pos qa29, if_pos qa29]
        simp only [Option.bind_some]
        rw [hw2, wsucc hj qa29, hw]
        show laws_markVersionS.l0 k ((s.1.set j (⟨s.2, (s.1.getD j z43).f1⟩ : S43)).set j (⟨((s.1.set j (⟨s.2, (s.1.getD j z43).f1⟩ : S43)).getD j z43).f0, s.2 + 1⟩ : S43)) (s.2 + 2) _ = _
        rw [hg]) 0 (l, m) qa29 ⟨by show m = _; omega, rfl, fun i hi => by omega⟩
  subst hr
  exact ev_same ⟨0, fun k _ => by unfold laws_markVersionS.f; rfl⟩ he
def posV (m : Int) (ls : List (List S43)) (i : Nat) : Int := m + 2 * ((((ls.take i).map List.length).sum : Nat) : Int)
theorem posV_zero (m : Int) (ls : List (List S43)) : posV m ls 0 = m := by simp [posV]
theorem posV_succ (m : Int) (ls : List (List S43)) (i : Nat) (h : i < ls.length) : posV m ls (i + 1) = posV m ls i + 2 * (((ls.getD i []).length : Nat) : Int) := by
  unfold posV
  rw [List.take_add_one, List.getElem?_eq_getElem h, List.getD_eq_getElem?_getD, List.getElem?_eq_getElem h]
  simp only [Option.toList, List.map_append, List.map_cons, List.map_nil, List.sum_append, List.sum_cons, List.sum_nil, Option.getD_some]
  omega
theorem posV_bound (m : Int) (ls : List (List S43)) (hx : ∀ x ∈ ls, x.length ≤ 1048576) : ∀ i, i ≤ ls.length → m ≤ posV m ls i ∧ posV m ls i ≤ m + 2097152 * (i : Int) := by
  intro i
  induction i with
  | zero => intro _; rw [posV_zero]; omega
  | succ i ih =>
    intro h
    have hm : (ls.getD i []) ∈ ls := by rw [List.getD_eq_getElem?_getD, List.getElem?_eq_getElem qa29]; exact List.getElem_mem qa29
    have := ih qa29
    have := hx _ hm
    rw [posV_succ m ls i qa29]
    omega
def mkS (m : Int) (ls : List (List S43)) : List (List S43) := (List.range ls.length).map (fun (i : Nat) => mkV (posV m ls i) (ls.getD i []).length)
theorem mkS_len (m : Int) (ls : List (List S43)) : (mkS m ls).length = ls.length := by simp [mkS]
theorem mkS_at (m : Int) (ls : List (List S43)) (i : Nat) (h : i < ls.length) : (mkS m ls)[i]? = some (mkV (posV m ls i) (ls.getD i []).length) := by simp [mkS, h]
theorem mark_rows (ls : List (List S43)) (m : Int) (h0 : 0 ≤ m) (hm : m ≤ 1099511627776) (hl : ls.length ≤ 1048576) (hx : ∀ x ∈ ls, x.length ≤ 1048576) : Ev (fun k => laws_markVersionSS.f k ls m) (posV m ls ls.length, mkS m ls) := by
  obtain ⟨r, hr, he⟩ := state_loop ls.length (fun k (s : List (List S43) × Int) i => laws_markVersionSS.l0 k s.1 s.2 i) (fun j s => s.2 = posV m ls j ∧ s.1.length = ls.length ∧ (∀ i, i < j → s.1[i]? = (mkS m ls)[i]?) ∧ ∀ i, j ≤ i → s.1[i]? = ls[i]?) (fun _ _ r => r = (posV m ls ls.length, mkS m ls))
    (fun s hi => ⟨(s.2, s.1), by
      obtain ⟨h1, h2, h3, _⟩ := hi
      refine Prod.ext h1 (List.ext_getElem? fun i => ?_)
      by_cases h : i < ls.length
      · exact h3 i h
      · rw [List.getElem?_eq_none (show s.1.length ≤ i by omega), List.getElem?_eq_none (by rw [mkS_len]; omega)], ev_now ⟨0, fun k _ => by
        have h2 := hi.2.1
        simp only [laws_markVersionSS.l0]; rw [if_neg qa29]⟩⟩)
    (fun j s hj hi => by
      obtain ⟨h1, h2, h3, h4⟩ := hi
      have hmem : (ls.getD j []) ∈ ls := by rw [List.getD_eq_getElem?_getD, List.getElem?_eq_getElem hj]; exact List.getElem_mem hj
      have hb := posV_bound m ls hx j qa29
      have hrow : s.1.getD j [] = ls.getD j [] := by rw [List.getD_eq_getElem?_getD, List.getD_eq_getElem?_getD, h4 j (Nat.le_refl _)]
      obtain ⟨K, hk⟩ := ev_at (mark_row (ls.getD j []) (posV m ls j) qa29 qa29 (hx _ hmem))
      refine .inr ⟨(s.1.set j (mkV (posV m ls j) (ls.getD j []).length), posV m ls (j + 1)), ⟨rfl, by simp [h2], fun i hij => ?_, fun i hij => ?_⟩, fun r h => h, K, fun k hK => ?_⟩
      · by_cases he : i = j
        · subst he
          rw [List.getElem?_set_self qa29, mkS_at m ls i hj]
        · rw [List.getElem?_set_ne qa29]
          exact h3 i qa29
      · rw [List.getElem?_set_ne qa29]
        exact h4 i qa29
      · have e' : laws_markVersionS.f k (s.1.getD j []) s.2 = some (posV m ls j + 2 * ((ls.getD j []).length : Int), mkV (posV m ls j) (ls.getD j []).length) := by rw [hrow, h1]; exact hk k hK
        simp only [laws_markVersionSS.l0]
        rw [if_pos qa29, if_pos qa29]
        show (laws_markVersionS.f k (s.1.getD j []) s.2).bind _ = _
        rw [e']
        simp only [Option.bind_some, Int.toNat_natCast]
        rw [wsucc hj qa29, posV_succ m ls j hj]) 0 (ls, m) qa29 ⟨(posV_zero m ls).symm, rfl, fun i hi => by omega, fun i _ => rfl⟩
  subst hr
  exact ev_same ⟨0, fun k _ => by unfold laws_markVersionSS.f; rfl⟩ he
theorem held_row (n : Nat) (m : Int) (h0 : 0 ≤ m) (hm : m ≤ 4611686018427387904) (hl : n ≤ 1048576) : Ev (fun k => laws_heldVersionS.f k (mkV m n) m) (m + 2 * (n : Int)) := by
  have hlen := mkV_len m n
  obtain ⟨r, hr, he⟩ := state_loop n (fun k (s : Int) i => laws_heldVersionS.l0 k (mkV m n) s i) (fun j s => s = m + 2 * (j : Int)) (fun _ _ r => r = m + 2 * (n : Int))
    (fun s hi => ⟨s, hi, ev_now ⟨0, fun k _ => by simp only [laws_heldVersionS.l0]; rw [if_neg qa29]⟩⟩)
    (fun j s hj hi => by
      have hw : wrap64 (s + 1) = s + 1 := by unfold wrap64; omega
      have hw2 : wrap64 ((wrap64 (s + 1)) + 1) = s + 2 := by rw [hw]; unfold wrap64; omega
      have hg : rd_T43 (mkV m n) (j : Int) = ⟨m + 2 * (j : Int), m + 2 * (j : Int) + 1⟩ := by
        show (mkV m n).getD j z43 = _
        rw [List.getD_eq_getElem?_getD, mkV_at m n j hj]; rfl
      refine .inr ⟨s + 2, by show s + 2 = _; omega, fun r h => h, 0, fun k _ => ?_⟩
      simp only [laws_heldVersionS.l0]
      rw [if_pos qa29, if_pos qa29, hg, if_pos hi.symm, hw, if_pos (by show m + 2 * (j : Int) + 1 = _; omega), wsucc hj qa29]
      have : wrap64 (s + 1 + 1) = s + 2 := by unfold wrap64; omega
      rw [this]) 0 m qa29 qa29
  subst hr
  exact ev_same ⟨0, fun k _ => by unfold laws_heldVersionS.f; rfl⟩ he
theorem held_rows (ls : List (List S43)) (m : Int) (h0 : 0 ≤ m) (hm : m ≤ 1099511627776) (hl : ls.length ≤ 1048576) (hx : ∀ x ∈ ls, x.length ≤ 1048576) : Ev (fun k => laws_heldVersionSS.f k (mkS m ls) m) (posV m ls ls.length) := by
  have hlen := mkS_len m ls
  obtain ⟨r, hr, he⟩ := state_loop ls.length (fun k (s : Int) i => laws_heldVersionSS.l0 k (mkS m ls) s i) (fun j s => s = posV m ls j) (fun _ _ r => r = posV m ls ls.length)
    (fun s hi => ⟨s, hi, ev_now ⟨0, fun k _ => by simp only [laws_heldVersionSS.l0]; rw [if_neg qa29]⟩⟩)
    (fun j s hj hi => by
      have hmem : (ls.getD j []) ∈ ls := by rw [List.getD_eq_getElem?_getD, List.getElem?_eq_getElem hj]; exact List.getElem_mem hj
      have hb := posV_bound m ls hx j qa29
      have hg : (mkS m ls).getD j [] = mkV (posV m ls j) (ls.getD j []).length := by rw [List.getD_eq_getElem?_getD, mkS_at m ls j hj]; rfl
      obtain ⟨K, hk⟩ := ev_at (held_row (ls.getD j []).length (posV m ls j) qa29 qa29 (hx _ hmem))
      refine .inr ⟨posV m ls (j + 1), rfl, fun r h => h, K, fun k hK => ?_⟩
      have e' : laws_heldVersionS.f k ((mkS m ls).getD j []) s = some (posV m ls (j + 1)) := by rw [hg, hi, posV_succ m ls j hj]; exact hk k hK
      have hb2 := posV_bound m ls hx (j + 1) qa29
      simp only [laws_heldVersionSS.l0]
      rw [if_pos qa29, if_pos qa29]
      show (laws_heldVersionS.f k ((mkS m ls).getD j []) s).bind _ = _
      rw [e']
      simp only [Option.bind_some]
      rw [if_neg qa29, wsucc hj qa29]) 0 m qa29 (posV_zero m ls).symm
  subst hr
  exact ev_same ⟨0, fun k _ => by unfold laws_heldVersionSS.f; rfl⟩ he
theorem mark_store (ls : List (List S43)) (n : Int) (hl : ls.length ≤ 1048576) (hx : ∀ x ∈ ls, x.length ≤ 1048576) : ∃ m l', Ev (fun k => laws_markStore.f k ls n 1) (m, l') ∧ Ev (fun k => laws_heldStore.f k l' n 1) m ∧ 0 ≤ m := by
  have hb := posV_bound 1 ls hx ls.length (Nat.le_refl _)
  refine ⟨_, _, mark_rows ls 1 qa29 qa29 hl hx, ?_, qa29⟩
  obtain ⟨K, hk⟩ := ev_at (held_rows ls 1 qa29 qa29 hl hx)
  exact ev_mk K fun k hK => by unfold laws_heldStore.f; rw [hk k hK]; simp only [Option.bind_some]; rw [if_neg qa29]
theorem mark_store_arg (ls : List (List S43)) (n : Int) (hl : ls.length ≤ 1048576) (hx : ∀ x ∈ ls, x.length ≤ 1048576) : ∃ m, Ev (fun k => laws_markStore.f k ls n 1) (m, mkS 1 ls) ∧ 0 ≤ m ∧ m ≤ 4398046511104 := by
  have hb := posV_bound 1 ls hx ls.length (Nat.le_refl _)
  exact ⟨_, mark_rows ls 1 qa29 qa29 hl hx, qa29, qa29⟩
end Go.Proofs.Ytfiboooflebdpaa.Pure2
namespace Go.Proofs.Ytfiboooflebdpaa.Pure2
open Go.RowKit Go.Proofs.Ytfiboooflebdpaa.Q Go.Proofs.YtfiboooflebdpaaW.PrintWords Go.Proofs.YtfiboooflebdpaaW.PrintLast
set_option linter.unusedVariables false
set_option linter.unusedSimpArgs false
/-! a store's copy -/
theorem clone_row (c : List S43) (h : c.length ≤ 1048576) : impl_Version.f c = some c := by
  unfold impl_Version.f
  rw [if_pos qa29]
theorem row_mem (cs : List (List S43)) (j : Nat) (h : j < cs.length) : cs.getD j [] ∈ cs := by rw [List.getD_eq_getElem?_getD, List.getElem?_eq_getElem h]; exact List.getElem_mem h
theorem take_next (cs : List (List S43)) (j : Nat) (h : j < cs.length) : cs.take (j + 1) = cs.take j ++ [cs.getD j []] := by
  rw [List.take_add_one, List.getElem?_eq_getElem h, List.getD_eq_getElem?_getD, List.getElem?_eq_getElem h]; rfl
theorem impl_copy (cs : List (List S43)) (now : Int) (hl : cs.length ≤ 1048576) (hx : ∀ x ∈ cs, x.length ≤ 1048576) : Ev (fun k => impl_copyStore.f k cs now) (cs, now) := by
  obtain ⟨r, hr, he⟩ := state_loop cs.length (fun k (s : List (List S43)) i => impl_copyStore.l0 k cs (cs.length : Int) i s now) (fun j s => s = cs.take j) (fun _ _ r => r = (cs, now))
    (fun s hi => ⟨(cs, now), rfl, ev_now ⟨0, fun k _ => by simp only [impl_copyStore.l0]; rw [if_neg qa29, hi, List.take_length]⟩⟩)
    (fun j s hj hi => by
      have hn : s.length = j := by rw [hi, List.length_take]; omega
      refine .inr ⟨cs.take (j + 1), rfl, fun r h => h, 0, fun k _ => ?_⟩
      have e : impl_Version.f (rd_L4 cs (j : Int)) = some (cs.getD j []) := clone_row _ (hx _ (row_mem cs j hj))
      simp only [impl_copyStore.l0]
      rw [if_pos qa29, if_pos qa29, if_pos qa29, e]
      simp only [Option.bind_some]
      rw [if_pos qa29, wsucc hj qa29, take_next cs j hj, hi]) 0 [] qa29 rfl
  subst hr
  exact ev_same ⟨0, fun k _ => by unfold impl_copyStore.f; rfl⟩ he
theorem spec_own (cs : List (List S43)) (now : Int) (hl : cs.length ≤ 1048576) (hx : ∀ x ∈ cs, x.length ≤ 1048576) : Ev (fun k => spec_l06Own.f k cs now) (cs, now) := by
  obtain ⟨r, hr, he⟩ := state_loop cs.length (fun k (s : List (List S43)) i => spec_l06Own.l0 k i cs now s now) (fun j s => s = cs.take j) (fun _ _ r => r = (cs, now))
    (fun s hi => ⟨(cs, now), rfl, ev_now ⟨0, fun k _ => by simp only [spec_l06Own.l0]; rw [if_neg qa29, hi, List.take_length]⟩⟩)
    (fun j s hj hi => by
      have hn : s.length = j := by rw [hi, List.length_take]; omega
      refine .inr ⟨cs.take (j + 1), rfl, fun r h => h, 0, fun k _ => ?_⟩
      have hd : rd_L4 cs (j : Int) = cs.getD j [] := rfl
      have hc := hx _ (row_mem cs j hj)
      simp only [spec_l06Own.l0, Option.bind_some]
      rw [if_pos qa29, if_pos qa29, hd, List.length_nil, if_pos qa29, if_pos qa29, wsucc hj qa29, take_next cs j hj, hi, List.nil_append]) 0 [] qa29 rfl
  subst hr
  exact ev_same ⟨0, fun k _ => by unfold spec_l06Own.f; rfl⟩ he
end Go.Proofs.Ytfiboooflebdpaa.Pure2
namespace Go.Proofs.Ytfiboooflebdpaa.Q
open Go.RowKit Go.Proofs.YtfiboooflebdpaaW.PrintWords Go.Proofs.YtfiboooflebdpaaW.PrintLast Go.Proofs.YtfiboooflebdpaaW.PrintMore
attribute [local go_sem] max2_int min2_int max_two min_two max_three min_three max_four min_four
set_option linter.unusedVariables false
set_option linter.unusedSimpArgs false

def laws_heldIntS.l0 : Nat → List Int → Int → Int → Option (Int)
 | 0, _, _, _ => none
 | k + 1, x0, x1, x5 => if x5 < (x0.length : Int) then (if 0 ≤ x5 then (if (rd x0 x5) = x1 then (laws_heldIntS.l0 k x0 (wrap64 (x1 + 1)) (wrap64 (x5 + 1))) else (some (-1))) else (none)) else (some x1)
def laws_heldIntS.f (k : Nat) (l0 : List Int) (a1 : Int) : Option (Int) := laws_heldIntS.l0 k l0 a1 0
set_option maxHeartbeats 8000000 in
set_option maxRecDepth 100000 in
theorem laws_heldIntS.calls (k : Nat) (A0 : Option Addr) (c0 : Nat) (l0 : List Int) (a1 : Int) (r : Int) (w : World) (hr0 : Kd.C (Kd.int .i64) w A0 l0.length l0) (hc0 : l0.length ≤ c0) (h : laws_heldIntS.f k l0 a1 = some r) :
  Calls Try.prog 94 #[.slice A0 l0.length c0, .int .i64 a1] w fun e w' => e = .returned (.int .i64 r) ∧ Drawn0 w w' := by
 have HR0 := qO hr0; have HC0 := qO hc0; clear hr0 hc0; have H : (laws_heldIntS.l0 k l0 a1 0) = some r := h; clear h; have H' := qO H; clear H
 go_enter Try.func94, Try.ntmps94
 go_wp2
 go_loopg [1, 5] k (fun kq v1 v5 w' => ∃ (x1_1 : Int) (x5_1 : Int), v1 = .int .i64 x1_1 ∧ v5 = .int .i64 x5_1 ∧ Aside0 (laws_heldIntS.l0 kq l0 x1_1 x5_1 = some r) ∧ Aside0 (kq ≤ k) ∧ Drawn0 w w')
 case atStart => exact ⟨(a1), (0), qa12, qa12, H', ⟨Nat.le_refl _⟩, qa22⟩
 case round =>
  clear H'
  try clear p2
  obtain ⟨x1_1, x5_1, rfl, rfl, HA, HK1, ⟨m1, rfl⟩⟩ := hrel
  cases gk with
  | zero => exact absurd HA.out (by simp [laws_heldIntS.l0])
  | succ k1 =>
   have H := HA.out; clear HA; simp only [laws_heldIntS.l0] at H
   by_cases c3 : x5_1 < (l0.length : Int)
   ·rw [if_pos c3] at H
    have c3b0 : decide (x5_1 < (l0.length : Int)) = true := decide_eq_true c3; clear c3
    by_cases c4 : 0 ≤ x5_1
    ·rw [if_pos c4] at H
     have c4b0 : decide (0 ≤ x5_1) = true := decide_eq_true c4; clear c4
     by_cases c5 : (rd l0 x5_1) = x1_1
     ·rw [if_pos c5] at H
      have c5b0 : ((rd l0 x5_1) == x1_1) = true := beq_iff_eq.mpr c5; have c5b1 : ((rd l0 x5_1) != x1_1) = false := bne_eq_false_iff_eq.mpr c5; clear c5; have H' := qO H; clear H; have p101 : 0 ≤ (x5_1 : Int) := qT qa1; have q101 : x5_1 < (l0.length : Int) := qT qa1; obtain ⟨ad101, e101, hx101_0⟩ := Kd.at_int HR0.out x5_1 p101 q101
      cases e101
      replace p101 := eq_true p101; replace q101 := eq_true q101; go_wp2
      go_roundg k1
      case measure => have := HK1.out; omega
      case rel => exact ⟨(wrap64 (x1_1 + 1)), (wrap64 (x5_1 + 1)), qa12, qa12, H', ⟨qa103⟩, qa22⟩
     ·rw [if_neg c5] at H
      have c5b0 : ((rd l0 x5_1) == x1_1) = false := beq_eq_false_iff_ne.mpr c5; have c5b1 : ((rd l0 x5_1) != x1_1) = true := bne_iff_ne.mpr c5; obtain rfl := Option.some.inj H; have p101 : 0 ≤ (x5_1 : Int) := qT qa1; have q101 : x5_1 < (l0.length : Int) := qT qa1; obtain ⟨ad101, e101, hx101_0⟩ := Kd.at_int HR0.out x5_1 p101 q101
      cases e101
      replace p101 := eq_true p101; replace q101 := eq_true q101; go_wp2
      go_ret
      exact ⟨qa12, qa22⟩
    ·rw [if_neg c4] at H
     exact absurd H qa117
   ·rw [if_neg c3] at H
    have c3b0 : decide (x5_1 < (l0.length : Int)) = false := decide_eq_false c3; clear c3; obtain rfl := Option.some.inj H; go_wp2
    go_ret
    exact ⟨qa12, qa22⟩


def laws_heldPutS.l0 : Nat → List (S58) → Int → Int → Option (Int)
 | 0, _, _, _ => none
 | k + 1, x0, x1, x5 => if x5 < (x0.length : Int) then (if 0 ≤ x5 then (if ((rd_T58 x0 x5).f0) = x1 then (if ((rd_T58 x0 x5).f1) = (wrap64 (x1 + 1)) then (laws_heldPutS.l0 k x0 (wrap64 ((wrap64 (x1 + 1)) + 1)) (wrap64 (x5 + 1))) else (some (-1))) else (some (-1))) else (none)) else (some x1)
def laws_heldPutS.f (k : Nat) (l0 : List (S58)) (a1 : Int) : Option (Int) := laws_heldPutS.l0 k l0 a1 0
set_option maxHeartbeats 8000000 in
set_option maxRecDepth 100000 in
theorem laws_heldPutS.calls (k : Nat) (A0 : Option Addr) (c0 : Nat) (l0 : List (S58)) (a1 : Int) (r : Int) (w : World) (hr0 : Kd.C k58 w A0 l0.length l0) (hc0 : l0.length ≤ c0) (h : laws_heldPutS.f k l0 a1 = some r) :
  Calls Try.prog 95 #[.slice A0 l0.length c0, .int .i64 a1] w fun e w' => e = .returned (.int .i64 r) ∧ Drawn0 w w' := by
 have HR0 := qO hr0; have HC0 := qO hc0; clear hr0 hc0; have H : (laws_heldPutS.l0 k l0 a1 0) = some r := h; clear h; have H' := qO H; clear H
 go_enter Try.func95, Try.ntmps95
 go_wp2
 go_loopg [1, 5] k (fun kq v1 v5 w' => ∃ (x1_1 : Int) (x5_1 : Int), v1 = .int .i64 x1_1 ∧ v5 = .int .i64 x5_1 ∧ Aside0 (laws_heldPutS.l0 kq l0 x1_1 x5_1 = some r) ∧ Aside0 (kq ≤ k) ∧ Drawn0 w w')
 case atStart => exact ⟨(a1), (0), qa12, qa12, H', ⟨Nat.le_refl _⟩, qa22⟩
 case round =>
  clear H'
  try clear p2
  obtain ⟨x1_1, x5_1, rfl, rfl, HA, HK1, ⟨m1, rfl⟩⟩ := hrel
  cases gk with
  | zero => exact absurd HA.out (by simp [laws_heldPutS.l0])
  | succ k1 =>
   have H := HA.out; clear HA; simp only [laws_heldPutS.l0] at H
   by_cases c3 : x5_1 < (l0.length : Int)
   ·rw [if_pos c3] at H
    have c3b0 : decide (x5_1 < (l0.length : Int)) = true := decide_eq_true c3; clear c3
    by_cases c4 : 0 ≤ x5_1
    ·rw [if_pos c4] at H
     have c4b0 : decide (0 ≤ x5_1) = true := decide_eq_true c4; clear c4
     by_cases c5 : ((rd_T58 l0 x5_1).f0) = x1_1
     ·rw [if_pos c5] at H
      have c5b0 : (((rd_T58 l0 x5_1).f0) == x1_1) = true := beq_iff_eq.mpr c5; have c5b1 : (((rd_T58 l0 x5_1).f0) != x1_1) = false := bne_eq_false_iff_eq.mpr c5; clear c5
      by_cases c6 : ((rd_T58 l0 x5_1).f1) = (wrap64 (x1_1 + 1))
      ·rw [if_pos c6] at H
       have c6b0 : (((rd_T58 l0 x5_1).f1) == (wrap64 (x1_1 + 1))) = true := beq_iff_eq.mpr c6; have c6b1 : (((rd_T58 l0 x5_1).f1) != (wrap64 (x1_1 + 1))) = false := bne_eq_false_iff_eq.mpr c6; clear c6; have H' := qO H; clear H; have p101 : 0 ≤ (x5_1 : Int) := qT qa1; have q101 : x5_1 < (l0.length : Int) := qT qa1; obtain ⟨ad101, e101, hx101_0, hx101_1⟩ := at_T58 HR0.out x5_1 p101 q101
       cases e101
       replace p101 := eq_true p101; replace q101 := eq_true q101; have p102 : 0 ≤ (x5_1 : Int) := qT qa1; have q102 : x5_1 < (l0.length : Int) := qT qa1; obtain ⟨ad102, e102, hx102_0, hx102_1⟩ := at_T58 HR0.out x5_1 p102 q102; obtain rfl : ad101 = ad102 := (by injection e102); replace p102 := eq_true p102; replace q102 := eq_true q102; go_wp2
       go_roundg k1
       case measure => have := HK1.out; omega
       case rel => exact ⟨(wrap64 ((wrap64 (x1_1 + 1)) + 1)), (wrap64 (x5_1 + 1)), qa12, qa12, H', ⟨qa103⟩, qa22⟩
      ·rw [if_neg c6] at H
       have c6b0 : (((rd_T58 l0 x5_1).f1) == (wrap64 (x1_1 + 1))) = false := beq_eq_false_iff_ne.mpr c6; have c6b1 : (((rd_T58 l0 x5_1).f1) != (wrap64 (x1_1 + 1))) = true := bne_iff_ne.mpr c6; obtain rfl := Option.some.inj H; have p101 : 0 ≤ (x5_1 : Int) := qT qa1; have q101 : x5_1 < (l0.length : Int) := qT qa1; obtain ⟨ad101, e101, hx101_0, hx101_1⟩ := at_T58 HR0.out x5_1 p101 q101
       cases e101
       replace p101 := eq_true p101; replace q101 := eq_true q101; have p102 : 0 ≤ (x5_1 : Int) := qT qa1; have q102 : x5_1 < (l0.length : Int) := qT qa1; obtain ⟨ad102, e102, hx102_0, hx102_1⟩ := at_T58 HR0.out x5_1 p102 q102; obtain rfl : ad101 = ad102 := (by injection e102); replace p102 := eq_true p102; replace q102 := eq_true q102; go_wp2
       go_ret
       exact ⟨qa12, qa22⟩
     ·rw [if_neg c5] at H
      have c5b0 : (((rd_T58 l0 x5_1).f0) == x1_1) = false := beq_eq_false_iff_ne.mpr c5; have c5b1 : (((rd_T58 l0 x5_1).f0) != x1_1) = true := bne_iff_ne.mpr c5; obtain rfl := Option.some.inj H; have p101 : 0 ≤ (x5_1 : Int) := qT qa1; have q101 : x5_1 < (l0.length : Int) := qT qa1; obtain ⟨ad101, e101, hx101_0, hx101_1⟩ := at_T58 HR0.out x5_1 p101 q101
      cases e101
      replace p101 := eq_true p101; replace q101 := eq_true q101; go_wp2
      go_ret
      exact ⟨qa12, qa22⟩
    ·rw [if_neg c4] at H
     exact absurd H qa117
   ·rw [if_neg c3] at H
    have c3b0 : decide (x5_1 < (l0.length : Int)) = false := decide_eq_false c3; clear c3; obtain rfl := Option.some.inj H; go_wp2
    go_ret
    exact ⟨qa12, qa22⟩


def laws_heldTxn.f (k : Nat) (a0_0 : Int) (l0_1 : List Int) (l0_2 : List (S58)) (a1 : Int) : Option (Int) := (laws_heldIntS.f k l0_1 a1).bind fun t102 => (if t102 < 0 then (some (-1)) else ((laws_heldPutS.f k l0_2 t102).bind fun t103 => (if t103 < 0 then (some (-1)) else (some t103))))
set_option maxHeartbeats 8000000 in
set_option maxRecDepth 100000 in
theorem laws_heldTxn.calls (k : Nat) (a0_0 : Int) (A0_1 : Option Addr) (c0_1 : Nat) (l0_1 : List Int) (A0_2 : Option Addr) (c0_2 : Nat) (l0_2 : List (S58)) (a1 : Int) (r : Int) (w : World) (hr0_1 : Kd.C (Kd.int .i64) w A0_1 l0_1.length l0_1) (hc0_1 : l0_1.length ≤ c0_1) (hr0_2 : Kd.C k58 w A0_2 l0_2.length l0_2) (hc0_2 : l0_2.length ≤ c0_2) (h : laws_heldTxn.f k a0_0 l0_1 l0_2 a1 = some r) :
  Calls Try.prog 49 #[.agg #[.int .i64 a0_0, .slice A0_1 l0_1.length c0_1, .slice A0_2 l0_2.length c0_2], .int .i64 a1] w fun e w' => e = .returned (.int .i64 r) ∧ Below w.heap.size w w' := by
 have hu65 := Try.underlying65; have HR0_1 := qO hr0_1; have HC0_1 := qO hc0_1; clear hr0_1 hc0_1; have HR0_2 := qO hr0_2; have HC0_2 := qO hc0_2; clear hr0_2 hc0_2; have HB := qO (Below.refl w.heap.size w); have H : ((laws_heldIntS.f k l0_1 a1).bind fun t102 => (if t102 < 0 then (some (-1)) else ((laws_heldPutS.f k l0_2 t102).bind fun t103 => (if t103 < 0 then (some (-1)) else (some t103))))) = some r := h; clear h; replace H := Option.bind_eq_some_iff.mp H; obtain ⟨t102, A30, H⟩ := H; replace H : (if t102 < 0 then (some (-1)) else ((laws_heldPutS.f k l0_2 t102).bind fun t103 => (if t103 < 0 then (some (-1)) else (some t103)))) = some r := H; have A3 := qO A30; clear A30
 by_cases c4 : t102 < 0
 ·rw [if_pos c4] at H
  have c4b0 : decide (t102 < 0) = true := decide_eq_true c4; clear c4; obtain rfl := Option.some.inj H
  go_enter Try.func49, Try.ntmps49
  go_wp2_with (first | ((with_reducible refine gate_dst (N := 2) rfl ?_); refine qX 2 #[.int .i64 a0_0, .slice A0_1 l0_1.length c0_1, .slice A0_2 l0_2.length c0_2] 65 ?_; intro gb101 hg w5 hbox hb; have hx_ := qHX HB hb qa0; have BK101 := qO (hbox); have GW101 := qO ((qa9 : w.heap.size ≤ gb101)); have GE101 := GW101; replace HB := qO (below_step (below_step HB.out hx_) hb); clear hx_ hb hbox hg; obtain ⟨hcz6_0, hcz6_1, hcz6_2, hfz6_0, hfz6_1, hfz6_2⟩ := qb3 BK101.out) | ((with_reducible refine gate_callee (f := 94) rfl ?_); refine goesL_ (some 8) rfl rfl Try.func94 qa5 rfl #[.slice A0_1 l0_1.length c0_1, .int .i64 a1] rfl qa3 ?_; (with_reducible refine (laws_heldIntS.calls k _ _ l0_1 a1 t102 _ ?side1 ?side2 A3.out).mono ?_); (case side1 => exact qa54); (case side2 => exact HC0_1.out); rintro e w' ⟨rfl, ⟨nd, rfl⟩⟩; refine ⟨_, rfl, ?_⟩))
  go_ret
  exact ⟨qa7, qa14⟩
 ·rw [if_neg c4] at H
  have c4b0 : decide (t102 < 0) = false := decide_eq_false c4; clear c4; replace H := Option.bind_eq_some_iff.mp H; obtain ⟨t103, A70, H⟩ := H; replace H : (if t103 < 0 then (some (-1)) else (some t103)) = some r := H; have A7 := qO A70; clear A70
  by_cases c8 : t103 < 0
  ·rw [if_pos c8] at H
   have c8b0 : decide (t103 < 0) = true := decide_eq_true c8; clear c8; obtain rfl := Option.some.inj H
   go_enter Try.func49, Try.ntmps49
   go_wp2_with (first | ((with_reducible refine gate_dst (N := 2) rfl ?_); refine qX 2 #[.int .i64 a0_0, .slice A0_1 l0_1.length c0_1, .slice A0_2 l0_2.length c0_2] 65 ?_; intro gb101 hg w9 hbox hb; have hx_ := qHX HB hb qa0; have BK101 := qO (hbox); have GW101 := qO ((qa9 : w.heap.size ≤ gb101)); have GE101 := GW101; replace HB := qO (below_step (below_step HB.out hx_) hb); clear hx_ hb hbox hg; obtain ⟨hcz10_0, hcz10_1, hcz10_2, hfz10_0, hfz10_1, hfz10_2⟩ := qb3 BK101.out) | ((with_reducible refine gate_callee (f := 94) rfl ?_); refine goesL_ (some 8) rfl rfl Try.func94 qa5 rfl #[.slice A0_1 l0_1.length c0_1, .int .i64 a1] rfl qa3 ?_; (with_reducible refine (laws_heldIntS.calls k _ _ l0_1 a1 t102 _ ?side1 ?side2 A3.out).mono ?_); (case side1 => exact qa54); (case side2 => exact HC0_1.out); rintro e w' ⟨rfl, ⟨nd, rfl⟩⟩; refine ⟨_, rfl, ?_⟩) | ((with_reducible refine gate_callee (f := 95) rfl ?_); refine goesL_ (some 14) rfl rfl Try.func95 qa5 rfl #[.slice A0_2 l0_2.length c0_2, .int .i64 t102] rfl qa3 ?_; (with_reducible refine (laws_heldPutS.calls k _ _ l0_2 t102 t103 _ ?side1 ?side2 A7.out).mono ?_); (case side1 => exact qa61); (case side2 => exact HC0_2.out); rintro e w' ⟨rfl, ⟨nd, rfl⟩⟩; refine ⟨_, rfl, ?_⟩))
   go_ret
   exact ⟨qa7, qa14⟩
  ·rw [if_neg c8] at H
   have c8b0 : decide (t103 < 0) = false := decide_eq_false c8; clear c8; obtain rfl := Option.some.inj H
   go_enter Try.func49, Try.ntmps49
   go_wp2_with (first | ((with_reducible refine gate_dst (N := 2) rfl ?_); refine qX 2 #[.int .i64 a0_0, .slice A0_1 l0_1.length c0_1, .slice A0_2 l0_2.length c0_2] 65 ?_; intro gb101 hg w11 hbox hb; have hx_ := qHX HB hb qa0; have BK101 := qO (hbox); have GW101 := qO ((qa9 : w.heap.size ≤ gb101)); have GE101 := GW101; replace HB := qO (below_step (below_step HB.out hx_) hb); clear hx_ hb hbox hg; obtain ⟨hcz12_0, hcz12_1, hcz12_2, hfz12_0, hfz12_1, hfz12_2⟩ := qb3 BK101.out) | ((with_reducible refine gate_callee (f := 94) rfl ?_); refine goesL_ (some 8) rfl rfl Try.func94 qa5 rfl #[.slice A0_1 l0_1.length c0_1, .int .i64 a1] rfl qa3 ?_; (with_reducible refine (laws_heldIntS.calls k _ _ l0_1 a1 t102 _ ?side1 ?side2 A3.out).mono ?_); (case side1 => exact qa54); (case side2 => exact HC0_1.out); rintro e w' ⟨rfl, ⟨nd, rfl⟩⟩; refine ⟨_, rfl, ?_⟩) | ((with_reducible refine gate_callee (f := 95) rfl ?_); refine goesL_ (some 14) rfl rfl Try.func95 qa5 rfl #[.slice A0_2 l0_2.length c0_2, .int .i64 t102] rfl qa3 ?_; (with_reducible refine (laws_heldPutS.calls k _ _ l0_2 t102 t103 _ ?side1 ?side2 A7.out).mono ?_); (case side1 => exact qa61); (case side2 => exact HC0_2.out); rintro e w' ⟨rfl, ⟨nd, rfl⟩⟩; refine ⟨_, rfl, ?_⟩))
   go_ret
   exact ⟨qa7, qa14⟩

end Go.Proofs.Ytfiboooflebdpaa.Q
namespace Go.Proofs.Ytfiboooflebdpaa.Pure2
open Go.RowKit Go.Proofs.Ytfiboooflebdpaa.Q Go.Proofs.YtfiboooflebdpaaW.PrintWords Go.Proofs.YtfiboooflebdpaaW.PrintLast
set_option linter.unusedVariables false
set_option linter.unusedSimpArgs false
/-! marks of whole numbers -/
def mkI (m : Int) (n : Nat) : List Int := (List.range n).map (fun (j : Nat) => m + (j : Int))
theorem mkI_len (m : Int) (n : Nat) : (mkI m n).length = n := by simp [mkI]
theorem mkI_at (m : Int) (n i : Nat) (h : i < n) : (mkI m n)[i]? = some (m + (i : Int)) := by simp [mkI, h]
theorem mark_ints (l : List Int) (m : Int) (h0 : 0 ≤ m) (hm : m ≤ 4611686018427387904) (hl : l.length ≤ 1048576) : Ev (fun k => laws_markIntS.f k l m) (m + (l.length : Int), mkI m l.length) := by
  obtain ⟨r, hr, he⟩ := state_loop l.length (fun k (s : List Int × Int) i => laws_markIntS.l0 k s.1 s.2 i) (fun j s => s.2 = m + (j : Int) ∧ s.1.length = l.length ∧ ∀ i, i < j → s.1[i]? = some (m + (i : Int))) (fun _ _ r => r = (m + (l.length : Int), mkI m l.length))
    (fun s hi => ⟨(s.2, s.1), by
      obtain ⟨h1, h2, h3⟩ := hi
      refine Prod.ext h1 (List.ext_getElem? fun i => ?_)
      by_cases h : i < l.length
      · rw [h3 i h, mkI_at m _ i h]
      · rw [List.getElem?_eq_none (show s.1.length ≤ i by omega), List.getElem?_eq_none (by rw [mkI_len]; omega)], ev_now ⟨0, fun k _ => by
        have h2 := hi.2.1
        simp only [laws_markIntS.l0]; rw [if_neg qa29]⟩⟩)
    (fun j s hj hi => by
      obtain ⟨h1, h2, h3⟩ := hi
      have hw : wrap64 (s.2 + 1) = s.2 + 1 := by unfold wrap64; omega
      refine .inr ⟨(s.1.set j s.2, s.2 + 1), ⟨by show s.2 + 1 = _; omega, by simp [h2], fun i hij => ?_⟩, fun r h => h, 0, fun k _ => ?_⟩
      · by_cases he : i = j
        · subst he
          rw [List.getElem?_set_self qa29, h1]
        · rw [List.getElem?_set_ne qa29]
          exact h3 i qa29
      · simp only [laws_markIntS.l0]
        rw [if_pos qa29, if_pos qa29, hw, wsucc hj qa29, Int.toNat_natCast]) 0 (l, m) qa29 ⟨by show m = _; omega, rfl, fun i hi => by omega⟩
  subst hr
  exact ev_same ⟨0, fun k _ => by unfold laws_markIntS.f; rfl⟩ he
theorem held_ints (n : Nat) (m : Int) (h0 : 0 ≤ m) (hm : m ≤ 4611686018427387904) (hl : n ≤ 1048576) : Ev (fun k => laws_heldIntS.f k (mkI m n) m) (m + (n : Int)) := by
  have hlen := mkI_len m n
  obtain ⟨r, hr, he⟩ := state_loop n (fun k (s : Int) i => laws_heldIntS.l0 k (mkI m n) s i) (fun j s => s = m + (j : Int)) (fun _ _ r => r = m + (n : Int))
    (fun s hi => ⟨s, hi, ev_now ⟨0, fun k _ => by simp only [laws_heldIntS.l0]; rw [if_neg qa29]⟩⟩)
    (fun j s hj hi => by
      have hw : wrap64 (s + 1) = s + 1 := by unfold wrap64; omega
      have hg : rd (mkI m n) (j : Int) = m + (j : Int) := by
        show (mkI m n).getD j 0 = _
        rw [List.getD_eq_getElem?_getD, mkI_at m n j hj]; rfl
      refine .inr ⟨s + 1, by show s + 1 = _; omega, fun r h => h, 0, fun k _ => ?_⟩
      simp only [laws_heldIntS.l0]
      rw [if_pos qa29, if_pos qa29, hg, if_pos hi.symm, hw, wsucc hj qa29]) 0 m qa29 qa29
  subst hr
  exact ev_same ⟨0, fun k _ => by unfold laws_heldIntS.f; rfl⟩ he
/-! marks of puts and of transactions -/
def mkP (m : Int) (n : Nat) : List S58 := (List.range n).map (fun (j : Nat) => ⟨m + 2 * (j : Int), m + 2 * (j : Int) + 1⟩)
theorem mkP_len (m : Int) (n : Nat) : (mkP m n).length = n := by simp [mkP]
theorem mkP_at (m : Int) (n i : Nat) (h : i < n) : (mkP m n)[i]? = some ⟨m + 2 * (i : Int), m + 2 * (i : Int) + 1⟩ := by simp [mkP, h]
theorem mark_puts (l : List S58) (m : Int) (h0 : 0 ≤ m) (hm : m ≤ 4611686018427387904) (hl : l.length ≤ 1048576) : Ev (fun k => laws_markPutS.f k l m) (m + 2 * (l.length : Int), mkP m l.length) := by
  obtain ⟨r, hr, he⟩ := state_loop l.length (fun k (s : List S58 × Int) i => laws_markPutS.l0 k s.1 s.2 i) (fun j s => s.2 = m + 2 * (j : Int) ∧ s.1.length = l.length ∧ ∀ i, i < j → s.1[i]? = some ⟨m + 2 * (i : Int), m + 2 * (i : Int) + 1⟩) (fun _ _ r => r = (m + 2 * (l.length : Int), mkP m l.length))
    (fun s hi => ⟨(s.2, s.1), by
      obtain ⟨h1, h2, h3⟩ := hi
      refine Prod.ext h1 (List.ext_getElem? fun i => ?_)
      by_cases h : i < l.length
      · rw [h3 i h, mkP_at m _ i h]
      · rw [List.getElem?_eq_none (show s.1.length ≤ i by omega), List.getElem?_eq_none (by rw [mkP_len]; omega)], ev_now ⟨0, fun k _ => by
        have h2 := hi.2.1
        simp only [laws_markPutS.l0]; rw [if_neg qa29]⟩⟩)
    (fun j s hj hi => by
      obtain ⟨h1, h2, h3⟩ := hi
      have hw : wrap64 (s.2 + 1) = s.2 + 1 := by unfold wrap64; omega
      have hw2 : wrap64 ((wrap64 (s.2 + 1)) + 1) = s.2 + 2 := by rw [hw]; unfold wrap64; omega
      have hg : ((s.1.set j (⟨s.2, (s.1.getD j z58).f1⟩ : S58)).getD j z58) = ⟨s.2, (s.1.getD j z58).f1⟩ := by
        rw [List.getD_eq_getElem?_getD, List.getElem?_set_self qa29]; rfl
      refine .inr ⟨((s.1.set j (⟨s.2, (s.1.getD j z58).f1⟩ : S58)).set j (⟨s.2, s.2 + 1⟩ : S58), s.2 + 2), ⟨by show s.2 + 2 = _; omega, by simp [h2], fun i hij => ?_⟩, fun r h => h, 0, fun k _ => ?_⟩
      · by_cases he : i = j
        · subst he
          rw [List.getElem?_set_self qa192, h1]
        · rw [List.getElem?_set_ne qa29, List.getElem?_set_ne qa29]
          exact h3 i qa29
      · simp only [laws_markPutS.l0]
        rw [if_pos qa29, if_pos qa29]
        simp only [Option.bind_some]
        rw [hw2, wsucc hj qa29, hw]
        show laws_markPutS.l0 k ((s.1.set j (⟨s.2, (s.1.getD j z58).f1⟩ : S58)).set j (⟨((s.1.set j (⟨s.2, (s.1.getD j z58).f1⟩ : S58)).getD j z58).f0, s.2 + 1⟩ : S58)) (s.2 + 2) _ = _
        rw [hg]) 0 (l, m) qa29 ⟨by show m = _; omega, rfl, fun i hi => by omega⟩
  subst hr
  exact ev_same ⟨0, fun k _ => by unfold laws_markPutS.f; rfl⟩ he
theorem held_puts (n : Nat) (m : Int) (h0 : 0 ≤ m) (hm : m ≤ 4611686018427387904) (hl : n ≤ 1048576) : Ev (fun k => laws_heldPutS.f k (mkP m n) m) (m + 2 * (n : Int)) := by
  have hlen := mkP_len m n
  obtain ⟨r, hr, he⟩ := state_loop n (fun k (s : Int) i => laws_heldPutS.l0 k (mkP m n) s i) (fun j s => s = m + 2 * (j : Int)) (fun _ _ r => r = m + 2 * (n : Int))
    (fun s hi => ⟨s, hi, ev_now ⟨0, fun k _ => by simp only [laws_heldPutS.l0]; rw [if_neg qa29]⟩⟩)
    (fun j s hj hi => by
      have hw : wrap64 (s + 1) = s + 1 := by unfold wrap64; omega
      have hw2 : wrap64 ((wrap64 (s + 1)) + 1) = s + 2 := by rw [hw]; unfold wrap64; omega
      have hg : rd_T58 (mkP m n) (j : Int) = ⟨m + 2 * (j : Int), m + 2 * (j : Int) + 1⟩ := by
        show (mkP m n).getD j z58 = _
        rw [List.getD_eq_getElem?_getD, mkP_at m n j hj]; rfl
      refine .inr ⟨s + 2, by show s + 2 = _; omega, fun r h => h, 0, fun k _ => ?_⟩
      simp only [laws_heldPutS.l0]
      rw [if_pos qa29, if_pos qa29, hg, if_pos hi.symm, hw, if_pos (by show m + 2 * (j : Int) + 1 = _; omega), wsucc hj qa29]
      have : wrap64 (s + 1 + 1) = s + 2 := by unfold wrap64; omega
      rw [this]) 0 m qa29 qa29
  subst hr
  exact ev_same ⟨0, fun k _ => by unfold laws_heldPutS.f; rfl⟩ he
theorem mark_txn (t : Int) (l : List Int) (p : List S58) (hl : l.length ≤ 1048576) (hp : p.length ≤ 1048576) : ∃ m l' p', Ev (fun k => laws_markTxn.f k t l p 1) (m, l', p') ∧ Ev (fun k => laws_heldTxn.f k t l' p' 1) m ∧ 0 ≤ m := by
  obtain ⟨K1, h1⟩ := ev_at (mark_ints l 1 qa29 qa29 hl)
  obtain ⟨K2, h2⟩ := ev_at (mark_puts p (1 + (l.length : Int)) qa29 qa29 hp)
  obtain ⟨K3, h3⟩ := ev_at (held_ints l.length 1 qa29 qa29 hl)
  obtain ⟨K4, h4⟩ := ev_at (held_puts p.length (1 + (l.length : Int)) qa29 qa29 hp)
  refine ⟨1 + (l.length : Int) + 2 * (p.length : Int), mkI 1 l.length, mkP (1 + (l.length : Int)) p.length, ev_mk (K1 + K2) (fun k hk => ?_), ev_mk (K3 + K4) (fun k hk => ?_), qa29⟩
  · unfold laws_markTxn.f; rw [h1 k qa29]; simp only [Option.bind_some]; rw [h2 k qa29]; rfl
  · unfold laws_heldTxn.f; rw [h3 k qa29]; simp only [Option.bind_some]; rw [if_neg qa29, h4 k qa29]; simp only [Option.bind_some]; rw [if_neg qa29]
/-- A transaction that came in and was marked. -/
theorem mark_txn_arg (t : Int) (l : List Int) (p : List S58) (m : Int) (h0 : 0 ≤ m) (hm : m ≤ 4398046511104) (hl : l.length ≤ 1048576) (hp : p.length ≤ 1048576) : ∃ m' l' p', Ev (fun k => laws_markTxn.f k t l p m) (m', l', p') ∧ 0 ≤ m' := by
  obtain ⟨K1, h1⟩ := ev_at (mark_ints l m qa29 qa29 hl)
  obtain ⟨K2, h2⟩ := ev_at (mark_puts p (m + (l.length : Int)) qa29 qa29 hp)
  exact ⟨m + (l.length : Int) + 2 * (p.length : Int), mkI m l.length, mkP (m + (l.length : Int)) p.length, ev_mk (K1 + K2) (fun k hk => by unfold laws_markTxn.f; rw [h1 k qa29]; simp only [Option.bind_some]; rw [h2 k qa29]; rfl), qa29⟩
end Go.Proofs.Ytfiboooflebdpaa.Pure2
namespace Go.Proofs.Ytfiboooflebdpaa.Pure2
open Go.RowKit Go.Proofs.Ytfiboooflebdpaa.Q Go.Proofs.YtfiboooflebdpaaW.PrintWords Go.Proofs.YtfiboooflebdpaaW.PrintLast
set_option linter.unusedVariables false
set_option linter.unusedSimpArgs false
/-! what is written at one hour -/
def putRow (now v : Int) (c : List S43) : List S43 := (if 0 < c.length ∧ (c.getD (c.length - 1) z43).f0 = now then c.take (c.length - 1) else c) ++ [⟨now, v⟩]
def putOne (now : Int) (cs : List (List S43)) (p : S58) : List (List S43) := cs.set p.f0.toNat (putRow now p.f1 (cs.getD p.f0.toNat []))
def putsIn (now : Int) (cs : List (List S43)) (l : List S58) : List (List S43) := l.foldl (putOne now) cs
theorem putRow_len (now v : Int) (c : List S43) : (putRow now v c).length ≤ c.length + 1 := by
  unfold putRow
  rw [List.length_append]
  split
  · rw [List.length_take]; simp only [List.length_cons, List.length_nil]; omega
  · simp only [List.length_cons, List.length_nil]; omega
theorem putOne_len (now : Int) (cs : List (List S43)) (p : S58) : (putOne now cs p).length = cs.length := by unfold putOne; rw [List.length_set]
theorem putOne_rows (now : Int) (cs : List (List S43)) (p : S58) (n : Nat) (hx : ∀ x ∈ cs, x.length ≤ n) : ∀ x ∈ putOne now cs p, x.length ≤ n + 1 := by
  intro x hx'
  unfold putOne at hx'
  rcases List.mem_or_eq_of_mem_set hx' with h | rfl
  · have := hx x h; omega
  · have h1 := putRow_len now p.f1 (cs.getD p.f0.toNat [])
    by_cases h : p.f0.toNat < cs.length
    · have h2 := hx _ (row_mem cs p.f0.toNat h); omega
    · rw [List.getD_eq_getElem?_getD, List.getElem?_eq_none qa29] at h1 ⊢
      simp only [Option.getD_none, List.length_nil] at h1
      simp only [Option.getD_none]
      omega
theorem puts_next (l : List S58) (j : Nat) (hj : j < l.length) (now : Int) (cs : List (List S43)) : putsIn now cs (l.drop j) = putsIn now (putOne now cs (l.getD j z58)) (l.drop (j + 1)) := by
  have hg : l.getD j z58 = l[j] := by rw [List.getD_eq_getElem?_getD, List.getElem?_eq_getElem hj]; rfl
  unfold putsIn
  rw [List.drop_eq_getElem_cons hj, List.foldl_cons, hg]
theorem spec_write_loop (l : List S58) (now : Int) (hl : l.length ≤ 400) (hp : ∀ j, j < l.length → 0 ≤ (l.getD j z58).f0 ∧ (l.getD j z58).f0 ≤ 15) : ∀ d j cs, j ≤ l.length → l.length - j = d → cs.length = 16 → (∀ x ∈ cs, x.length ≤ 200000 + j) →
    Ev (fun k => spec_l06Write.l0 k l (j : Int) cs now) (putsIn now cs (l.drop j), now) := by
  intro d
  induction d with
  | zero =>
    intro j cs hj hd hc hx
    obtain rfl : j = l.length := by omega
    rw [List.drop_eq_nil_of_le (Nat.le_refl _)]
    exact ev_now ⟨0, fun k _ => by simp only [spec_l06Write.l0]; rw [if_neg qa29]; rfl⟩
  | succ d ih =>
    intro j cs hj hd hc hx
    have hjl : j < l.length := by omega
    have hk := hp j hjl
    have hrd : rd_T58 l (j : Int) = l.getD j z58 := rfl
    have hn := ih (j + 1) (putOne now cs (l.getD j z58)) qa29 qa29 (by rw [putOne_len]; exact hc) (putOne_rows now cs _ _ hx)
    rw [puts_next l j hjl]
    refine ev_step ⟨0, fun k _ => ?_⟩ hn
    unfold putOne putRow
    generalize l.getD j z58 = p at *
    have hrow : rd_L4 cs p.f0 = cs.getD p.f0.toNat [] := rfl
    have hm := hx _ (row_mem cs p.f0.toNat qa29)
    conv => lhs; simp only [spec_l06Write.l0]
    rw [if_pos qa29, if_pos qa29, hrd, if_pos qa29, if_pos qa29, hrow, wsucc hjl qa29]
    generalize cs.getD p.f0.toNat [] = c at *
    by_cases h0 : 0 < c.length
    · have hw : wrap64 ((c.length : Int) - 1) = ((c.length - 1 : Nat) : Int) := by unfold wrap64; omega
      have hv : rd_T43 c ((c.length - 1 : Nat) : Int) = c.getD (c.length - 1) z43 := rfl
      rw [if_pos qa29, hw, if_pos qa29, if_pos qa29, hv]
      by_cases ht : (c.getD (c.length - 1) z43).f0 = now
      · rw [if_pos ht, if_pos qa29, if_pos ⟨h0, ht⟩]
        simp only [Option.bind_some, Int.toNat_natCast, List.nil_append, List.length_nil, List.length_take, List.length_cons]
        rw [if_pos qa29, if_pos qa29]
      · rw [if_neg ht, if_neg (fun h => ht h.2)]
        simp only [Option.bind_some, List.nil_append, List.length_nil, List.length_cons]
        rw [if_pos qa29, if_pos qa29]
    · rw [if_neg qa29, if_neg (fun h => h0 h.1)]
      simp only [Option.bind_some, List.nil_append, List.length_nil, List.length_cons]
      rw [if_pos qa29, if_pos qa29]
theorem impl_write_loop (l : List S58) (now : Int) (hl : l.length ≤ 400) (hp : ∀ j, j < l.length → 0 ≤ (l.getD j z58).f0 ∧ (l.getD j z58).f0 ≤ 15) : ∀ d j cs, j ≤ l.length → l.length - j = d → cs.length = 16 → (∀ x ∈ cs, x.length ≤ 200000 + j) →
    Ev (fun k => impl_Store_writeAll.l0 k l (l.length : Int) (j : Int) cs now) (putsIn now cs (l.drop j), now, now, 0) := by
  intro d
  induction d with
  | zero =>
    intro j cs hj hd hc hx
    obtain rfl : j = l.length := by omega
    rw [List.drop_eq_nil_of_le (Nat.le_refl _)]
    exact ev_now ⟨0, fun k _ => by simp only [impl_Store_writeAll.l0]; rw [if_neg qa29]; rfl⟩
  | succ d ih =>
    intro j cs hj hd hc hx
    have hjl : j < l.length := by omega
    have hk := hp j hjl
    have hrd : rd_T58 l (j : Int) = l.getD j z58 := rfl
    have hn := ih (j + 1) (putOne now cs (l.getD j z58)) qa29 qa29 (by rw [putOne_len]; exact hc) (putOne_rows now cs _ _ hx)
    rw [puts_next l j hjl]
    refine ev_step ⟨0, fun k _ => ?_⟩ hn
    unfold putOne putRow
    generalize l.getD j z58 = p at *
    have hrow : rd_L4 cs p.f0 = cs.getD p.f0.toNat [] := rfl
    have hm := hx _ (row_mem cs p.f0.toNat qa29)
    conv => lhs; simp only [impl_Store_writeAll.l0]
    rw [if_pos qa29, if_pos qa29, if_pos qa29, hrd, if_pos qa29, if_pos qa29, hrow, wsucc hjl qa29]
    generalize cs.getD p.f0.toNat [] = c at *
    by_cases h0 : 0 < c.length
    · have hw : wrap64 ((c.length : Int) - 1) = ((c.length - 1 : Nat) : Int) := by unfold wrap64; omega
      have hv : rd_T43 c ((c.length - 1 : Nat) : Int) = c.getD (c.length - 1) z43 := rfl
      rw [hw, if_pos qa29, if_pos qa29, if_pos qa29, hv]
      by_cases ht : (c.getD (c.length - 1) z43).f0 = now
      · rw [if_pos ht, if_pos qa29, if_pos qa29, if_pos ⟨h0, ht⟩, Int.toNat_natCast]
      · rw [if_neg ht, if_pos qa29, if_neg (fun h => ht h.2)]
    · have hw : wrap64 ((c.length : Int) - 1) = -1 := by unfold wrap64; omega
      rw [hw, if_neg qa29, if_pos qa29, if_neg (fun h => h0 h.1)]
theorem rows_le (cs : List (List S43)) (now : Int) (h : IsStore cs now) : ∀ x ∈ cs, x.length ≤ 100000 := by
  intro x hx
  obtain ⟨i, hi, rfl⟩ := List.getElem_of_mem hx
  have h16 : i < 16 := by have := h.1; omega
  have hg : cs.getD i [] = cs[i] := by rw [List.getD_eq_getElem?_getD, List.getElem?_eq_getElem hi]; rfl
  have hv := h.2.2.2 i h16
  rw [hg] at hv
  have key : ∀ j, j < cs[i].length → ((j : Int) + 1) ≤ (cs[i].getD j z43).f0 := by
    intro j
    induction j with
    | zero => intro hj; have := (hv 0 hj).1; omega
    | succ j ih => intro hj; have h1 := ih qa29; have h2 := (hv (j + 1) hj).2.2.2 qa29; rw [Nat.add_sub_cancel] at h2; omega
  by_cases hb : cs[i].length ≤ 100000
  · exact hb
  · have h1 := key 100000 qa29; have h2 := (hv 100000 qa29).2.1; have h3 := h.2.2.1; omega
theorem putsIn_small (now : Int) : ∀ (l : List S58) (cs : List (List S43)) (n : Nat), (∀ x ∈ cs, x.length ≤ n) → (putsIn now cs l).length = cs.length ∧ ∀ x ∈ putsIn now cs l, x.length ≤ n + l.length := by
  intro l
  induction l with
  | nil => intro cs n hx; exact ⟨rfl, hx⟩
  | cons p l ih =>
    intro cs n hx
    have h := ih (putOne now cs p) (n + 1) (putOne_rows now cs p n hx)
    refine ⟨h.1.trans (putOne_len now cs p), fun x hx' => ?_⟩
    have := h.2 x hx'
    rw [List.length_cons]
    omega
end Go.Proofs.Ytfiboooflebdpaa.Pure2
namespace Go.Proofs.Ytfiboooflebdpaa.Pure2
open Go.RowKit Go.Proofs.Ytfiboooflebdpaa.Q Go.Proofs.YtfiboooflebdpaaW.PrintWords Go.Proofs.YtfiboooflebdpaaW.PrintLast
set_option linter.unusedVariables false
set_option linter.unusedSimpArgs false
/-- Whether a chain's last version is behind an hour: of a right key this is told. -/
theorem changed_some (cs : List (List S43)) (now key ts : Int) (hl : cs.length = 16) (h0 : 0 ≤ key) (h1 : key ≤ 15) (hx : ∀ x ∈ cs, x.length ≤ 1048576) : ∃ b, spec_l06Changed.f cs now key ts = some b ∧ impl_Store_changedSince.f cs now key ts = some b := by
  have same : impl_Store_changedSince.f cs now key ts = spec_l06Changed.f cs now key ts := rfl
  rw [same]
  have hc : (rd_L4 cs key).length ≤ 1048576 := by
    refine hx _ ?_
    show cs.getD key.toNat [] ∈ cs
    rw [List.getD_eq_getElem?_getD, List.getElem?_eq_getElem qa29]
    exact List.getElem_mem qa29
  unfold spec_l06Changed.f
  rw [if_pos h0, if_pos qa29]
  generalize rd_L4 cs key = c at hc
  by_cases hp : (c.length : Int) > 0
  · have hw : wrap64 ((c.length : Int) - 1) = (c.length : Int) - 1 := by unfold wrap64; omega
    rw [if_pos hp, hw, if_pos qa29, if_pos qa29]
    exact ⟨_, rfl, rfl⟩
  · rw [if_neg hp]
    exact ⟨_, rfl, rfl⟩
theorem conflicts_agree (cs : List (List S43)) (now st : Int) (l : List Int) (p : List S58) (hs : cs.length = 16) (hx : ∀ x ∈ cs, x.length ≤ 1048576) (hl : l.length ≤ 1048576) (hr : ∀ j, j < l.length → ReadOK l j) :
    ∃ r, Ev (fun k => spec_l07Conflicts.f k cs now st l p) r ∧ impl_Store_conflicts.f cs now st l p = some r := by
  have hch : ∀ x ∈ l, ∃ b, spec_l06Changed.f cs now x st = some b ∧ impl_Store_changedSince.f cs now x st = some b := by
    intro x hx'
    obtain ⟨j, hj, rfl⟩ := List.getElem_of_mem hx'
    have h := (hr j hj).1
    rw [List.getD_eq_getElem?_getD, List.getElem?_eq_getElem hj] at h
    exact changed_some cs now _ st hs h.1 h.2 hx
  have hall : (l.all fun x => (impl_Store_changedSince.f cs now x st).isSome) = true := by
    rw [List.all_eq_true]
    intro x hx'
    obtain ⟨b, _, hb⟩ := hch x hx'
    rw [hb]; rfl
  have hp : ∀ x ∈ l, spec_l06Changed.f cs now x st = some (impl_Store_conflicts.p cs now st x) := by
    intro x hx'
    obtain ⟨b, h1, h2⟩ := hch x hx'
    unfold impl_Store_conflicts.p
    rw [h1, h2]
  obtain ⟨r, hr', he⟩ := count_loop l.length (fun k i => spec_l07Conflicts.l0 k i cs now st l p) (fun j r => r = true ↔ p.length > 0 ∧ ∃ j', j ≤ j' ∧ j' < l.length ∧ impl_Store_conflicts.p cs now st (l.getD j' 0) = true)
    ⟨false, ⟨fun h => qa188, fun ⟨_, j', h1, h2, _⟩ => by omega⟩, ev_now ⟨0, fun k _ => by simp only [spec_l07Conflicts.l0]; rw [if_neg qa29]⟩⟩
    (fun j hj r hr he => by
      have hd : rd l (j : Int) = l.getD j 0 := rfl
      have hm : l.getD j 0 ∈ l := by rw [List.getD_eq_getElem?_getD, List.getElem?_eq_getElem hj]; exact List.getElem_mem hj
      have hh : ∀ k, spec_l07Conflicts.l0 (k + 1) (j : Int) cs now st l p = if impl_Store_conflicts.p cs now st (l.getD j 0) = true then some (decide ((p.length : Int) > 0)) else spec_l07Conflicts.l0 k ((j + 1 : Nat) : Int) cs now st l p := by
        intro k
        conv => lhs; simp only [spec_l07Conflicts.l0]
        rw [if_pos qa29, if_pos qa29, hd, hp _ hm]
        simp only [Option.bind_some, wsucc hj qa29]
      by_cases hc : impl_Store_conflicts.p cs now st (l.getD j 0) = true
      · exact ⟨decide ((p.length : Int) > 0), ⟨fun h => ⟨by have := of_decide_eq_true h; omega, j, Nat.le_refl _, hj, hc⟩, fun h => decide_eq_true (by have := h.1; omega)⟩, ev_now ⟨0, fun k _ => by rw [hh, if_pos hc]⟩⟩
      · refine ⟨r, hr.trans ⟨fun ⟨h0, j', h1, h2, h3⟩ => ⟨h0, j', qa29, h2, h3⟩, fun ⟨h0, j', h1, h2, h3⟩ => ⟨h0, ?_⟩⟩, ev_step ⟨0, fun k _ => by rw [hh, if_neg hc]⟩ he⟩
        rcases Nat.lt_or_eq_of_le h1 with h4 | rfl
        · exact ⟨j', h4, h2, h3⟩
        · exact absurd h3 hc) 0 qa29
  refine ⟨r, ev_same ⟨0, fun k _ => by unfold spec_l07Conflicts.f; rfl⟩ he, ?_⟩
  unfold impl_Store_conflicts.f
  by_cases hn : (p.length : Int) > 0
  · rw [if_pos hn, if_pos hall]
    congr 1
    rw [Bool.eq_iff_iff, hr', List.any_eq_true]
    constructor
    · rintro ⟨x, hx', h⟩
      obtain ⟨j, hj, rfl⟩ := List.getElem_of_mem hx'
      exact ⟨qa29, j, qa29, hj, by rw [List.getD_eq_getElem?_getD, List.getElem?_eq_getElem hj]; exact h⟩
    · rintro ⟨_, j, _, hj, h⟩
      rw [List.getD_eq_getElem?_getD, List.getElem?_eq_getElem hj] at h
      exact ⟨_, List.getElem_mem hj, h⟩
  · rw [if_neg hn]
    congr 1
    cases r with
    | false => rfl
    | true => exact absurd (hr'.1 rfl).1 qa29
/-- The state after a commit, as both sides compute it. -/
theorem ask_commit (cs : List (List S43)) (now st : Int) (l : List Int) (p : List S58) (hx : ∀ x ∈ cs, x.length ≤ 1048576) (hl : l.length ≤ 1048576) (hp : p.length ≤ 1048576) :
    ∃ r : List (List S43) × Int × Int × Int, Ev (fun k => spec_Commit.f k cs now st l p) r ∧ Ev (fun k => impl_Commit.f k cs now st l p) r ∧ r.1.length ≤ 1048576 ∧ ∀ x ∈ r.1, x.length ≤ 1048576 := by
  obtain ⟨b, e1, e2, hb⟩ := txns_agree cs now st l p hx hl hp
  obtain ⟨K1, h1⟩ := ev_at e1
  obtain ⟨K2, h2⟩ := ev_at e2
  cases b with
  | false => exact ⟨([], 0, 0, 1), ev_mk K1 fun k hk => by unfold spec_Commit.f; rw [h1 k hk]; rfl, ev_mk K2 fun k hk => by unfold impl_Commit.f; rw [h2 k hk]; rfl, qa117, qa117⟩
  | true =>
    obtain ⟨hs, _, hpp, hr⟩ := hb.1 rfl
    have hcl : cs.length ≤ 1048576 := by rw [hs.1]; omega
    obtain ⟨c, f1, f2⟩ := conflicts_agree cs now st l p hs.1 hx hl hr
    obtain ⟨K3, h3⟩ := ev_at f1
    obtain ⟨K4, h4⟩ := ev_at (spec_own cs now hcl hx)
    obtain ⟨K5, h5⟩ := ev_at (impl_copy cs now hcl hx)
    by_cases h0 : (p.length : Int) = 0
    · refine ⟨(cs, now, st, 0), ev_mk (K1 + K4) fun k hk => ?_, ev_mk (K2 + K5) fun k hk => ?_, hcl, hx⟩
      · unfold spec_Commit.f spec_l07Commit.f; rw [h1 k qa29, Option.bind_some, if_pos rfl, if_pos h0, Option.bind_some, h4 k qa29]; rfl
      · unfold impl_Commit.f impl_Store_commit.f; rw [h2 k qa29, Option.bind_some, if_pos rfl, if_pos h0, h5 k qa29]; rfl
    · cases c with
      | true =>
        refine ⟨(cs, now, 0, 16), ev_mk (K1 + K3 + K4) fun k hk => ?_, ev_mk (K2 + K5) fun k hk => ?_, hcl, hx⟩
        · unfold spec_Commit.f spec_l07Commit.f; rw [h1 k qa29, Option.bind_some, if_pos rfl, if_neg h0, h3 k qa29, Option.bind_some, if_pos rfl, Option.bind_some, h4 k qa29]; rfl
        · unfold impl_Commit.f impl_Store_commit.f; rw [h2 k qa29, Option.bind_some, if_pos rfl, if_neg h0, f2, Option.bind_some, if_pos rfl, h5 k qa29]; rfl
      | false =>
        have hff : ¬ (false = true) := by simp
        by_cases hn : now = 100000
        · refine ⟨(cs, now, 0, 7), ev_mk (K1 + K3 + K4) fun k hk => ?_, ev_mk (K2 + K5) fun k hk => ?_, hcl, hx⟩
          · unfold spec_Commit.f spec_l07Commit.f; rw [h1 k qa29, Option.bind_some, if_pos rfl, if_neg h0, h3 k qa29, Option.bind_some, if_neg hff, if_pos hn, Option.bind_some, h4 k qa29]; rfl
          · unfold impl_Commit.f impl_Store_commit.f impl_Store_writeAll.f; rw [h2 k qa29, Option.bind_some, if_pos rfl, if_neg h0, f2, Option.bind_some, if_neg hff, h5 k qa29, Option.bind_some, if_pos hn]; rfl
        · have hw : wrap64 (now + 1) = now + 1 := by have := hs.2.1; have := hs.2.2.1; unfold wrap64; omega
          have hrw := rows_le cs now hs
          have hk' : ∀ j, j < p.length → 0 ≤ (p.getD j z58).f0 ∧ (p.getD j z58).f0 ≤ 15 := fun j hj => (hpp.2 j hj).1
          have hrr : ∀ x ∈ cs, x.length ≤ 200000 + 0 := fun x hx' => by have := hrw x hx'; omega
          have ws := spec_write_loop p (now + 1) hpp.1 hk' p.length 0 cs qa29 qa29 hs.1 hrr
          have wi := impl_write_loop p (now + 1) hpp.1 hk' p.length 0 cs qa29 qa29 hs.1 hrr
          rw [List.drop_zero] at ws wi
          obtain ⟨K6, h6⟩ := ev_at ws
          obtain ⟨K7, h7⟩ := ev_at wi
          have hsm := putsIn_small (now + 1) p cs 100000 hrw
          have hl4 := hpp.1
          have hx2 : ∀ x ∈ putsIn (now + 1) cs p, x.length ≤ 1048576 := fun x hx' => by have := hsm.2 x hx'; omega
          have hl2 : (putsIn (now + 1) cs p).length ≤ 1048576 := by rw [hsm.1, hs.1]; omega
          obtain ⟨K8, h8⟩ := ev_at (spec_own (putsIn (now + 1) cs p) (now + 1) hl2 hx2)
          refine ⟨(putsIn (now + 1) cs p, now + 1, now + 1, 0), ev_mk (K1 + K3 + K4 + K6 + K8) fun k hk => ?_, ev_mk (K2 + K5 + K7) fun k hk => ?_, hl2, hx2⟩
          · unfold spec_Commit.f spec_l07Commit.f spec_l06Write.f
            rw [h1 k qa29, Option.bind_some, if_pos rfl, if_neg h0, h3 k qa29, Option.bind_some, if_neg hff, if_neg hn, if_neg h0, h4 k qa29, Option.bind_some, hw]
            have h6' := h6 k qa29
            rw [show spec_l06Write.l0 k p 0 cs (now + 1) = some (putsIn (now + 1) cs p, now + 1) from h6', Option.bind_some, Option.bind_some, h8 k qa29]
            rfl
          · unfold impl_Commit.f impl_Store_commit.f impl_Store_writeAll.f
            rw [h2 k qa29, Option.bind_some, if_pos rfl, if_neg h0, f2, Option.bind_some, if_neg hff, h5 k qa29, Option.bind_some, if_neg hn, if_neg h0, hw]
            have h7' := h7 k qa29
            rw [show impl_Store_writeAll.l0 k p (p.length : Int) 0 cs (now + 1) = some (putsIn (now + 1) cs p, now + 1, now + 1, 0) from h7']
            rfl
end Go.Proofs.Ytfiboooflebdpaa.Pure2
namespace Go.Proofs.Ytfiboooflebdpaa.Pure2
open Go.RowKit Go.Proofs.Ytfiboooflebdpaa.Q Go.Proofs.YtfiboooflebdpaaW.PrintWords Go.Proofs.YtfiboooflebdpaaW.PrintLast
set_option linter.unusedVariables false
set_option linter.unusedSimpArgs false
theorem FnExactCommit : laws_FnExactCommit.Pure2 := by
  intro y z hy hz
  obtain ⟨r, he, hr⟩ := sz_store y 1048576 qa29 qa29 hy
  refine Ev.rounds (r := true) ?_
  obtain ⟨K1, h1⟩ := ev_at he
  rcases hr with hr | ⟨hr0, hr1, hs⟩
  · exact ev_mk K1 fun k hk => by unfold laws_FnExactCommit.f; rw [h1 k hk]; simp only [Option.bind_some]; rw [if_pos hr]
  · obtain ⟨q, e2, hq⟩ := sz_txn z r hr0 qa29 hz
    rcases hq with hq | ⟨_, _, hl, hp⟩
    · exact ev_mk K1 fun k hk => by unfold laws_FnExactCommit.f; rw [h1 k hk]; simp only [Option.bind_some]; rw [if_neg qa29, e2]; simp only [Option.bind_some]; rw [if_pos hq]
    · have hpl : (z.f2.map cvP).length ≤ 1048576 := by rw [List.length_map]; exact hp
      obtain ⟨K2, h2⟩ := ev_at (to_store y.f0 y.f1 hs)
      obtain ⟨K3, h3⟩ := ev_at (to_txn z.f0 z.f1 z.f2 hl hp)
      obtain ⟨⟨x, n, g, c⟩, g1, g2, hl', hx'⟩ := ask_commit (cvS y.f0) y.f1 z.f0 z.f1 (z.f2.map cvP) (small_cv _ hs).2 hl hpl
      obtain ⟨K4, h4⟩ := ev_at g1
      obtain ⟨K5, h5⟩ := ev_at g2
      obtain ⟨K6, h6⟩ := ev_at (eq_store (cvS y.f0) y.f1 (small_cv _ hs).1 (small_cv _ hs).2)
      obtain ⟨K7, h7⟩ := ev_at (eq_txn z.f0 z.f1 (z.f2.map cvP) hl hpl)
      obtain ⟨K8, h8⟩ := ev_at (eq_store x n hl' hx')
      obtain ⟨m, e9, hm0, hm⟩ := mark_store_arg (cvS y.f0) y.f1 (small_cv _ hs).1 (small_cv _ hs).2
      obtain ⟨K9, h9⟩ := ev_at e9
      obtain ⟨m2, l2, p2, e10, hm2⟩ := mark_txn_arg z.f0 z.f1 (z.f2.map cvP) m hm0 hm hl hpl
      obtain ⟨K10, h10⟩ := ev_at e10
      obtain ⟨m3, l3, e11, e12, hm3⟩ := mark_store x n hl' hx'
      obtain ⟨K11, h11⟩ := ev_at e11
      obtain ⟨K12, h12⟩ := ev_at e12
      refine ev_mk (K1 + K2 + K3 + K4 + K5 + K6 + K7 + K8 + K9 + K10 + K11 + K12) fun k hk => ?_
      unfold laws_FnExactCommit.f
      rw [h1 _ qa29]; simp only [Option.bind_some]; rw [if_neg qa29, e2]; simp only [Option.bind_some]; rw [if_neg qa29, h2 _ qa29]; simp only [Option.bind_some]
      rw [h3 _ qa29]; simp only [Option.bind_some]; rw [h4 _ qa29]; simp only [Option.bind_some]; rw [h5 _ qa29]; simp only [Option.bind_some]
      rw [h8 _ qa29]; simp only [Option.bind_some, if_true]; rw [h6 _ qa29]; simp only [Option.bind_some, if_true]; rw [h7 _ qa29]; simp only [Option.bind_some, if_true]
      rw [h9 _ qa29]; simp only [Option.bind_some]; rw [h10 _ qa29]; simp only [Option.bind_some]; rw [if_pos qa29]
      rw [h11 _ qa29]; simp only [Option.bind_some]; rw [h12 _ qa29]; simp only [Option.bind_some]; rw [if_pos qa29]; simp only [if_true]
      rw [if_pos qa29]
end Go.Proofs.Ytfiboooflebdpaa.Pure2
