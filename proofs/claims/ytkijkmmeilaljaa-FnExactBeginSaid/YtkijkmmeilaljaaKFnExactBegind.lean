/- Texts of the claim on FnExactBegin, gathered by a program of this session: what the program's functions compute (proved by walks), and the plain part. -/
import Derived.Test.YtkijkmmeilaljaaKFnExactBeginc
import Derived.Test.YtkijkmmeilaljaaOpens
import Derived.KernelRfl
namespace Go.Proofs.Ytkijkmmeilaljaa.Q
open Go.RowKit Go.Proofs.YtkijkmmeilaljaaW.PrintWords Go.Proofs.YtkijkmmeilaljaaW.PrintLast Go.Proofs.YtkijkmmeilaljaaW.PrintMore
attribute [local go_sem] max2_int min2_int max_two min_two max_three min_three max_four min_four   -- for this text's walks alone
set_option linter.unusedVariables false
set_option linter.unusedSimpArgs false

/-! ### a law's walk: small words -/
theorem lw9_iv {W W' : World} {n : Nat} (hn : n ≤ W.heap.size) (hb : W.heap.size ≤ W'.heap.size) : ∃ lo hi, lo = W.heap.size ∧ hi = W'.heap.size ∧ (n ≤ lo ∧ lo ≤ hi) := ⟨_, _, rfl, rfl, hn, hb⟩
theorem lw9_need {α : Type} {p : Prop} [Decidable p] {X : Option α} {r : α} (h : (if p then X else none) = some r) : p ∧ X = some r := by
 by_cases c : p
 ·rw [if_pos c] at h; exact ⟨c, h⟩
 ·rw [if_neg c] at h; cases h
theorem lw9_lt {W w' : World} {g : Nat} {o : Obj} (hb : Below W.heap.size W w') (h : W.heap[g]? = some o) : g + 1 ≤ W.heap.size ∧ w'.heap[g]? = some o := ⟨blk_lt h, blk_below h hb⟩
/-! ### laws_FnExactBegin: function 9 -/
def laws_FnExactBegin.f (k : Nat) (l0_0 : List (List (S90))) (a0_1 : Int) : Option (Bool) := ((laws_szStore.f k l0_0 a0_1 1048576).bind fun b0_ => (if b0_ < 0 then (some true) else ((laws_toStore.f k l0_0 a0_1).bind fun b2_ => ((spec_Begin.f k b2_.1 b2_.2).bind fun b3_ => ((laws_toStore.f k l0_0 a0_1).bind fun b4_ => ((impl_Begin.f k b4_.1 b4_.2).bind fun b5_ => ((laws_eqTxn.f k b5_.1 b5_.2.1 b5_.2.2.1 b3_.1 b3_.2.1 b3_.2.2.1).bind fun b6_ => (if b6_ = true then (if b5_.2.2.2 = b3_.2.2.2 then ((laws_toStore.f k l0_0 a0_1).bind fun b9_ => ((laws_eqStore.f k b4_.1 b4_.2 b9_.1 b9_.2).bind fun b10_ => (if b10_ = true then ((laws_markStore.f k b4_.1 b4_.2 1).bind fun b12_ => (if ¬ (b12_.1 < 0) then ((laws_eqTxn.f k b5_.1 b5_.2.1 b5_.2.2.1 b3_.1 b3_.2.1 b3_.2.2.1).bind fun b14_ => (if b14_ = true then ((laws_markTxn.f k b5_.1 b5_.2.1 b5_.2.2.1 1).bind fun b16_ => ((laws_heldTxn.f k b5_.1 b16_.2.1 b16_.2.2 1).bind fun b17_ => (if ¬ (b17_ < 0) then (if b17_ = b16_.1 then ((laws_toStore.f k l0_0 a0_1).bind fun b20_ => ((impl_Begin.f k b20_.1 b20_.2).bind fun b21_ => ((laws_eqTxn.f k b21_.1 b21_.2.1 b21_.2.2.1 b3_.1 b3_.2.1 b3_.2.2.1).bind fun b22_ => (if b22_ = true then (if b21_.2.2.2 = b3_.2.2.2 then ((laws_heldTxn.f k b5_.1 b16_.2.1 b16_.2.2 1).bind fun b25_ => (if ¬ (b25_ < 0) then (if b25_ = b16_.1 then (some true) else (none)) else (none))) else (none)) else (none))))) else (none)) else (none)))) else (none))) else (none))) else (none)))) else (none)) else (none)))))))))
set_option maxHeartbeats 8000000 in
set_option maxRecDepth 100000 in
theorem laws_FnExactBegin.calls (k : Nat) (A0_0 : Option Addr) (c0_0 : Nat) (l0_0 : List (List (S90))) (a0_1 : Int) (r : Bool) (w : World) (hr0_0 : Kd.C (Kd.slice 90 k90) w A0_0 l0_0.length l0_0) (hc0_0 : l0_0.length ≤ c0_0) (h : laws_FnExactBegin.f k l0_0 a0_1 = some r) :
  Calls Try.prog 9 #[.agg #[.slice A0_0 l0_0.length c0_0, .int .i64 a0_1]] w fun e w' => e = .returned (.bool r) ∧ Below w.heap.size w w' := by
 have hu24 := Try.underlying24
 have hu50 := Try.underlying50
 have hu29 := Try.underlying29
 have HR0_0 := Aside0.mk hr0_0
 have HC0_0 := Aside0.mk hc0_0
 clear hr0_0 hc0_0
 have HB := Aside0.mk (Below.refl w.heap.size w)
 have HX := Aside0.mk (Below.refl w.heap.size w)
 have HN := Aside0.mk (Nat.le_refl w.heap.size)
 have H : ((laws_szStore.f k l0_0 a0_1 1048576).bind fun b0_ => (if b0_ < 0 then (some true) else ((laws_toStore.f k l0_0 a0_1).bind fun b2_ => ((spec_Begin.f k b2_.1 b2_.2).bind fun b3_ => ((laws_toStore.f k l0_0 a0_1).bind fun b4_ => ((impl_Begin.f k b4_.1 b4_.2).bind fun b5_ => ((laws_eqTxn.f k b5_.1 b5_.2.1 b5_.2.2.1 b3_.1 b3_.2.1 b3_.2.2.1).bind fun b6_ => (if b6_ = true then (if b5_.2.2.2 = b3_.2.2.2 then ((laws_toStore.f k l0_0 a0_1).bind fun b9_ => ((laws_eqStore.f k b4_.1 b4_.2 b9_.1 b9_.2).bind fun b10_ => (if b10_ = true then ((laws_markStore.f k b4_.1 b4_.2 1).bind fun b12_ => (if ¬ (b12_.1 < 0) then ((laws_eqTxn.f k b5_.1 b5_.2.1 b5_.2.2.1 b3_.1 b3_.2.1 b3_.2.2.1).bind fun b14_ => (if b14_ = true then ((laws_markTxn.f k b5_.1 b5_.2.1 b5_.2.2.1 1).bind fun b16_ => ((laws_heldTxn.f k b5_.1 b16_.2.1 b16_.2.2 1).bind fun b17_ => (if ¬ (b17_ < 0) then (if b17_ = b16_.1 then ((laws_toStore.f k l0_0 a0_1).bind fun b20_ => ((impl_Begin.f k b20_.1 b20_.2).bind fun b21_ => ((laws_eqTxn.f k b21_.1 b21_.2.1 b21_.2.2.1 b3_.1 b3_.2.1 b3_.2.2.1).bind fun b22_ => (if b22_ = true then (if b21_.2.2.2 = b3_.2.2.2 then ((laws_heldTxn.f k b5_.1 b16_.2.1 b16_.2.2 1).bind fun b25_ => (if ¬ (b25_ < 0) then (if b25_ = b16_.1 then (some true) else (none)) else (none))) else (none)) else (none))))) else (none)) else (none)))) else (none))) else (none))) else (none)))) else (none)) else (none))))))))) = some r := h
 clear h
 replace H := Option.bind_eq_some_iff.mp H
 obtain ⟨t7, A0_, H⟩ := H
 replace H : (if t7 < 0 then (some true) else ((laws_toStore.f k l0_0 a0_1).bind fun b2_ => ((spec_Begin.f k b2_.1 b2_.2).bind fun b3_ => ((laws_toStore.f k l0_0 a0_1).bind fun b4_ => ((impl_Begin.f k b4_.1 b4_.2).bind fun b5_ => ((laws_eqTxn.f k b5_.1 b5_.2.1 b5_.2.2.1 b3_.1 b3_.2.1 b3_.2.2.1).bind fun b6_ => (if b6_ = true then (if b5_.2.2.2 = b3_.2.2.2 then ((laws_toStore.f k l0_0 a0_1).bind fun b9_ => ((laws_eqStore.f k b4_.1 b4_.2 b9_.1 b9_.2).bind fun b10_ => (if b10_ = true then ((laws_markStore.f k b4_.1 b4_.2 1).bind fun b12_ => (if ¬ (b12_.1 < 0) then ((laws_eqTxn.f k b5_.1 b5_.2.1 b5_.2.2.1 b3_.1 b3_.2.1 b3_.2.2.1).bind fun b14_ => (if b14_ = true then ((laws_markTxn.f k b5_.1 b5_.2.1 b5_.2.2.1 1).bind fun b16_ => ((laws_heldTxn.f k b5_.1 b16_.2.1 b16_.2.2 1).bind fun b17_ => (if ¬ (b17_ < 0) then (if b17_ = b16_.1 then ((laws_toStore.f k l0_0 a0_1).bind fun b20_ => ((impl_Begin.f k b20_.1 b20_.2).bind fun b21_ => ((laws_eqTxn.f k b21_.1 b21_.2.1 b21_.2.2.1 b3_.1 b3_.2.1 b3_.2.2.1).bind fun b22_ => (if b22_ = true then (if b21_.2.2.2 = b3_.2.2.2 then ((laws_heldTxn.f k b5_.1 b16_.2.1 b16_.2.2 1).bind fun b25_ => (if ¬ (b25_ < 0) then (if b25_ = b16_.1 then (some true) else (none)) else (none))) else (none)) else (none))))) else (none)) else (none)))) else (none))) else (none))) else (none)))) else (none)) else (none)))))))) = some r := H
 have A8 := Aside0.mk (show laws_szStore.f k l0_0 a0_1 1048576 = some t7 from A0_)
 clear A0_
 by_cases c1 : t7 < 0
 ·rw [if_pos c1] at H
  have c1b : decide (t7 < 0) = true := decide_eq_true c1
  clear c1
  obtain rfl := Option.some.inj H
  go_enter Try.func9, Try.ntmps9
  go_wp2_with (first | ((with_reducible refine gate_dst (N := 1) rfl ?_); refine box_event ?hg (N := 1) ?hd (cs := #[.slice A0_0 l0_0.length c0_0, .int .i64 a0_1]) (t := 24) ?hr ?_; (case hd => rfl); (case hg => rfl); (case hr => first | (go_simp; done) | (go_simp; rfl)); intro gb1 hg w2 hbox hb; have hbt := below_step (by repeat (first | (with_reducible first | exact HX.out | apply below_alloc | apply pw_below_drewN | apply below_drew1) | exact HX.out)) hb; obtain ⟨lo4, hi4, hl_, hh_, hc_⟩ := lw9_iv (Nat.le_trans HN.out (below_size (by repeat (first | (with_reducible first | exact HX.out | apply below_alloc | apply pw_below_drewN | apply below_drew1) | exact HX.out)))) hb.size; have CHlo4 := Aside0.mk (show w.heap.size ≤ lo4 ∧ lo4 ≤ hi4 from hc_); clear hc_; have n0_ := Aside0.mk (hbox); have n1_ := Aside0.mk (Below.refl w2.heap.size w2); have n2_ := Aside0.mk (below_step HB.out hbt); have n3_ := Aside0.mk ((show hi4 ≤ w2.heap.size from Nat.le_of_eq hh_)); clear HX HB HN; have BK3 := n0_; have HX := n1_; have HB := n2_; have HN := n3_; clear n0_ n1_ n2_ n3_; have IVgb1 := Aside0.mk (show lo4 ≤ gb1 ∧ gb1 < hi4 from ⟨Nat.le_of_eq (hl_.trans hg.symm), by rw [hh_]; exact blk_lt hbox⟩); (try clear hb); (try clear hbt); (try clear hkt); (try clear hkp); (try clear hb0); (try clear hp_); (try clear hl_); (try clear hh_); (try clear hd_); clear hg hbox; have hcz5 : w2.cell? ⟨gb1, 0, none⟩ = some (.slice A0_0 l0_0.length c0_0) := (blk_cell BK3.out 0).trans rfl; have hcz6 : w2.cell? ⟨gb1, 1, none⟩ = some (.int .i64 a0_1) := (blk_cell BK3.out 1).trans rfl) | ((with_reducible refine gate_callee (f := 11) rfl ?_); refine goesL_ (some 16) rfl rfl Try.func11 (by kernel_rfl) rfl #[.agg #[.slice A0_0 l0_0.length c0_0, .int .i64 a0_1], .int .i64 1048576] rfl (by (try simp only [List.map_toArray, List.map_cons, List.map_nil]); first | done | rfl) ?_; (with_reducible refine (laws_szStore.calls k _ _ l0_0 a0_1 1048576 t7 _ ?side1 ?side2 A8.out).mono ?_); (case side1 => exact Kd.C_below HR0_0.out (below_step HB.out (by repeat (first | (with_reducible first | exact HX.out | apply below_alloc | apply pw_below_drewN | apply below_drew1) | exact HX.out)))); (case side2 => exact HC0_0.out); rintro e w9 ⟨rfl, hb⟩; refine ⟨_, rfl, ?_⟩; have hbt := below_step (by repeat (first | (with_reducible first | exact HX.out | apply below_alloc | apply pw_below_drewN | apply below_drew1) | exact HX.out)) hb; have n0_ := Aside0.mk (blk_below (g := gb1) BK3.out hbt); have n1_ := Aside0.mk (Below.refl w9.heap.size w9); have n2_ := Aside0.mk (below_step HB.out hbt); have n3_ := Aside0.mk (Nat.le_trans (Nat.le_trans HN.out (below_size (by repeat (first | (with_reducible first | exact HX.out | apply below_alloc | apply pw_below_drewN | apply below_drew1) | exact HX.out)))) hb.size); clear BK3 HX HB HN; have BK3 := n0_; have HX := n1_; have HB := n2_; have HN := n3_; clear n0_ n1_ n2_ n3_; (try clear hb); (try clear hbt); (try clear hkt); (try clear hkp); (try clear hb0); (try clear hp_); (try clear hl_); (try clear hh_); (try clear hd_); have hcz11 : w9.cell? ⟨gb1, 0, none⟩ = some (.slice A0_0 l0_0.length c0_0) := (blk_cell BK3.out 0).trans rfl; have hcz12 : w9.cell? ⟨gb1, 1, none⟩ = some (.int .i64 a0_1) := (blk_cell BK3.out 1).trans rfl))
  go_ret
  exact ⟨by first | rfl | (simp [*]; done), below_step HB.out (by repeat (first | (with_reducible first | exact HX.out | apply below_alloc | apply pw_below_drewN | apply below_drew1) | exact HX.out))⟩
 ·rw [if_neg c1] at H
  have c1b : decide (t7 < 0) = false := decide_eq_false c1
  clear c1
  replace H := Option.bind_eq_some_iff.mp H
  obtain ⟨⟨t13, t14⟩, A0_, H⟩ := H
  replace H : ((spec_Begin.f k t13 t14).bind fun b3_ => ((laws_toStore.f k l0_0 a0_1).bind fun b4_ => ((impl_Begin.f k b4_.1 b4_.2).bind fun b5_ => ((laws_eqTxn.f k b5_.1 b5_.2.1 b5_.2.2.1 b3_.1 b3_.2.1 b3_.2.2.1).bind fun b6_ => (if b6_ = true then (if b5_.2.2.2 = b3_.2.2.2 then ((laws_toStore.f k l0_0 a0_1).bind fun b9_ => ((laws_eqStore.f k b4_.1 b4_.2 b9_.1 b9_.2).bind fun b10_ => (if b10_ = true then ((laws_markStore.f k b4_.1 b4_.2 1).bind fun b12_ => (if ¬ (b12_.1 < 0) then ((laws_eqTxn.f k b5_.1 b5_.2.1 b5_.2.2.1 b3_.1 b3_.2.1 b3_.2.2.1).bind fun b14_ => (if b14_ = true then ((laws_markTxn.f k b5_.1 b5_.2.1 b5_.2.2.1 1).bind fun b16_ => ((laws_heldTxn.f k b5_.1 b16_.2.1 b16_.2.2 1).bind fun b17_ => (if ¬ (b17_ < 0) then (if b17_ = b16_.1 then ((laws_toStore.f k l0_0 a0_1).bind fun b20_ => ((impl_Begin.f k b20_.1 b20_.2).bind fun b21_ => ((laws_eqTxn.f k b21_.1 b21_.2.1 b21_.2.2.1 b3_.1 b3_.2.1 b3_.2.2.1).bind fun b22_ => (if b22_ = true then (if b21_.2.2.2 = b3_.2.2.2 then ((laws_heldTxn.f k b5_.1 b16_.2.1 b16_.2.2 1).bind fun b25_ => (if ¬ (b25_ < 0) then (if b25_ = b16_.1 then (some true) else (none)) else (none))) else (none)) else (none))))) else (none)) else (none)))) else (none))) else (none))) else (none)))) else (none)) else (none)))))) = some r := H
  have A15 := Aside0.mk (show laws_toStore.f k l0_0 a0_1 = some (t13, t14) from A0_)
  clear A0_
  replace H := Option.bind_eq_some_iff.mp H
  obtain ⟨⟨t22, t23, t24, t25⟩, A0_, H⟩ := H
  replace H : ((laws_toStore.f k l0_0 a0_1).bind fun b4_ => ((impl_Begin.f k b4_.1 b4_.2).bind fun b5_ => ((laws_eqTxn.f k b5_.1 b5_.2.1 b5_.2.2.1 t22 t23 t24).bind fun b6_ => (if b6_ = true then (if b5_.2.2.2 = t25 then ((laws_toStore.f k l0_0 a0_1).bind fun b9_ => ((laws_eqStore.f k b4_.1 b4_.2 b9_.1 b9_.2).bind fun b10_ => (if b10_ = true then ((laws_markStore.f k b4_.1 b4_.2 1).bind fun b12_ => (if ¬ (b12_.1 < 0) then ((laws_eqTxn.f k b5_.1 b5_.2.1 b5_.2.2.1 t22 t23 t24).bind fun b14_ => (if b14_ = true then ((laws_markTxn.f k b5_.1 b5_.2.1 b5_.2.2.1 1).bind fun b16_ => ((laws_heldTxn.f k b5_.1 b16_.2.1 b16_.2.2 1).bind fun b17_ => (if ¬ (b17_ < 0) then (if b17_ = b16_.1 then ((laws_toStore.f k l0_0 a0_1).bind fun b20_ => ((impl_Begin.f k b20_.1 b20_.2).bind fun b21_ => ((laws_eqTxn.f k b21_.1 b21_.2.1 b21_.2.2.1 t22 t23 t24).bind fun b22_ => (if b22_ = true then (if b21_.2.2.2 = t25 then ((laws_heldTxn.f k b5_.1 b16_.2.1 b16_.2.2 1).bind fun b25_ => (if ¬ (b25_ < 0) then (if b25_ = b16_.1 then (some true) else (none)) else (none))) else (none)) else (none))))) else (none)) else (none)))) else (none))) else (none))) else (none)))) else (none)) else (none))))) = some r := H
  have A26 := Aside0.mk (show spec_Begin.f k t13 t14 = some (t22, t23, t24, t25) from A0_)
  clear A0_
  replace H := Option.bind_eq_some_iff.mp H
  obtain ⟨⟨t47, t48⟩, A0_, H⟩ := H
  replace H : ((impl_Begin.f k t47 t48).bind fun b5_ => ((laws_eqTxn.f k b5_.1 b5_.2.1 b5_.2.2.1 t22 t23 t24).bind fun b6_ => (if b6_ = true then (if b5_.2.2.2 = t25 then ((laws_toStore.f k l0_0 a0_1).bind fun b9_ => ((laws_eqStore.f k t47 t48 b9_.1 b9_.2).bind fun b10_ => (if b10_ = true then ((laws_markStore.f k t47 t48 1).bind fun b12_ => (if ¬ (b12_.1 < 0) then ((laws_eqTxn.f k b5_.1 b5_.2.1 b5_.2.2.1 t22 t23 t24).bind fun b14_ => (if b14_ = true then ((laws_markTxn.f k b5_.1 b5_.2.1 b5_.2.2.1 1).bind fun b16_ => ((laws_heldTxn.f k b5_.1 b16_.2.1 b16_.2.2 1).bind fun b17_ => (if ¬ (b17_ < 0) then (if b17_ = b16_.1 then ((laws_toStore.f k l0_0 a0_1).bind fun b20_ => ((impl_Begin.f k b20_.1 b20_.2).bind fun b21_ => ((laws_eqTxn.f k b21_.1 b21_.2.1 b21_.2.2.1 t22 t23 t24).bind fun b22_ => (if b22_ = true then (if b21_.2.2.2 = t25 then ((laws_heldTxn.f k b5_.1 b16_.2.1 b16_.2.2 1).bind fun b25_ => (if ¬ (b25_ < 0) then (if b25_ = b16_.1 then (some true) else (none)) else (none))) else (none)) else (none))))) else (none)) else (none)))) else (none))) else (none))) else (none)))) else (none)) else (none)))) = some r := H
  have A49 := Aside0.mk (show laws_toStore.f k l0_0 a0_1 = some (t47, t48) from A0_)
  clear A0_
  replace H := Option.bind_eq_some_iff.mp H
  obtain ⟨⟨t73, t74, t75, t76⟩, A0_, H⟩ := H
  replace H : ((laws_eqTxn.f k t73 t74 t75 t22 t23 t24).bind fun b6_ => (if b6_ = true then (if t76 = t25 then ((laws_toStore.f k l0_0 a0_1).bind fun b9_ => ((laws_eqStore.f k t47 t48 b9_.1 b9_.2).bind fun b10_ => (if b10_ = true then ((laws_markStore.f k t47 t48 1).bind fun b12_ => (if ¬ (b12_.1 < 0) then ((laws_eqTxn.f k t73 t74 t75 t22 t23 t24).bind fun b14_ => (if b14_ = true then ((laws_markTxn.f k t73 t74 t75 1).bind fun b16_ => ((laws_heldTxn.f k t73 b16_.2.1 b16_.2.2 1).bind fun b17_ => (if ¬ (b17_ < 0) then (if b17_ = b16_.1 then ((laws_toStore.f k l0_0 a0_1).bind fun b20_ => ((impl_Begin.f k b20_.1 b20_.2).bind fun b21_ => ((laws_eqTxn.f k b21_.1 b21_.2.1 b21_.2.2.1 t22 t23 t24).bind fun b22_ => (if b22_ = true then (if b21_.2.2.2 = t25 then ((laws_heldTxn.f k t73 b16_.2.1 b16_.2.2 1).bind fun b25_ => (if ¬ (b25_ < 0) then (if b25_ = b16_.1 then (some true) else (none)) else (none))) else (none)) else (none))))) else (none)) else (none)))) else (none))) else (none))) else (none)))) else (none)) else (none))) = some r := H
  have A77 := Aside0.mk (show impl_Begin.f k t47 t48 = some (t73, t74, t75, t76) from A0_)
  clear A0_
  replace H := Option.bind_eq_some_iff.mp H
  obtain ⟨t110, A0_, H⟩ := H
  replace H : (if t110 = true then (if t76 = t25 then ((laws_toStore.f k l0_0 a0_1).bind fun b9_ => ((laws_eqStore.f k t47 t48 b9_.1 b9_.2).bind fun b10_ => (if b10_ = true then ((laws_markStore.f k t47 t48 1).bind fun b12_ => (if ¬ (b12_.1 < 0) then ((laws_eqTxn.f k t73 t74 t75 t22 t23 t24).bind fun b14_ => (if b14_ = true then ((laws_markTxn.f k t73 t74 t75 1).bind fun b16_ => ((laws_heldTxn.f k t73 b16_.2.1 b16_.2.2 1).bind fun b17_ => (if ¬ (b17_ < 0) then (if b17_ = b16_.1 then ((laws_toStore.f k l0_0 a0_1).bind fun b20_ => ((impl_Begin.f k b20_.1 b20_.2).bind fun b21_ => ((laws_eqTxn.f k b21_.1 b21_.2.1 b21_.2.2.1 t22 t23 t24).bind fun b22_ => (if b22_ = true then (if b21_.2.2.2 = t25 then ((laws_heldTxn.f k t73 b16_.2.1 b16_.2.2 1).bind fun b25_ => (if ¬ (b25_ < 0) then (if b25_ = b16_.1 then (some true) else (none)) else (none))) else (none)) else (none))))) else (none)) else (none)))) else (none))) else (none))) else (none)))) else (none)) else (none)) = some r := H
  have A111 := Aside0.mk (show laws_eqTxn.f k t73 t74 t75 t22 t23 t24 = some t110 from A0_)
  clear A0_
  replace H := lw9_need H
  obtain ⟨c7, H⟩ := H
  subst c7
  replace H := lw9_need H
  obtain ⟨c8, H⟩ := H
  have c8b0 : (t76 == t25) = true := beq_iff_eq.mpr c8
  have c8b1 : (t76 != t25) = false := bne_eq_false_iff_eq.mpr c8
  clear c8
  replace H := Option.bind_eq_some_iff.mp H
  obtain ⟨⟨t125, t126⟩, A0_, H⟩ := H
  replace H : ((laws_eqStore.f k t47 t48 t125 t126).bind fun b10_ => (if b10_ = true then ((laws_markStore.f k t47 t48 1).bind fun b12_ => (if ¬ (b12_.1 < 0) then ((laws_eqTxn.f k t73 t74 t75 t22 t23 t24).bind fun b14_ => (if b14_ = true then ((laws_markTxn.f k t73 t74 t75 1).bind fun b16_ => ((laws_heldTxn.f k t73 b16_.2.1 b16_.2.2 1).bind fun b17_ => (if ¬ (b17_ < 0) then (if b17_ = b16_.1 then ((laws_toStore.f k l0_0 a0_1).bind fun b20_ => ((impl_Begin.f k b20_.1 b20_.2).bind fun b21_ => ((laws_eqTxn.f k b21_.1 b21_.2.1 b21_.2.2.1 t22 t23 t24).bind fun b22_ => (if b22_ = true then (if b21_.2.2.2 = t25 then ((laws_heldTxn.f k t73 b16_.2.1 b16_.2.2 1).bind fun b25_ => (if ¬ (b25_ < 0) then (if b25_ = b16_.1 then (some true) else (none)) else (none))) else (none)) else (none))))) else (none)) else (none)))) else (none))) else (none))) else (none))) = some r := H
  have A127 := Aside0.mk (show laws_toStore.f k l0_0 a0_1 = some (t125, t126) from A0_)
  clear A0_
  replace H := Option.bind_eq_some_iff.mp H
  obtain ⟨t132, A0_, H⟩ := H
  replace H : (if t132 = true then ((laws_markStore.f k t47 t48 1).bind fun b12_ => (if ¬ (b12_.1 < 0) then ((laws_eqTxn.f k t73 t74 t75 t22 t23 t24).bind fun b14_ => (if b14_ = true then ((laws_markTxn.f k t73 t74 t75 1).bind fun b16_ => ((laws_heldTxn.f k t73 b16_.2.1 b16_.2.2 1).bind fun b17_ => (if ¬ (b17_ < 0) then (if b17_ = b16_.1 then ((laws_toStore.f k l0_0 a0_1).bind fun b20_ => ((impl_Begin.f k b20_.1 b20_.2).bind fun b21_ => ((laws_eqTxn.f k b21_.1 b21_.2.1 b21_.2.2.1 t22 t23 t24).bind fun b22_ => (if b22_ = true then (if b21_.2.2.2 = t25 then ((laws_heldTxn.f k t73 b16_.2.1 b16_.2.2 1).bind fun b25_ => (if ¬ (b25_ < 0) then (if b25_ = b16_.1 then (some true) else (none)) else (none))) else (none)) else (none))))) else (none)) else (none)))) else (none))) else (none))) else (none)) = some r := H
  have A133 := Aside0.mk (show laws_eqStore.f k t47 t48 t125 t126 = some t132 from A0_)
  clear A0_
  replace H := lw9_need H
  obtain ⟨c11, H⟩ := H
  subst c11
  replace H := Option.bind_eq_some_iff.mp H
  obtain ⟨⟨t146, t147⟩, A0_, H⟩ := H
  replace H : (if ¬ (t146 < 0) then ((laws_eqTxn.f k t73 t74 t75 t22 t23 t24).bind fun b14_ => (if b14_ = true then ((laws_markTxn.f k t73 t74 t75 1).bind fun b16_ => ((laws_heldTxn.f k t73 b16_.2.1 b16_.2.2 1).bind fun b17_ => (if ¬ (b17_ < 0) then (if b17_ = b16_.1 then ((laws_toStore.f k l0_0 a0_1).bind fun b20_ => ((impl_Begin.f k b20_.1 b20_.2).bind fun b21_ => ((laws_eqTxn.f k b21_.1 b21_.2.1 b21_.2.2.1 t22 t23 t24).bind fun b22_ => (if b22_ = true then (if b21_.2.2.2 = t25 then ((laws_heldTxn.f k t73 b16_.2.1 b16_.2.2 1).bind fun b25_ => (if ¬ (b25_ < 0) then (if b25_ = b16_.1 then (some true) else (none)) else (none))) else (none)) else (none))))) else (none)) else (none)))) else (none))) else (none)) = some r := H
  have A148 := Aside0.mk (show laws_markStore.f k t47 t48 1 = some (t146, t147) from A0_)
  clear A0_
  replace H := lw9_need H
  obtain ⟨c13, H⟩ := H
  have c13b0 : decide (t146 < 0) = false := decide_eq_false c13
  clear c13
  replace H := Option.bind_eq_some_iff.mp H
  obtain ⟨t161, A0_, H⟩ := H
  replace H : (if t161 = true then ((laws_markTxn.f k t73 t74 t75 1).bind fun b16_ => ((laws_heldTxn.f k t73 b16_.2.1 b16_.2.2 1).bind fun b17_ => (if ¬ (b17_ < 0) then (if b17_ = b16_.1 then ((laws_toStore.f k l0_0 a0_1).bind fun b20_ => ((impl_Begin.f k b20_.1 b20_.2).bind fun b21_ => ((laws_eqTxn.f k b21_.1 b21_.2.1 b21_.2.2.1 t22 t23 t24).bind fun b22_ => (if b22_ = true then (if b21_.2.2.2 = t25 then ((laws_heldTxn.f k t73 b16_.2.1 b16_.2.2 1).bind fun b25_ => (if ¬ (b25_ < 0) then (if b25_ = b16_.1 then (some true) else (none)) else (none))) else (none)) else (none))))) else (none)) else (none)))) else (none)) = some r := H
  have A162 := Aside0.mk (show laws_eqTxn.f k t73 t74 t75 t22 t23 t24 = some t161 from A0_)
  clear A0_
  replace H := lw9_need H
  obtain ⟨c15, H⟩ := H
  subst c15
  replace H := Option.bind_eq_some_iff.mp H
  obtain ⟨⟨t175, t176, t177⟩, A0_, H⟩ := H
  replace H : ((laws_heldTxn.f k t73 t176 t177 1).bind fun b17_ => (if ¬ (b17_ < 0) then (if b17_ = t175 then ((laws_toStore.f k l0_0 a0_1).bind fun b20_ => ((impl_Begin.f k b20_.1 b20_.2).bind fun b21_ => ((laws_eqTxn.f k b21_.1 b21_.2.1 b21_.2.2.1 t22 t23 t24).bind fun b22_ => (if b22_ = true then (if b21_.2.2.2 = t25 then ((laws_heldTxn.f k t73 t176 t177 1).bind fun b25_ => (if ¬ (b25_ < 0) then (if b25_ = t175 then (some true) else (none)) else (none))) else (none)) else (none))))) else (none)) else (none))) = some r := H
  have A178 := Aside0.mk (show laws_markTxn.f k t73 t74 t75 1 = some (t175, t176, t177) from A0_)
  clear A0_
  replace H := Option.bind_eq_some_iff.mp H
  obtain ⟨t192, A0_, H⟩ := H
  replace H : (if ¬ (t192 < 0) then (if t192 = t175 then ((laws_toStore.f k l0_0 a0_1).bind fun b20_ => ((impl_Begin.f k b20_.1 b20_.2).bind fun b21_ => ((laws_eqTxn.f k b21_.1 b21_.2.1 b21_.2.2.1 t22 t23 t24).bind fun b22_ => (if b22_ = true then (if b21_.2.2.2 = t25 then ((laws_heldTxn.f k t73 t176 t177 1).bind fun b25_ => (if ¬ (b25_ < 0) then (if b25_ = t175 then (some true) else (none)) else (none))) else (none)) else (none))))) else (none)) else (none)) = some r := H
  have A193 := Aside0.mk (show laws_heldTxn.f k t73 t176 t177 1 = some t192 from A0_)
  clear A0_
  replace H := lw9_need H
  obtain ⟨c18, H⟩ := H
  have c18b0 : decide (t192 < 0) = false := decide_eq_false c18
  clear c18
  replace H := lw9_need H
  obtain ⟨c19, H⟩ := H
  have c19b0 : (t192 == t175) = true := beq_iff_eq.mpr c19
  have c19b1 : (t192 != t175) = false := bne_eq_false_iff_eq.mpr c19
  clear c19
  replace H := Option.bind_eq_some_iff.mp H
  obtain ⟨⟨t206, t207⟩, A0_, H⟩ := H
  replace H : ((impl_Begin.f k t206 t207).bind fun b21_ => ((laws_eqTxn.f k b21_.1 b21_.2.1 b21_.2.2.1 t22 t23 t24).bind fun b22_ => (if b22_ = true then (if b21_.2.2.2 = t25 then ((laws_heldTxn.f k t73 t176 t177 1).bind fun b25_ => (if ¬ (b25_ < 0) then (if b25_ = t175 then (some true) else (none)) else (none))) else (none)) else (none)))) = some r := H
  have A208 := Aside0.mk (show laws_toStore.f k l0_0 a0_1 = some (t206, t207) from A0_)
  clear A0_
  replace H := Option.bind_eq_some_iff.mp H
  obtain ⟨⟨t223, t224, t225, t226⟩, A0_, H⟩ := H
  replace H : ((laws_eqTxn.f k t223 t224 t225 t22 t23 t24).bind fun b22_ => (if b22_ = true then (if t226 = t25 then ((laws_heldTxn.f k t73 t176 t177 1).bind fun b25_ => (if ¬ (b25_ < 0) then (if b25_ = t175 then (some true) else (none)) else (none))) else (none)) else (none))) = some r := H
  have A227 := Aside0.mk (show impl_Begin.f k t206 t207 = some (t223, t224, t225, t226) from A0_)
  clear A0_
  replace H := Option.bind_eq_some_iff.mp H
  obtain ⟨t267, A0_, H⟩ := H
  replace H : (if t267 = true then (if t226 = t25 then ((laws_heldTxn.f k t73 t176 t177 1).bind fun b25_ => (if ¬ (b25_ < 0) then (if b25_ = t175 then (some true) else (none)) else (none))) else (none)) else (none)) = some r := H
  have A268 := Aside0.mk (show laws_eqTxn.f k t223 t224 t225 t22 t23 t24 = some t267 from A0_)
  clear A0_
  replace H := lw9_need H
  obtain ⟨c23, H⟩ := H
  subst c23
  replace H := lw9_need H
  obtain ⟨c24, H⟩ := H
  have c24b0 : (t226 == t25) = true := beq_iff_eq.mpr c24
  have c24b1 : (t226 != t25) = false := bne_eq_false_iff_eq.mpr c24
  clear c24
  replace H := Option.bind_eq_some_iff.mp H
  obtain ⟨t284, A0_, H⟩ := H
  replace H : (if ¬ (t284 < 0) then (if t284 = t175 then (some true) else (none)) else (none)) = some r := H
  have A285 := Aside0.mk (show laws_heldTxn.f k t73 t176 t177 1 = some t284 from A0_)
  clear A0_
  replace H := lw9_need H
  obtain ⟨c26, H⟩ := H
  have c26b0 : decide (t284 < 0) = false := decide_eq_false c26
  clear c26
  replace H := lw9_need H
  obtain ⟨c27, H⟩ := H
  have c27b0 : (t284 == t175) = true := beq_iff_eq.mpr c27
  have c27b1 : (t284 != t175) = false := bne_eq_false_iff_eq.mpr c27
  clear c27
  obtain rfl := Option.some.inj H
  go_enter Try.func9, Try.ntmps9
  go_wp2_with (first | ((with_reducible refine gate_dst (N := 1) rfl ?_); refine box_event ?hg (N := 1) ?hd (cs := #[.slice A0_0 l0_0.length c0_0, .int .i64 a0_1]) (t := 24) ?hr ?_; (case hd => rfl); (case hg => rfl); (case hr => first | (go_simp; done) | (go_simp; rfl)); intro gb1 hg w2 hbox hb; have hbt := below_step (by repeat (first | (with_reducible first | exact HX.out | apply below_alloc | apply pw_below_drewN | apply below_drew1) | exact HX.out)) hb; obtain ⟨lo4, hi4, hl_, hh_, hc_⟩ := lw9_iv (Nat.le_trans HN.out (below_size (by repeat (first | (with_reducible first | exact HX.out | apply below_alloc | apply pw_below_drewN | apply below_drew1) | exact HX.out)))) hb.size; have CHlo4 := Aside0.mk (show w.heap.size ≤ lo4 ∧ lo4 ≤ hi4 from hc_); clear hc_; have n0_ := Aside0.mk (hbox); have n1_ := Aside0.mk (Below.refl w2.heap.size w2); have n2_ := Aside0.mk (below_step HB.out hbt); have n3_ := Aside0.mk ((show hi4 ≤ w2.heap.size from Nat.le_of_eq hh_)); clear HX HB HN; have BK3 := n0_; have HX := n1_; have HB := n2_; have HN := n3_; clear n0_ n1_ n2_ n3_; have IVgb1 := Aside0.mk (show lo4 ≤ gb1 ∧ gb1 < hi4 from ⟨Nat.le_of_eq (hl_.trans hg.symm), by rw [hh_]; exact blk_lt hbox⟩); (try clear hb); (try clear hbt); (try clear hkt); (try clear hkp); (try clear hb0); (try clear hp_); (try clear hl_); (try clear hh_); (try clear hd_); clear hg hbox; have hcz5 : w2.cell? ⟨gb1, 0, none⟩ = some (.slice A0_0 l0_0.length c0_0) := (blk_cell BK3.out 0).trans rfl; have hcz6 : w2.cell? ⟨gb1, 1, none⟩ = some (.int .i64 a0_1) := (blk_cell BK3.out 1).trans rfl) | ((with_reducible refine gate_callee (f := 11) rfl ?_); refine goesL_ (some 16) rfl rfl Try.func11 (by kernel_rfl) rfl #[.agg #[.slice A0_0 l0_0.length c0_0, .int .i64 a0_1], .int .i64 1048576] rfl (by (try simp only [List.map_toArray, List.map_cons, List.map_nil]); first | done | rfl) ?_; (with_reducible refine (laws_szStore.calls k _ _ l0_0 a0_1 1048576 t7 _ ?side1 ?side2 A8.out).mono ?_); (case side1 => exact Kd.C_below HR0_0.out (below_step HB.out (by repeat (first | (with_reducible first | exact HX.out | apply below_alloc | apply pw_below_drewN | apply below_drew1) | exact HX.out)))); (case side2 => exact HC0_0.out); rintro e w9 ⟨rfl, hb⟩; refine ⟨_, rfl, ?_⟩; have hbt := below_step (by repeat (first | (with_reducible first | exact HX.out | apply below_alloc | apply pw_below_drewN | apply below_drew1) | exact HX.out)) hb; have n0_ := Aside0.mk (blk_below (g := gb1) BK3.out hbt); have n1_ := Aside0.mk (Below.refl w9.heap.size w9); have n2_ := Aside0.mk (below_step HB.out hbt); have n3_ := Aside0.mk (Nat.le_trans (Nat.le_trans HN.out (below_size (by repeat (first | (with_reducible first | exact HX.out | apply below_alloc | apply pw_below_drewN | apply below_drew1) | exact HX.out)))) hb.size); clear BK3 HX HB HN; have BK3 := n0_; have HX := n1_; have HB := n2_; have HN := n3_; clear n0_ n1_ n2_ n3_; (try clear hb); (try clear hbt); (try clear hkt); (try clear hkp); (try clear hb0); (try clear hp_); (try clear hl_); (try clear hh_); (try clear hd_); have hcz11 : w9.cell? ⟨gb1, 0, none⟩ = some (.slice A0_0 l0_0.length c0_0) := (blk_cell BK3.out 0).trans rfl; have hcz12 : w9.cell? ⟨gb1, 1, none⟩ = some (.int .i64 a0_1) := (blk_cell BK3.out 1).trans rfl) | ((with_reducible refine gate_callee (f := 13) rfl ?_); refine goesL_ (some 21) rfl rfl Try.func13 (by kernel_rfl) rfl #[.agg #[.slice A0_0 l0_0.length c0_0, .int .i64 a0_1]] rfl (by (try simp only [List.map_toArray, List.map_cons, List.map_nil]); first | done | rfl) ?_; (with_reducible refine (laws_toStore.calls k _ _ l0_0 a0_1 t13 t14 _ ?side1 ?side2 A15.out).mono ?_); (case side1 => exact Kd.C_below HR0_0.out (below_step HB.out (by repeat (first | (with_reducible first | exact HX.out | apply below_alloc | apply pw_below_drewN | apply below_drew1) | exact HX.out)))); (case side2 => exact HC0_0.out); rintro e w16 ⟨vt13, rfl, ho0, hb⟩; refine ⟨_, rfl, ?_⟩; have hbt := below_step (by repeat (first | (with_reducible first | exact HX.out | apply below_alloc | apply pw_below_drewN | apply below_drew1) | exact HX.out)) hb; obtain ⟨lo17, hi17, hl_, hh_, hc_⟩ := lw9_iv (Nat.le_trans HN.out (below_size (by repeat (first | (with_reducible first | exact HX.out | apply below_alloc | apply pw_below_drewN | apply below_drew1) | exact HX.out)))) hb.size; have CHlo17 := Aside0.mk (show hi4 ≤ lo17 ∧ lo17 ≤ hi17 from hc_); clear hc_; have n0_ := Aside0.mk (blk_below (g := gb1) BK3.out hbt); have n1_ := Aside0.mk (Kd.S_mono (ok' := fun k_ => lo17 ≤ k_ ∧ k_ < hi17) (Kd.S_lower (Kd.S_bound ho0) (below_size (below_step HB.out (by repeat (first | (with_reducible first | exact HX.out | apply below_alloc | apply pw_below_drewN | apply below_drew1) | exact HX.out))))) (fun k_ hk_ => ⟨by rw [hl_]; exact hk_.2.1, by rw [hh_]; exact hk_.2.2.1⟩)); have n2_ := Aside0.mk (Below.refl w16.heap.size w16); have n3_ := Aside0.mk (below_step HB.out hbt); have n4_ := Aside0.mk ((show hi17 ≤ w16.heap.size from Nat.le_of_eq hh_)); clear BK3 HX HB HN; have BK3 := n0_; have HO18 := n1_; have HX := n2_; have HB := n3_; have HN := n4_; clear n0_ n1_ n2_ n3_ n4_; (try clear hb); (try clear hbt); (try clear hkt); (try clear hkp); (try clear hb0); (try clear hp_); (try clear hl_); (try clear hh_); (try clear hd_); (try clear ho0); obtain ⟨Aoo19, coo19, eoo19⟩ := Kd.S_slice HO18.out; (first | subst eoo19 | (injection eoo19 with f1_ f2_ f3_; have f4_ := f1_.symm; have f5_ := f3_.symm; clear f1_ f2_ f3_; subst f4_; subst f5_)); have hcz20 : w16.cell? ⟨gb1, 0, none⟩ = some (.slice A0_0 l0_0.length c0_0) := (blk_cell BK3.out 0).trans rfl; have hcz21 : w16.cell? ⟨gb1, 1, none⟩ = some (.int .i64 a0_1) := (blk_cell BK3.out 1).trans rfl) | ((with_reducible refine gate_callee (f := 30) rfl ?_); refine goesL_ (some 22) rfl rfl Try.func30 (by kernel_rfl) rfl #[.agg #[.slice Aoo19 t13.length coo19, .int .i64 t14]] rfl (by (try simp only [List.map_toArray, List.map_cons, List.map_nil]); first | done | rfl) ?_; (with_reducible refine (spec_Begin.calls k _ _ t13 t14 t22 t23 t24 t25 _ ?side1 ?side2 A26.out).mono ?_); (case side1 => exact Kd.C_below (Kd.S_reads' HO18.out).2.2 (by repeat (first | (with_reducible first | exact HX.out | apply below_alloc | apply pw_below_drewN | apply below_drew1) | exact HX.out))); (case side2 => have z_ := Kd.S_reads' HO18.out; have y_ := z_.1; have x_ := z_.2.1; omega); rintro e w27 ⟨vt23, vt24, rfl, ho0, ho1, hb⟩; refine ⟨_, rfl, ?_⟩; have hbt := below_step (by repeat (first | (with_reducible first | exact HX.out | apply below_alloc | apply pw_below_drewN | apply below_drew1) | exact HX.out)) hb; obtain ⟨lo28, hi28, hl_, hh_, hc_⟩ := lw9_iv (Nat.le_trans HN.out (below_size (by repeat (first | (with_reducible first | exact HX.out | apply below_alloc | apply pw_below_drewN | apply below_drew1) | exact HX.out)))) hb.size; have CHlo28 := Aside0.mk (show hi17 ≤ lo28 ∧ lo28 ≤ hi28 from hc_); clear hc_; have n0_ := Aside0.mk (blk_below (g := gb1) BK3.out hbt); have n1_ := Aside0.mk (Kd.S_below HO18.out hbt); have n2_ := Aside0.mk (Kd.R_mono (ok' := fun k_ => lo28 ≤ k_ ∧ k_ < hi28) (Kd.R_lower (Kd.R_bound ho0) (below_size (below_step HB.out (by repeat (first | (with_reducible first | exact HX.out | apply below_alloc | apply pw_below_drewN | apply below_drew1) | exact HX.out))))) (fun k_ hk_ => ⟨by rw [hl_]; exact hk_.2.1, by rw [hh_]; exact hk_.2.2.1⟩)); have n3_ := Aside0.mk (Kd.R_mono (ok' := fun k_ => lo28 ≤ k_ ∧ k_ < hi28) (Kd.R_lower (Kd.R_bound ho1) (below_size (below_step HB.out (by repeat (first | (with_reducible first | exact HX.out | apply below_alloc | apply pw_below_drewN | apply below_drew1) | exact HX.out))))) (fun k_ hk_ => ⟨by rw [hl_]; exact hk_.2.1, by rw [hh_]; exact hk_.2.2.1⟩)); have n4_ := Aside0.mk (Below.refl w27.heap.size w27); have n5_ := Aside0.mk (below_step HB.out hbt); have n6_ := Aside0.mk ((show hi28 ≤ w27.heap.size from Nat.le_of_eq hh_)); clear BK3 HO18 HX HB HN; have BK3 := n0_; have HO18 := n1_; have HO29 := n2_; have HO30 := n3_; have HX := n4_; have HB := n5_; have HN := n6_; clear n0_ n1_ n2_ n3_ n4_ n5_ n6_; (try clear hb); (try clear hbt); (try clear hkt); (try clear hkp); (try clear hb0); (try clear hp_); (try clear hl_); (try clear hh_); (try clear hd_); (try clear ho0); obtain ⟨Aoo31, coo31, eoo31⟩ := Kd.R_slice HO29.out; (first | subst eoo31 | (injection eoo31 with f1_ f2_ f3_; have f4_ := f1_.symm; have f5_ := f3_.symm; clear f1_ f2_ f3_; subst f4_; subst f5_)); (try clear ho1); obtain ⟨Aoo32, coo32, eoo32⟩ := Kd.R_slice HO30.out; (first | subst eoo32 | (injection eoo32 with f1_ f2_ f3_; have f4_ := f1_.symm; have f5_ := f3_.symm; clear f1_ f2_ f3_; subst f4_; subst f5_)); have hcz33 : w27.cell? ⟨gb1, 0, none⟩ = some (.slice A0_0 l0_0.length c0_0) := (blk_cell BK3.out 0).trans rfl; have hcz34 : w27.cell? ⟨gb1, 1, none⟩ = some (.int .i64 a0_1) := (blk_cell BK3.out 1).trans rfl) | ((with_reducible refine gate_dst (N := 4) rfl ?_); refine box_event ?hg (N := 4) ?hd (cs := #[.int .i64 0, .slice none 0 0, .slice none 0 0]) (t := 50) ?hr ?_; (case hd => rfl); (case hg => rfl); (case hr => first | (go_simp; done) | (go_simp; rfl)); intro gb35 hg w36 hbox hb; have GEgb35 := Aside0.mk (by rw [hg]; exact (below_size (by repeat (first | (with_reducible first | exact HX.out | apply below_alloc | apply pw_below_drewN | apply below_drew1) | exact HX.out))) : _ ≤ gb35); have BK37r := Aside0.mk hbox; have n0_ := Aside0.mk (below_step (by repeat (first | (with_reducible first | exact HX.out | apply below_alloc | apply pw_below_drewN | apply below_drew1) | exact HX.out)) hb); have hnb38 : gb35 ≠ gb1 := (fun e_ => by have z1_ := GEgb35.out; have z2_ := blk_lt BK3.out; omega); have hnb38c : gb1 ≠ gb35 := fun e_ => hnb38 e_.symm; clear HX; have HX := n0_; clear n0_ hb hg; have hcz39 : w36.cell? ⟨gb35, 0, none⟩ = some (.int .i64 0) := (blk_cell BK37r.out 0).trans rfl; have hfz40 := blk_frozen BK37r.out 0; have hcz41 : w36.cell? ⟨gb35, 1, none⟩ = some (.slice none 0 0) := (blk_cell BK37r.out 1).trans rfl; have hfz42 := blk_frozen BK37r.out 1; have hcz43 : w36.cell? ⟨gb35, 2, none⟩ = some (.slice none 0 0) := (blk_cell BK37r.out 2).trans rfl; have hfz44 := blk_frozen BK37r.out 2; have hcz45 : w36.cell? ⟨gb1, 0, none⟩ = some (.slice A0_0 l0_0.length c0_0) := (blk_cell (blk_below (g := gb1) BK3.out HX.out) 0).trans rfl; have hcz46 : w36.cell? ⟨gb1, 1, none⟩ = some (.int .i64 a0_1) := (blk_cell (blk_below (g := gb1) BK3.out HX.out) 1).trans rfl; clear hbox) | ((with_reducible refine gate_callee (f := 13) rfl ?_); refine goesL_ (some 26) rfl rfl Try.func13 (by kernel_rfl) rfl #[.agg #[.slice A0_0 l0_0.length c0_0, .int .i64 a0_1]] rfl (by (try simp only [List.map_toArray, List.map_cons, List.map_nil]); first | done | rfl) ?_; (with_reducible refine (laws_toStore.calls k _ _ l0_0 a0_1 t47 t48 _ ?side1 ?side2 A49.out).mono ?_); (case side1 => exact Kd.C_below HR0_0.out (below_step HB.out (by repeat (first | (with_reducible first | exact HX.out | apply below_alloc | apply pw_below_drewN | apply below_drew1 | refine below_set ?_ GEgb35.out) | exact HX.out)))); (case side2 => exact HC0_0.out); rintro e w50 ⟨vt47, rfl, ho0, hb⟩; refine ⟨_, rfl, ?_⟩; have hp_ := lw9_lt (g := gb35) (o := .cells #[.int .i64 t22, .slice Aoo31 t23.length coo31, .slice Aoo32 t24.length coo32] 50 (0, 0)) hb (by (with_reducible repeat (first | refine blk_drewN ?_ _ | refine blk_drew ?_ | refine blk_alloc ?_ _)); refine blk_put (cs := #[.int .i64 t22, .slice Aoo31 t23.length coo31, .slice none 0 0]) ?_ 2 _ rfl; (with_reducible repeat (first | refine blk_drewN ?_ _ | refine blk_drew ?_ | refine blk_alloc ?_ _)); refine blk_put (cs := #[.int .i64 t22, .slice none 0 0, .slice none 0 0]) ?_ 1 _ rfl; (with_reducible repeat (first | refine blk_drewN ?_ _ | refine blk_drew ?_ | refine blk_alloc ?_ _)); refine blk_put (cs := #[.int .i64 0, .slice none 0 0, .slice none 0 0]) ?_ 0 _ rfl; (with_reducible repeat (first | refine blk_drewN ?_ _ | refine blk_drew ?_ | refine blk_alloc ?_ _)); exact BK37r.out); have CHgb35 := Aside0.mk (show hi28 ≤ gb35 from Nat.le_trans HN.out GEgb35.out); have hbt := below_step (by repeat (first | (with_reducible first | exact HX.out | apply below_alloc | apply pw_below_drewN | apply below_drew1 | refine below_set ?_ GEgb35.out) | exact HX.out)) hb; obtain ⟨lo51, hi51, hl_, hh_, hc_⟩ := lw9_iv (hp_.1) hb.size; have CHlo51 := Aside0.mk (show gb35 + 1 ≤ lo51 ∧ lo51 ≤ hi51 from hc_); clear hc_; have n0_ := Aside0.mk (hp_.2); have n1_ := Aside0.mk (blk_below (g := gb1) BK3.out hbt); have n2_ := Aside0.mk (Kd.S_below HO18.out hbt); have n3_ := Aside0.mk (Kd.R_below HO29.out hbt); have n4_ := Aside0.mk (Kd.R_below HO30.out hbt); have n5_ := Aside0.mk (Kd.S_mono (ok' := fun k_ => lo51 ≤ k_ ∧ k_ < hi51) (Kd.S_lower (Kd.S_bound ho0) (below_size (below_step HB.out (by repeat (first | (with_reducible first | exact HX.out | apply below_alloc | apply pw_below_drewN | apply below_drew1 | refine below_set ?_ GEgb35.out) | exact HX.out))))) (fun k_ hk_ => ⟨by rw [hl_]; exact hk_.2.1, by rw [hh_]; exact hk_.2.2.1⟩)); have n6_ := Aside0.mk (Below.refl w50.heap.size w50); have n7_ := Aside0.mk (below_step HB.out hbt); have n8_ := Aside0.mk ((show hi51 ≤ w50.heap.size from Nat.le_of_eq hh_)); clear BK3 HO18 HO29 HO30 HX HB HN; have BK37 := n0_; have BK3 := n1_; have HO18 := n2_; have HO29 := n3_; have HO30 := n4_; have HO52 := n5_; have HX := n6_; have HB := n7_; have HN := n8_; clear n0_ n1_ n2_ n3_ n4_ n5_ n6_ n7_ n8_; have IVgb35 := Aside0.mk (show gb35 ≤ gb35 ∧ gb35 < gb35 + 1 from ⟨Nat.le_refl _, Nat.lt_succ_self _⟩); (try clear hb); (try clear hbt); (try clear hkt); (try clear hkp); (try clear hb0); (try clear hp_); (try clear hl_); (try clear hh_); (try clear hd_); (try clear ho0); obtain ⟨Aoo53, coo53, eoo53⟩ := Kd.S_slice HO52.out; (first | subst eoo53 | (injection eoo53 with f1_ f2_ f3_; have f4_ := f1_.symm; have f5_ := f3_.symm; clear f1_ f2_ f3_; subst f4_; subst f5_)); have hcz54 : w50.cell? ⟨gb1, 0, none⟩ = some (.slice A0_0 l0_0.length c0_0) := (blk_cell BK3.out 0).trans rfl; have hcz55 : w50.cell? ⟨gb1, 1, none⟩ = some (.int .i64 a0_1) := (blk_cell BK3.out 1).trans rfl; have hcz56 : w50.cell? ⟨gb35, 0, none⟩ = some (.int .i64 t22) := (blk_cell BK37.out 0).trans rfl; have hcz57 : w50.cell? ⟨gb35, 1, none⟩ = some (.slice Aoo31 t23.length coo31) := (blk_cell BK37.out 1).trans rfl; have hcz58 : w50.cell? ⟨gb35, 2, none⟩ = some (.slice Aoo32 t24.length coo32) := (blk_cell BK37.out 2).trans rfl) | ((with_reducible refine gate_dst (N := 6) rfl ?_); refine box_event ?hg (N := 6) ?hd (cs := #[.slice none 0 0, .int .i64 0]) (t := 29) ?hr ?_; (case hd => rfl); (case hg => rfl); (case hr => first | (go_simp; done) | (go_simp; rfl)); intro gb59 hg w60 hbox hb; have GEgb59 := Aside0.mk (by rw [hg]; exact (below_size (by repeat (first | (with_reducible first | exact HX.out | apply below_alloc | apply pw_below_drewN | apply below_drew1) | exact HX.out))) : _ ≤ gb59); have BK61r := Aside0.mk hbox; have n0_ := Aside0.mk (below_step (by repeat (first | (with_reducible first | exact HX.out | apply below_alloc | apply pw_below_drewN | apply below_drew1) | exact HX.out)) hb); have hnb62 : gb59 ≠ gb1 := (fun e_ => by have z1_ := GEgb59.out; have z2_ := blk_lt BK3.out; omega); have hnb62c : gb1 ≠ gb59 := fun e_ => hnb62 e_.symm; have hnb63 : gb59 ≠ gb35 := (fun e_ => by have z1_ := GEgb59.out; have z2_ := blk_lt BK37.out; omega); have hnb63c : gb35 ≠ gb59 := fun e_ => hnb63 e_.symm; clear HX; have HX := n0_; clear n0_ hb hg; have hcz64 : w60.cell? ⟨gb59, 0, none⟩ = some (.slice none 0 0) := (blk_cell BK61r.out 0).trans rfl; have hfz65 := blk_frozen BK61r.out 0; have hcz66 : w60.cell? ⟨gb59, 1, none⟩ = some (.int .i64 0) := (blk_cell BK61r.out 1).trans rfl; have hfz67 := blk_frozen BK61r.out 1; have hcz68 : w60.cell? ⟨gb1, 0, none⟩ = some (.slice A0_0 l0_0.length c0_0) := (blk_cell (blk_below (g := gb1) BK3.out HX.out) 0).trans rfl; have hcz69 : w60.cell? ⟨gb1, 1, none⟩ = some (.int .i64 a0_1) := (blk_cell (blk_below (g := gb1) BK3.out HX.out) 1).trans rfl; have hcz70 : w60.cell? ⟨gb35, 0, none⟩ = some (.int .i64 t22) := (blk_cell (blk_below (g := gb35) BK37.out HX.out) 0).trans rfl; have hcz71 : w60.cell? ⟨gb35, 1, none⟩ = some (.slice Aoo31 t23.length coo31) := (blk_cell (blk_below (g := gb35) BK37.out HX.out) 1).trans rfl; have hcz72 : w60.cell? ⟨gb35, 2, none⟩ = some (.slice Aoo32 t24.length coo32) := (blk_cell (blk_below (g := gb35) BK37.out HX.out) 2).trans rfl; clear hbox) | ((with_reducible refine gate_callee (f := 31) rfl ?_); refine goesL_ (some 29) rfl rfl Try.func31 (by kernel_rfl) rfl #[.agg #[.slice Aoo53 t47.length coo53, .int .i64 t48]] rfl (by (try simp only [List.map_toArray, List.map_cons, List.map_nil]); first | done | rfl) ?_; (with_reducible refine (impl_Begin.calls k _ _ t47 t48 t73 t74 t75 t76 _ ?side1 ?side2 A77.out).mono ?_); (case side1 => exact Kd.C_below (Kd.S_reads' HO52.out).2.2 (by repeat (first | (with_reducible first | exact HX.out | apply below_alloc | apply pw_below_drewN | apply below_drew1 | refine below_set ?_ GEgb59.out) | exact HX.out))); (case side2 => have z_ := Kd.S_reads' HO52.out; have y_ := z_.1; have x_ := z_.2.1; omega); rintro e w78 ⟨vt74, vt75, rfl, ho0, ho1, hb⟩; refine ⟨_, rfl, ?_⟩; have hp_ := lw9_lt (g := gb59) (o := .cells #[.slice Aoo53 t47.length coo53, .int .i64 t48] 29 (0, 0)) hb (by (with_reducible repeat (first | refine blk_drewN ?_ _ | refine blk_drew ?_ | refine blk_alloc ?_ _)); refine blk_put (cs := #[.slice Aoo53 t47.length coo53, .int .i64 0]) ?_ 1 _ rfl; (with_reducible repeat (first | refine blk_drewN ?_ _ | refine blk_drew ?_ | refine blk_alloc ?_ _)); refine blk_put (cs := #[.slice none 0 0, .int .i64 0]) ?_ 0 _ rfl; (with_reducible repeat (first | refine blk_drewN ?_ _ | refine blk_drew ?_ | refine blk_alloc ?_ _)); exact BK61r.out); have CHgb59 := Aside0.mk (show hi51 ≤ gb59 from Nat.le_trans HN.out GEgb59.out); have hbt := below_step (by repeat (first | (with_reducible first | exact HX.out | apply below_alloc | apply pw_below_drewN | apply below_drew1 | refine below_set ?_ GEgb59.out) | exact HX.out)) hb; obtain ⟨lo79, hi79, hl_, hh_, hc_⟩ := lw9_iv (hp_.1) hb.size; have CHlo79 := Aside0.mk (show gb59 + 1 ≤ lo79 ∧ lo79 ≤ hi79 from hc_); clear hc_; have n0_ := Aside0.mk (hp_.2); have n1_ := Aside0.mk (blk_below (g := gb1) BK3.out hbt); have n2_ := Aside0.mk (Kd.S_below HO18.out hbt); have n3_ := Aside0.mk (Kd.R_below HO29.out hbt); have n4_ := Aside0.mk (Kd.R_below HO30.out hbt); have n5_ := Aside0.mk (blk_below (g := gb35) BK37.out hbt); have n6_ := Aside0.mk (Kd.S_below HO52.out hbt); have n7_ := Aside0.mk (Kd.R_mono (ok' := fun k_ => lo79 ≤ k_ ∧ k_ < hi79) (Kd.R_lower (Kd.R_bound ho0) (below_size (below_step HB.out (by repeat (first | (with_reducible first | exact HX.out | apply below_alloc | apply pw_below_drewN | apply below_drew1 | refine below_set ?_ GEgb59.out) | exact HX.out))))) (fun k_ hk_ => ⟨by rw [hl_]; exact hk_.2.1, by rw [hh_]; exact hk_.2.2.1⟩)); have n8_ := Aside0.mk (Kd.R_mono (ok' := fun k_ => lo79 ≤ k_ ∧ k_ < hi79) (Kd.R_lower (Kd.R_bound ho1) (below_size (below_step HB.out (by repeat (first | (with_reducible first | exact HX.out | apply below_alloc | apply pw_below_drewN | apply below_drew1 | refine below_set ?_ GEgb59.out) | exact HX.out))))) (fun k_ hk_ => ⟨by rw [hl_]; exact hk_.2.1, by rw [hh_]; exact hk_.2.2.1⟩)); have n9_ := Aside0.mk (Below.refl w78.heap.size w78); have n10_ := Aside0.mk (below_step HB.out hbt); have n11_ := Aside0.mk ((show hi79 ≤ w78.heap.size from Nat.le_of_eq hh_)); clear BK3 HO18 HO29 HO30 BK37 HO52 HX HB HN; have BK61 := n0_; have BK3 := n1_; have HO18 := n2_; have HO29 := n3_; have HO30 := n4_; have BK37 := n5_; have HO52 := n6_; have HO80 := n7_; have HO81 := n8_; have HX := n9_; have HB := n10_; have HN := n11_; clear n0_ n1_ n2_ n3_ n4_ n5_ n6_ n7_ n8_ n9_ n10_ n11_; have IVgb59 := Aside0.mk (show gb59 ≤ gb59 ∧ gb59 < gb59 + 1 from ⟨Nat.le_refl _, Nat.lt_succ_self _⟩); (try clear hb); (try clear hbt); (try clear hkt); (try clear hkp); (try clear hb0); (try clear hp_); (try clear hl_); (try clear hh_); (try clear hd_); (try clear ho0); obtain ⟨Aoo82, coo82, eoo82⟩ := Kd.R_slice HO80.out; (first | subst eoo82 | (injection eoo82 with f1_ f2_ f3_; have f4_ := f1_.symm; have f5_ := f3_.symm; clear f1_ f2_ f3_; subst f4_; subst f5_)); (try clear ho1); obtain ⟨Aoo83, coo83, eoo83⟩ := Kd.R_slice HO81.out; (first | subst eoo83 | (injection eoo83 with f1_ f2_ f3_; have f4_ := f1_.symm; have f5_ := f3_.symm; clear f1_ f2_ f3_; subst f4_; subst f5_)); have hcz84 : w78.cell? ⟨gb1, 0, none⟩ = some (.slice A0_0 l0_0.length c0_0) := (blk_cell BK3.out 0).trans rfl; have hcz85 : w78.cell? ⟨gb1, 1, none⟩ = some (.int .i64 a0_1) := (blk_cell BK3.out 1).trans rfl; have hcz86 : w78.cell? ⟨gb35, 0, none⟩ = some (.int .i64 t22) := (blk_cell BK37.out 0).trans rfl; have hcz87 : w78.cell? ⟨gb35, 1, none⟩ = some (.slice Aoo31 t23.length coo31) := (blk_cell BK37.out 1).trans rfl; have hcz88 : w78.cell? ⟨gb35, 2, none⟩ = some (.slice Aoo32 t24.length coo32) := (blk_cell BK37.out 2).trans rfl; have hcz89 : w78.cell? ⟨gb59, 0, none⟩ = some (.slice Aoo53 t47.length coo53) := (blk_cell BK61.out 0).trans rfl; have hcz90 : w78.cell? ⟨gb59, 1, none⟩ = some (.int .i64 t48) := (blk_cell BK61.out 1).trans rfl) | ((with_reducible refine gate_dst (N := 7) rfl ?_); refine box_event ?hg (N := 7) ?hd (cs := #[.int .i64 0, .slice none 0 0, .slice none 0 0]) (t := 50) ?hr ?_; (case hd => rfl); (case hg => rfl); (case hr => first | (go_simp; done) | (go_simp; rfl)); intro gb91 hg w92 hbox hb; have GEgb91 := Aside0.mk (by rw [hg]; exact (below_size (by repeat (first | (with_reducible first | exact HX.out | apply below_alloc | apply pw_below_drewN | apply below_drew1) | exact HX.out))) : _ ≤ gb91); have BK93r := Aside0.mk hbox; have n0_ := Aside0.mk (below_step (by repeat (first | (with_reducible first | exact HX.out | apply below_alloc | apply pw_below_drewN | apply below_drew1) | exact HX.out)) hb); have hnb94 : gb91 ≠ gb1 := (fun e_ => by have z1_ := GEgb91.out; have z2_ := blk_lt BK3.out; omega); have hnb94c : gb1 ≠ gb91 := fun e_ => hnb94 e_.symm; have hnb95 : gb91 ≠ gb35 := (fun e_ => by have z1_ := GEgb91.out; have z2_ := blk_lt BK37.out; omega); have hnb95c : gb35 ≠ gb91 := fun e_ => hnb95 e_.symm; have hnb96 : gb91 ≠ gb59 := (fun e_ => by have z1_ := GEgb91.out; have z2_ := blk_lt BK61.out; omega); have hnb96c : gb59 ≠ gb91 := fun e_ => hnb96 e_.symm; clear HX; have HX := n0_; clear n0_ hb hg; have hcz97 : w92.cell? ⟨gb91, 0, none⟩ = some (.int .i64 0) := (blk_cell BK93r.out 0).trans rfl; have hfz98 := blk_frozen BK93r.out 0; have hcz99 : w92.cell? ⟨gb91, 1, none⟩ = some (.slice none 0 0) := (blk_cell BK93r.out 1).trans rfl; have hfz100 := blk_frozen BK93r.out 1; have hcz101 : w92.cell? ⟨gb91, 2, none⟩ = some (.slice none 0 0) := (blk_cell BK93r.out 2).trans rfl; have hfz102 := blk_frozen BK93r.out 2; have hcz103 : w92.cell? ⟨gb1, 0, none⟩ = some (.slice A0_0 l0_0.length c0_0) := (blk_cell (blk_below (g := gb1) BK3.out HX.out) 0).trans rfl; have hcz104 : w92.cell? ⟨gb1, 1, none⟩ = some (.int .i64 a0_1) := (blk_cell (blk_below (g := gb1) BK3.out HX.out) 1).trans rfl; have hcz105 : w92.cell? ⟨gb35, 0, none⟩ = some (.int .i64 t22) := (blk_cell (blk_below (g := gb35) BK37.out HX.out) 0).trans rfl; have hcz106 : w92.cell? ⟨gb35, 1, none⟩ = some (.slice Aoo31 t23.length coo31) := (blk_cell (blk_below (g := gb35) BK37.out HX.out) 1).trans rfl; have hcz107 : w92.cell? ⟨gb35, 2, none⟩ = some (.slice Aoo32 t24.length coo32) := (blk_cell (blk_below (g := gb35) BK37.out HX.out) 2).trans rfl; have hcz108 : w92.cell? ⟨gb59, 0, none⟩ = some (.slice Aoo53 t47.length coo53) := (blk_cell (blk_below (g := gb59) BK61.out HX.out) 0).trans rfl; have hcz109 : w92.cell? ⟨gb59, 1, none⟩ = some (.int .i64 t48) := (blk_cell (blk_below (g := gb59) BK61.out HX.out) 1).trans rfl; clear hbox) | ((with_reducible refine gate_callee (f := 32) rfl ?_); refine goesL_ (some 34) rfl rfl Try.func32 (by kernel_rfl) rfl #[.agg #[.int .i64 t73, .slice Aoo82 t74.length coo82, .slice Aoo83 t75.length coo83], .agg #[.int .i64 t22, .slice Aoo31 t23.length coo31, .slice Aoo32 t24.length coo32]] rfl (by (try simp only [List.map_toArray, List.map_cons, List.map_nil]); first | done | rfl) ?_; (with_reducible refine (laws_eqTxn.calls k t73 _ _ t74 _ _ t75 t22 _ _ t23 _ _ t24 true _ ?side1 ?side2 ?side3 ?side4 ?side5 ?side6 ?side7 ?side8 A111.out).mono ?_); (case side1 => exact Kd.C_below (Kd.R_reads' HO80.out).2.2 (by repeat (first | (with_reducible first | exact HX.out | apply below_alloc | apply pw_below_drewN | apply below_drew1 | refine below_set ?_ GEgb91.out) | exact HX.out))); (case side2 => have z_ := Kd.R_reads' HO80.out; have y_ := z_.1; have x_ := z_.2.1; omega); (case side3 => exact Kd.C_below (Kd.R_reads' HO81.out).2.2 (by repeat (first | (with_reducible first | exact HX.out | apply below_alloc | apply pw_below_drewN | apply below_drew1 | refine below_set ?_ GEgb91.out) | exact HX.out))); (case side4 => have z_ := Kd.R_reads' HO81.out; have y_ := z_.1; have x_ := z_.2.1; omega); (case side5 => exact Kd.C_below (Kd.R_reads' HO29.out).2.2 (by repeat (first | (with_reducible first | exact HX.out | apply below_alloc | apply pw_below_drewN | apply below_drew1 | refine below_set ?_ GEgb91.out) | exact HX.out))); (case side6 => have z_ := Kd.R_reads' HO29.out; have y_ := z_.1; have x_ := z_.2.1; omega); (case side7 => exact Kd.C_below (Kd.R_reads' HO30.out).2.2 (by repeat (first | (with_reducible first | exact HX.out | apply below_alloc | apply pw_below_drewN | apply below_drew1 | refine below_set ?_ GEgb91.out) | exact HX.out))); (case side8 => have z_ := Kd.R_reads' HO30.out; have y_ := z_.1; have x_ := z_.2.1; omega); rintro e w112 ⟨rfl, hb⟩; refine ⟨_, rfl, ?_⟩; have hp_ := lw9_lt (g := gb91) (o := .cells #[.int .i64 t73, .slice Aoo82 t74.length coo82, .slice Aoo83 t75.length coo83] 50 (0, 0)) hb (by (with_reducible repeat (first | refine blk_drewN ?_ _ | refine blk_drew ?_ | refine blk_alloc ?_ _)); refine blk_put (cs := #[.int .i64 t73, .slice Aoo82 t74.length coo82, .slice none 0 0]) ?_ 2 _ rfl; (with_reducible repeat (first | refine blk_drewN ?_ _ | refine blk_drew ?_ | refine blk_alloc ?_ _)); refine blk_put (cs := #[.int .i64 t73, .slice none 0 0, .slice none 0 0]) ?_ 1 _ rfl; (with_reducible repeat (first | refine blk_drewN ?_ _ | refine blk_drew ?_ | refine blk_alloc ?_ _)); refine blk_put (cs := #[.int .i64 0, .slice none 0 0, .slice none 0 0]) ?_ 0 _ rfl; (with_reducible repeat (first | refine blk_drewN ?_ _ | refine blk_drew ?_ | refine blk_alloc ?_ _)); exact BK93r.out); have CHgb91 := Aside0.mk (show hi79 ≤ gb91 from Nat.le_trans HN.out GEgb91.out); have hbt := below_step (by repeat (first | (with_reducible first | exact HX.out | apply below_alloc | apply pw_below_drewN | apply below_drew1 | refine below_set ?_ GEgb91.out) | exact HX.out)) hb; have n0_ := Aside0.mk (hp_.2); have n1_ := Aside0.mk (blk_below (g := gb1) BK3.out hbt); have n2_ := Aside0.mk (Kd.S_below HO18.out hbt); have n3_ := Aside0.mk (Kd.R_below HO29.out hbt); have n4_ := Aside0.mk (Kd.R_below HO30.out hbt); have n5_ := Aside0.mk (blk_below (g := gb35) BK37.out hbt); have n6_ := Aside0.mk (Kd.S_below HO52.out hbt); have n7_ := Aside0.mk (blk_below (g := gb59) BK61.out hbt); have n8_ := Aside0.mk (Kd.R_below HO80.out hbt); have n9_ := Aside0.mk (Kd.R_below HO81.out hbt); have n10_ := Aside0.mk (Below.refl w112.heap.size w112); have n11_ := Aside0.mk (below_step HB.out hbt); have n12_ := Aside0.mk (Nat.le_trans (hp_.1) hb.size); clear BK3 HO18 HO29 HO30 BK37 HO52 BK61 HO80 HO81 HX HB HN; have BK93 := n0_; have BK3 := n1_; have HO18 := n2_; have HO29 := n3_; have HO30 := n4_; have BK37 := n5_; have HO52 := n6_; have BK61 := n7_; have HO80 := n8_; have HO81 := n9_; have HX := n10_; have HB := n11_; have HN := n12_; clear n0_ n1_ n2_ n3_ n4_ n5_ n6_ n7_ n8_ n9_ n10_ n11_ n12_; have IVgb91 := Aside0.mk (show gb91 ≤ gb91 ∧ gb91 < gb91 + 1 from ⟨Nat.le_refl _, Nat.lt_succ_self _⟩); (try clear hb); (try clear hbt); (try clear hkt); (try clear hkp); (try clear hb0); (try clear hp_); (try clear hl_); (try clear hh_); (try clear hd_); have hcz114 : w112.cell? ⟨gb1, 0, none⟩ = some (.slice A0_0 l0_0.length c0_0) := (blk_cell BK3.out 0).trans rfl; have hcz115 : w112.cell? ⟨gb1, 1, none⟩ = some (.int .i64 a0_1) := (blk_cell BK3.out 1).trans rfl; have hcz116 : w112.cell? ⟨gb35, 0, none⟩ = some (.int .i64 t22) := (blk_cell BK37.out 0).trans rfl; have hcz117 : w112.cell? ⟨gb35, 1, none⟩ = some (.slice Aoo31 t23.length coo31) := (blk_cell BK37.out 1).trans rfl; have hcz118 : w112.cell? ⟨gb35, 2, none⟩ = some (.slice Aoo32 t24.length coo32) := (blk_cell BK37.out 2).trans rfl; have hcz119 : w112.cell? ⟨gb59, 0, none⟩ = some (.slice Aoo53 t47.length coo53) := (blk_cell BK61.out 0).trans rfl; have hcz120 : w112.cell? ⟨gb59, 1, none⟩ = some (.int .i64 t48) := (blk_cell BK61.out 1).trans rfl; have hcz121 : w112.cell? ⟨gb91, 0, none⟩ = some (.int .i64 t73) := (blk_cell BK93.out 0).trans rfl; have hcz122 : w112.cell? ⟨gb91, 1, none⟩ = some (.slice Aoo82 t74.length coo82) := (blk_cell BK93.out 1).trans rfl; have hcz123 : w112.cell? ⟨gb91, 2, none⟩ = some (.slice Aoo83 t75.length coo83) := (blk_cell BK93.out 2).trans rfl))
  try go_wp2
  have hdr_ := Aside0.mk (below_drew1 HX.out)
  refine start_ (n := 5) (S := fun w' => w'.cell? ⟨gb59, 0, none⟩ = some (.slice Aoo53 t47.length coo53) ∧ w'.cell? ⟨gb59, 1, none⟩ = some (.int .i64 t48) ∧ w'.cell? ⟨gb1, 0, none⟩ = some (.slice A0_0 l0_0.length c0_0) ∧ w'.cell? ⟨gb1, 1, none⟩ = some (.int .i64 a0_1)) (ds := []) #[false, false, false, false, false] (by kernel_rfl) rfl rfl ⟨(blk_cell (blk_below (g := gb59) BK61.out hdr_.out) 0).trans rfl, (blk_cell (blk_below (g := gb59) BK61.out hdr_.out) 1).trans rfl, (blk_cell (blk_below (g := gb1) BK3.out hdr_.out) 0).trans rfl, (blk_cell (blk_below (g := gb1) BK3.out hdr_.out) 1).trans rfl⟩ (fun hHeld => ?_)
  generalize w112.drew = w124 at hdr_ hHeld ⊢
  clear HX
  have HX := hdr_
  clear hdr_
  refine take_ (i := 0) (N := some 41) (v := ?_) (a' := ?_) #[true, false, false, false, false] rfl rfl (by kernel_rfl) (fun _ _ _ h => h) (Or.inl ⟨by rfl, ?_⟩) hHeld ?_ ?_
  rotate_left
  ·rintro w' ⟨s0, s1, s2, s3⟩
   go_simp
   with_reducible rfl
  rotate_left
  ·simp only [Act.put, List.setIfInBounds_toArray, List.set_cons_zero, List.set_cons_succ, i64_w, i32_w]
   rfl
  refine take_ (i := 1) (N := some 42) (v := ?_) (a' := ?_) #[true, true, false, false, false] rfl rfl (by kernel_rfl) (fun _ _ _ h => h) (Or.inl ⟨by rfl, ?_⟩) hHeld ?_ ?_
  rotate_left
  ·rintro w' ⟨s0, s1, s2, s3⟩
   go_simp
   with_reducible rfl
  rotate_left
  ·simp only [Act.put, List.setIfInBounds_toArray, List.set_cons_zero, List.set_cons_succ, i64_w, i32_w]
   rfl
  refine one_ (i := 2) (N := some 43) #[true, true, true, false, false] rfl rfl (by kernel_rfl) (by decide) (fun K hK => ?_)
  refine goes_ Try.func13 (by kernel_rfl) rfl #[.agg #[.slice A0_0 l0_0.length c0_0, .int .i64 a0_1]] (by rfl) rfl rfl (by (try simp only [List.map_toArray, List.map_cons, List.map_nil]); first | done | rfl) ?_
  (with_reducible refine (laws_toStore.calls k _ _ l0_0 a0_1 t125 t126 _ ?side1 ?side2 A127.out).mono ?_)
  (case side1 => exact Kd.C_below HR0_0.out (below_step HB.out (by repeat (first | (with_reducible first | exact HX.out | apply below_alloc | apply pw_below_drewN | apply below_drew1) | exact HX.out))))
  (case side2 => exact HC0_0.out)
  rintro e w128 ⟨vt125, rfl, ho0, hb⟩
  refine ⟨_, rfl, ?_⟩
  have hbt := below_step (by repeat (first | (with_reducible first | exact HX.out | apply below_alloc | apply pw_below_drewN | apply below_drew1) | exact HX.out)) hb
  obtain ⟨lo129, hi129, hl_, hh_, hc_⟩ := lw9_iv (Nat.le_trans HN.out (below_size (by repeat (first | (with_reducible first | exact HX.out | apply below_alloc | apply pw_below_drewN | apply below_drew1) | exact HX.out)))) hb.size
  have CHlo129 := Aside0.mk (show gb91 + 1 ≤ lo129 ∧ lo129 ≤ hi129 from hc_)
  clear hc_
  have n0_ := Aside0.mk (blk_below (g := gb1) BK3.out hbt)
  have n1_ := Aside0.mk (Kd.S_below HO18.out hbt)
  have n2_ := Aside0.mk (Kd.R_below HO29.out hbt)
  have n3_ := Aside0.mk (Kd.R_below HO30.out hbt)
  have n4_ := Aside0.mk (blk_below (g := gb35) BK37.out hbt)
  have n5_ := Aside0.mk (Kd.S_below HO52.out hbt)
  have n6_ := Aside0.mk (blk_below (g := gb59) BK61.out hbt)
  have n7_ := Aside0.mk (Kd.R_below HO80.out hbt)
  have n8_ := Aside0.mk (Kd.R_below HO81.out hbt)
  have n9_ := Aside0.mk (blk_below (g := gb91) BK93.out hbt)
  have n10_ := Aside0.mk (Kd.S_mono (ok' := fun k_ => lo129 ≤ k_ ∧ k_ < hi129) (Kd.S_lower (Kd.S_bound ho0) (below_size (below_step HB.out (by repeat (first | (with_reducible first | exact HX.out | apply below_alloc | apply pw_below_drewN | apply below_drew1) | exact HX.out))))) (fun k_ hk_ => ⟨by rw [hl_]; exact hk_.2.1, by rw [hh_]; exact hk_.2.2.1⟩))
  have n11_ := Aside0.mk (Below.refl w128.heap.size w128)
  have n12_ := Aside0.mk (below_step HB.out hbt)
  have n13_ := Aside0.mk ((show hi129 ≤ w128.heap.size from Nat.le_of_eq hh_))
  clear BK3 HO18 HO29 HO30 BK37 HO52 BK61 HO80 HO81 BK93 HX HB HN
  have BK3 := n0_
  have HO18 := n1_
  have HO29 := n2_
  have HO30 := n3_
  have BK37 := n4_
  have HO52 := n5_
  have BK61 := n6_
  have HO80 := n7_
  have HO81 := n8_
  have BK93 := n9_
  have HO130 := n10_
  have HX := n11_
  have HB := n12_
  have HN := n13_
  clear n0_ n1_ n2_ n3_ n4_ n5_ n6_ n7_ n8_ n9_ n10_ n11_ n12_ n13_
  (try clear hb)
  (try clear hbt)
  (try clear hkt)
  (try clear hkp)
  (try clear hb0)
  (try clear hp_)
  (try clear hl_)
  (try clear hh_)
  (try clear hd_)
  (try clear ho0)
  obtain ⟨Aoo131, coo131, eoo131⟩ := Kd.S_slice HO130.out
  (first | subst eoo131 | (injection eoo131 with f1_ f2_ f3_; have f4_ := f1_.symm; have f5_ := f3_.symm; clear f1_ f2_ f3_; subst f4_; subst f5_))
  refine hK.out _ _ ⟨(blk_cell BK61.out 0).trans rfl, (blk_cell BK61.out 1).trans rfl, (blk_cell BK3.out 0).trans rfl, (blk_cell BK3.out 1).trans rfl⟩ (fun hHeld => ?_)
  clear hK K
  refine norm_ (a' := ?_) ?_ ?_
  rotate_left
  ·show Act.put _ (some 43) _ = _
   simp only [Act.put, List.setIfInBounds_toArray, List.set_cons_zero, List.set_cons_succ, i64_w, i32_w]
   rfl
  refine one_ (i := 3) (N := some 44) #[true, true, true, true, false] rfl rfl (by kernel_rfl) (by decide) (fun K hK => ?_)
  refine goes_ Try.func15 (by kernel_rfl) rfl #[.agg #[.slice Aoo53 t47.length coo53, .int .i64 t48], .agg #[.slice Aoo131 t125.length coo131, .int .i64 t126]] (by rfl) rfl rfl (by (try simp only [List.map_toArray, List.map_cons, List.map_nil]); first | done | rfl) ?_
  (with_reducible refine (laws_eqStore.calls k _ _ t47 t48 _ _ t125 t126 true _ ?side1 ?side2 ?side3 ?side4 A133.out).mono ?_)
  (case side1 => exact Kd.C_below (Kd.S_reads' HO52.out).2.2 (by repeat (first | (with_reducible first | exact HX.out | apply below_alloc | apply pw_below_drewN | apply below_drew1) | exact HX.out)))
  (case side2 => have z_ := Kd.S_reads' HO52.out; have y_ := z_.1; have x_ := z_.2.1; omega)
  (case side3 => exact Kd.C_below (Kd.S_reads' HO130.out).2.2 (by repeat (first | (with_reducible first | exact HX.out | apply below_alloc | apply pw_below_drewN | apply below_drew1) | exact HX.out)))
  (case side4 => have z_ := Kd.S_reads' HO130.out; have y_ := z_.1; have x_ := z_.2.1; omega)
  rintro e w134 ⟨rfl, hb⟩
  refine ⟨_, rfl, ?_⟩
  have hbt := below_step (by repeat (first | (with_reducible first | exact HX.out | apply below_alloc | apply pw_below_drewN | apply below_drew1) | exact HX.out)) hb
  have n0_ := Aside0.mk (blk_below (g := gb1) BK3.out hbt)
  have n1_ := Aside0.mk (Kd.S_below HO18.out hbt)
  have n2_ := Aside0.mk (Kd.R_below HO29.out hbt)
  have n3_ := Aside0.mk (Kd.R_below HO30.out hbt)
  have n4_ := Aside0.mk (blk_below (g := gb35) BK37.out hbt)
  have n5_ := Aside0.mk (Kd.S_below HO52.out hbt)
  have n6_ := Aside0.mk (blk_below (g := gb59) BK61.out hbt)
  have n7_ := Aside0.mk (Kd.R_below HO80.out hbt)
  have n8_ := Aside0.mk (Kd.R_below HO81.out hbt)
  have n9_ := Aside0.mk (blk_below (g := gb91) BK93.out hbt)
  have n10_ := Aside0.mk (Kd.S_below HO130.out hbt)
  have n11_ := Aside0.mk (Below.refl w134.heap.size w134)
  have n12_ := Aside0.mk (below_step HB.out hbt)
  have n13_ := Aside0.mk (Nat.le_trans (Nat.le_trans HN.out (below_size (by repeat (first | (with_reducible first | exact HX.out | apply below_alloc | apply pw_below_drewN | apply below_drew1) | exact HX.out)))) hb.size)
  clear BK3 HO18 HO29 HO30 BK37 HO52 BK61 HO80 HO81 BK93 HO130 HX HB HN
  have BK3 := n0_
  have HO18 := n1_
  have HO29 := n2_
  have HO30 := n3_
  have BK37 := n4_
  have HO52 := n5_
  have BK61 := n6_
  have HO80 := n7_
  have HO81 := n8_
  have BK93 := n9_
  have HO130 := n10_
  have HX := n11_
  have HB := n12_
  have HN := n13_
  clear n0_ n1_ n2_ n3_ n4_ n5_ n6_ n7_ n8_ n9_ n10_ n11_ n12_ n13_
  (try clear hb)
  (try clear hbt)
  (try clear hkt)
  (try clear hkp)
  (try clear hb0)
  (try clear hp_)
  (try clear hl_)
  (try clear hh_)
  (try clear hd_)
  refine hK.out _ _ ⟨(blk_cell BK61.out 0).trans rfl, (blk_cell BK61.out 1).trans rfl, (blk_cell BK3.out 0).trans rfl, (blk_cell BK3.out 1).trans rfl⟩ (fun hHeld => ?_)
  clear hK K
  refine norm_ (a' := ?_) ?_ ?_
  rotate_left
  ·show Act.put _ (some 44) _ = _
   simp only [Act.put, List.setIfInBounds_toArray, List.set_cons_zero, List.set_cons_succ, i64_w, i32_w]
   rfl
  refine pure_ (i := 4) (N := some 45) (v := ?_) (a' := ?_) #[true, true, true, true, true] rfl rfl (by kernel_rfl) (fun _ _ _ h => h) (Or.inl ⟨by rfl, ?_⟩) ?_ ?_
  rotate_left
  ·intro w'
   go_simp
   with_reducible rfl
  rotate_left
  ·simp only [Act.put, List.setIfInBounds_toArray, List.set_cons_zero, List.set_cons_succ, i64_w, i32_w]
   rfl
  refine done_ (by kernel_rfl) ?_
  have hcz136 : w134.cell? ⟨gb1, 0, none⟩ = some (.slice A0_0 l0_0.length c0_0) := (blk_cell BK3.out 0).trans rfl
  have hcz137 : w134.cell? ⟨gb1, 1, none⟩ = some (.int .i64 a0_1) := (blk_cell BK3.out 1).trans rfl
  have hcz138 : w134.cell? ⟨gb35, 0, none⟩ = some (.int .i64 t22) := (blk_cell BK37.out 0).trans rfl
  have hcz139 : w134.cell? ⟨gb35, 1, none⟩ = some (.slice Aoo31 t23.length coo31) := (blk_cell BK37.out 1).trans rfl
  have hcz140 : w134.cell? ⟨gb35, 2, none⟩ = some (.slice Aoo32 t24.length coo32) := (blk_cell BK37.out 2).trans rfl
  have hcz141 : w134.cell? ⟨gb59, 0, none⟩ = some (.slice Aoo53 t47.length coo53) := (blk_cell BK61.out 0).trans rfl
  have hcz142 : w134.cell? ⟨gb59, 1, none⟩ = some (.int .i64 t48) := (blk_cell BK61.out 1).trans rfl
  have hcz143 : w134.cell? ⟨gb91, 0, none⟩ = some (.int .i64 t73) := (blk_cell BK93.out 0).trans rfl
  have hcz144 : w134.cell? ⟨gb91, 1, none⟩ = some (.slice Aoo82 t74.length coo82) := (blk_cell BK93.out 1).trans rfl
  have hcz145 : w134.cell? ⟨gb91, 2, none⟩ = some (.slice Aoo83 t75.length coo83) := (blk_cell BK93.out 2).trans rfl
  go_wp2_with (first | ((with_reducible refine gate_callee (f := 23) rfl ?_); refine goesL_ (some 48) rfl rfl Try.func23 (by kernel_rfl) rfl #[.agg #[.slice Aoo53 t47.length coo53, .int .i64 t48], .int .i64 1] rfl (by (try simp only [List.map_toArray, List.map_cons, List.map_nil]); first | done | rfl) ?_; (with_reducible refine (laws_markStore.calls k (fun k_ => lo51 ≤ k_ ∧ k_ < hi51) _ t47 t48 1 t146 t147 w _ ?sB ?s0 A148.out).mono ?_); (case sB => exact below_step HB.out (by repeat (first | (with_reducible first | exact HX.out | apply below_alloc | apply pw_below_drewN | apply below_drew1) | exact HX.out))); (case s0 => exact Kd.S_below HO52.out (by repeat (first | (with_reducible first | exact HX.out | apply below_alloc | apply pw_below_drewN | apply below_drew1) | exact HX.out))); rintro e w149 ⟨rfl, hy0, hb0, hkp⟩; refine ⟨_, rfl, ?_⟩; have hkt := Kept.then_ (Kept.of_below (by repeat (first | (with_reducible first | exact HX.out | apply below_alloc | apply pw_below_drewN | apply below_drew1) | exact HX.out)) (fun k_ => (lo51 ≤ k_ ∧ k_ < hi51))) hkp (fun k_ h_ => .inl h_); have n0_ := Aside0.mk (blk_kept (g := gb1) BK3.out hkt (fun h2_ => (by have h1 := IVgb1.out; have h2 : (lo51 ≤ gb1 ∧ gb1 < hi51) := h2_; have z0_ := CHlo4.out; have z1_ := CHlo17.out; have z2_ := CHlo28.out; have z3_ := CHgb35.out; have z4_ := CHlo51.out; have z5_ := CHgb59.out; have z6_ := CHlo79.out; have z7_ := CHgb91.out; have z8_ := CHlo129.out; omega))); have n1_ := Aside0.mk (Kd.S_kept HO18.out hkt (fun k_ h1_ h2_ => (by have h1 : lo17 ≤ k_ ∧ k_ < hi17 := h1_; have h2 : (lo51 ≤ k_ ∧ k_ < hi51) := h2_; have z0_ := CHlo4.out; have z1_ := CHlo17.out; have z2_ := CHlo28.out; have z3_ := CHgb35.out; have z4_ := CHlo51.out; have z5_ := CHgb59.out; have z6_ := CHlo79.out; have z7_ := CHgb91.out; have z8_ := CHlo129.out; omega))); have n2_ := Aside0.mk (Kd.R_kept HO29.out hkt (fun k_ h1_ h2_ => (by have h1 : lo28 ≤ k_ ∧ k_ < hi28 := h1_; have h2 : (lo51 ≤ k_ ∧ k_ < hi51) := h2_; have z0_ := CHlo4.out; have z1_ := CHlo17.out; have z2_ := CHlo28.out; have z3_ := CHgb35.out; have z4_ := CHlo51.out; have z5_ := CHgb59.out; have z6_ := CHlo79.out; have z7_ := CHgb91.out; have z8_ := CHlo129.out; omega))); have n3_ := Aside0.mk (Kd.R_kept HO30.out hkt (fun k_ h1_ h2_ => (by have h1 : lo28 ≤ k_ ∧ k_ < hi28 := h1_; have h2 : (lo51 ≤ k_ ∧ k_ < hi51) := h2_; have z0_ := CHlo4.out; have z1_ := CHlo17.out; have z2_ := CHlo28.out; have z3_ := CHgb35.out; have z4_ := CHlo51.out; have z5_ := CHgb59.out; have z6_ := CHlo79.out; have z7_ := CHgb91.out; have z8_ := CHlo129.out; omega))); have n4_ := Aside0.mk (blk_kept (g := gb35) BK37.out hkt (fun h2_ => (by have h1 := IVgb35.out; have h2 : (lo51 ≤ gb35 ∧ gb35 < hi51) := h2_; have z0_ := CHlo4.out; have z1_ := CHlo17.out; have z2_ := CHlo28.out; have z3_ := CHgb35.out; have z4_ := CHlo51.out; have z5_ := CHgb59.out; have z6_ := CHlo79.out; have z7_ := CHgb91.out; have z8_ := CHlo129.out; omega))); have n5_ := Aside0.mk (blk_kept (g := gb59) BK61.out hkt (fun h2_ => (by have h1 := IVgb59.out; have h2 : (lo51 ≤ gb59 ∧ gb59 < hi51) := h2_; have z0_ := CHlo4.out; have z1_ := CHlo17.out; have z2_ := CHlo28.out; have z3_ := CHgb35.out; have z4_ := CHlo51.out; have z5_ := CHgb59.out; have z6_ := CHlo79.out; have z7_ := CHgb91.out; have z8_ := CHlo129.out; omega))); have n6_ := Aside0.mk (Kd.R_kept HO80.out hkt (fun k_ h1_ h2_ => (by have h1 : lo79 ≤ k_ ∧ k_ < hi79 := h1_; have h2 : (lo51 ≤ k_ ∧ k_ < hi51) := h2_; have z0_ := CHlo4.out; have z1_ := CHlo17.out; have z2_ := CHlo28.out; have z3_ := CHgb35.out; have z4_ := CHlo51.out; have z5_ := CHgb59.out; have z6_ := CHlo79.out; have z7_ := CHgb91.out; have z8_ := CHlo129.out; omega))); have n7_ := Aside0.mk (Kd.R_kept HO81.out hkt (fun k_ h1_ h2_ => (by have h1 : lo79 ≤ k_ ∧ k_ < hi79 := h1_; have h2 : (lo51 ≤ k_ ∧ k_ < hi51) := h2_; have z0_ := CHlo4.out; have z1_ := CHlo17.out; have z2_ := CHlo28.out; have z3_ := CHgb35.out; have z4_ := CHlo51.out; have z5_ := CHgb59.out; have z6_ := CHlo79.out; have z7_ := CHgb91.out; have z8_ := CHlo129.out; omega))); have n8_ := Aside0.mk (blk_kept (g := gb91) BK93.out hkt (fun h2_ => (by have h1 := IVgb91.out; have h2 : (lo51 ≤ gb91 ∧ gb91 < hi51) := h2_; have z0_ := CHlo4.out; have z1_ := CHlo17.out; have z2_ := CHlo28.out; have z3_ := CHgb35.out; have z4_ := CHlo51.out; have z5_ := CHgb59.out; have z6_ := CHlo79.out; have z7_ := CHgb91.out; have z8_ := CHlo129.out; omega))); have n9_ := Aside0.mk (Kd.S_kept HO130.out hkt (fun k_ h1_ h2_ => (by have h1 : lo129 ≤ k_ ∧ k_ < hi129 := h1_; have h2 : (lo51 ≤ k_ ∧ k_ < hi51) := h2_; have z0_ := CHlo4.out; have z1_ := CHlo17.out; have z2_ := CHlo28.out; have z3_ := CHgb35.out; have z4_ := CHlo51.out; have z5_ := CHgb59.out; have z6_ := CHlo79.out; have z7_ := CHgb91.out; have z8_ := CHlo129.out; omega))); have n10_ := Aside0.mk ((show Kd.S (Kd.slice 61 k61) 59 w149 w.heap.size (fun _ => True) (.slice Aoo53 t47.length coo53) t147 from Kd.S_mono hy0 (fun _ _ => trivial))); have n11_ := Aside0.mk (Below.refl w149.heap.size w149); have n12_ := Aside0.mk (hb0); have n13_ := Aside0.mk (Nat.le_trans HN.out hkt.1); clear BK3 HO18 HO29 HO30 BK37 HO52 BK61 HO80 HO81 BK93 HO130 HX HB HN; have BK3 := n0_; have HO18 := n1_; have HO29 := n2_; have HO30 := n3_; have BK37 := n4_; have BK61 := n5_; have HO80 := n6_; have HO81 := n7_; have BK93 := n8_; have HO130 := n9_; have HO52 := n10_; have HX := n11_; have HB := n12_; have HN := n13_; clear n0_ n1_ n2_ n3_ n4_ n5_ n6_ n7_ n8_ n9_ n10_ n11_ n12_ n13_; (try clear hb); (try clear hbt); (try clear hkt); (try clear hkp); (try clear hb0); (try clear hp_); (try clear hl_); (try clear hh_); (try clear hd_); (try clear hy0); have LEN150 := Aside0.mk (Kd.S_reads' HO52.out).1; have hcz151 : w149.cell? ⟨gb1, 0, none⟩ = some (.slice A0_0 l0_0.length c0_0) := (blk_cell BK3.out 0).trans rfl; have hcz152 : w149.cell? ⟨gb1, 1, none⟩ = some (.int .i64 a0_1) := (blk_cell BK3.out 1).trans rfl; have hcz153 : w149.cell? ⟨gb35, 0, none⟩ = some (.int .i64 t22) := (blk_cell BK37.out 0).trans rfl; have hcz154 : w149.cell? ⟨gb35, 1, none⟩ = some (.slice Aoo31 t23.length coo31) := (blk_cell BK37.out 1).trans rfl; have hcz155 : w149.cell? ⟨gb35, 2, none⟩ = some (.slice Aoo32 t24.length coo32) := (blk_cell BK37.out 2).trans rfl; have hcz156 : w149.cell? ⟨gb59, 0, none⟩ = some (.slice Aoo53 t47.length coo53) := (blk_cell BK61.out 0).trans rfl; have hcz157 : w149.cell? ⟨gb59, 1, none⟩ = some (.int .i64 t48) := (blk_cell BK61.out 1).trans rfl; have hcz158 : w149.cell? ⟨gb91, 0, none⟩ = some (.int .i64 t73) := (blk_cell BK93.out 0).trans rfl; have hcz159 : w149.cell? ⟨gb91, 1, none⟩ = some (.slice Aoo82 t74.length coo82) := (blk_cell BK93.out 1).trans rfl; have hcz160 : w149.cell? ⟨gb91, 2, none⟩ = some (.slice Aoo83 t75.length coo83) := (blk_cell BK93.out 2).trans rfl) | (go_at_call 32; (with_reducible refine (laws_eqTxn.calls k t73 _ _ t74 _ _ t75 t22 _ _ t23 _ _ t24 true _ ?side1 ?side2 ?side3 ?side4 ?side5 ?side6 ?side7 ?side8 A162.out).mono ?_); (case side1 => exact Kd.C_below (Kd.R_reads' HO80.out).2.2 (by repeat (first | (with_reducible first | exact HX.out | apply below_alloc | apply pw_below_drewN | apply below_drew1) | exact HX.out))); (case side2 => have z_ := Kd.R_reads' HO80.out; have y_ := z_.1; have x_ := z_.2.1; omega); (case side3 => exact Kd.C_below (Kd.R_reads' HO81.out).2.2 (by repeat (first | (with_reducible first | exact HX.out | apply below_alloc | apply pw_below_drewN | apply below_drew1) | exact HX.out))); (case side4 => have z_ := Kd.R_reads' HO81.out; have y_ := z_.1; have x_ := z_.2.1; omega); (case side5 => exact Kd.C_below (Kd.R_reads' HO29.out).2.2 (by repeat (first | (with_reducible first | exact HX.out | apply below_alloc | apply pw_below_drewN | apply below_drew1) | exact HX.out))); (case side6 => have z_ := Kd.R_reads' HO29.out; have y_ := z_.1; have x_ := z_.2.1; omega); (case side7 => exact Kd.C_below (Kd.R_reads' HO30.out).2.2 (by repeat (first | (with_reducible first | exact HX.out | apply below_alloc | apply pw_below_drewN | apply below_drew1) | exact HX.out))); (case side8 => have z_ := Kd.R_reads' HO30.out; have y_ := z_.1; have x_ := z_.2.1; omega); rintro e w163 ⟨rfl, hb⟩; have hbt := below_step (by repeat (first | (with_reducible first | exact HX.out | apply below_alloc | apply pw_below_drewN | apply below_drew1) | exact HX.out)) hb; have n0_ := Aside0.mk (blk_below (g := gb1) BK3.out hbt); have n1_ := Aside0.mk (Kd.S_below HO18.out hbt); have n2_ := Aside0.mk (Kd.R_below HO29.out hbt); have n3_ := Aside0.mk (Kd.R_below HO30.out hbt); have n4_ := Aside0.mk (blk_below (g := gb35) BK37.out hbt); have n5_ := Aside0.mk (Kd.S_below HO52.out hbt); have n6_ := Aside0.mk (blk_below (g := gb59) BK61.out hbt); have n7_ := Aside0.mk (Kd.R_below HO80.out hbt); have n8_ := Aside0.mk (Kd.R_below HO81.out hbt); have n9_ := Aside0.mk (blk_below (g := gb91) BK93.out hbt); have n10_ := Aside0.mk (Kd.S_below HO130.out hbt); have n11_ := Aside0.mk (Below.refl w163.heap.size w163); have n12_ := Aside0.mk (below_step HB.out hbt); have n13_ := Aside0.mk (Nat.le_trans (Nat.le_trans HN.out (below_size (by repeat (first | (with_reducible first | exact HX.out | apply below_alloc | apply pw_below_drewN | apply below_drew1) | exact HX.out)))) hb.size); clear BK3 HO18 HO29 HO30 BK37 HO52 BK61 HO80 HO81 BK93 HO130 HX HB HN; have BK3 := n0_; have HO18 := n1_; have HO29 := n2_; have HO30 := n3_; have BK37 := n4_; have HO52 := n5_; have BK61 := n6_; have HO80 := n7_; have HO81 := n8_; have BK93 := n9_; have HO130 := n10_; have HX := n11_; have HB := n12_; have HN := n13_; clear n0_ n1_ n2_ n3_ n4_ n5_ n6_ n7_ n8_ n9_ n10_ n11_ n12_ n13_; (try clear hb); (try clear hbt); (try clear hkt); (try clear hkp); (try clear hb0); (try clear hp_); (try clear hl_); (try clear hh_); (try clear hd_); have hcz165 : w163.cell? ⟨gb1, 0, none⟩ = some (.slice A0_0 l0_0.length c0_0) := (blk_cell BK3.out 0).trans rfl; have hcz166 : w163.cell? ⟨gb1, 1, none⟩ = some (.int .i64 a0_1) := (blk_cell BK3.out 1).trans rfl; have hcz167 : w163.cell? ⟨gb35, 0, none⟩ = some (.int .i64 t22) := (blk_cell BK37.out 0).trans rfl; have hcz168 : w163.cell? ⟨gb35, 1, none⟩ = some (.slice Aoo31 t23.length coo31) := (blk_cell BK37.out 1).trans rfl; have hcz169 : w163.cell? ⟨gb35, 2, none⟩ = some (.slice Aoo32 t24.length coo32) := (blk_cell BK37.out 2).trans rfl; have hcz170 : w163.cell? ⟨gb59, 0, none⟩ = some (.slice Aoo53 t47.length coo53) := (blk_cell BK61.out 0).trans rfl; have hcz171 : w163.cell? ⟨gb59, 1, none⟩ = some (.int .i64 t48) := (blk_cell BK61.out 1).trans rfl; have hcz172 : w163.cell? ⟨gb91, 0, none⟩ = some (.int .i64 t73) := (blk_cell BK93.out 0).trans rfl; have hcz173 : w163.cell? ⟨gb91, 1, none⟩ = some (.slice Aoo82 t74.length coo82) := (blk_cell BK93.out 1).trans rfl; have hcz174 : w163.cell? ⟨gb91, 2, none⟩ = some (.slice Aoo83 t75.length coo83) := (blk_cell BK93.out 2).trans rfl) | ((with_reducible refine gate_callee (f := 33) rfl ?_); refine goesL_ (some 64) rfl rfl Try.func33 (by kernel_rfl) rfl #[.agg #[.int .i64 t73, .slice Aoo82 t74.length coo82, .slice Aoo83 t75.length coo83], .int .i64 1] rfl (by (try simp only [List.map_toArray, List.map_cons, List.map_nil]); first | done | rfl) ?_; (with_reducible refine (laws_markTxn.calls k t73 (fun k_ => lo79 ≤ k_ ∧ k_ < hi79) _ t74 (fun k_ => lo79 ≤ k_ ∧ k_ < hi79) _ t75 1 t175 t176 t177 w _ ?sB ?s0 ?s1 A178.out).mono ?_); (case sB => exact below_step HB.out (by repeat (first | (with_reducible first | exact HX.out | apply below_alloc | apply pw_below_drewN | apply below_drew1) | exact HX.out))); (case s0 => exact Kd.R_below HO80.out (by repeat (first | (with_reducible first | exact HX.out | apply below_alloc | apply pw_below_drewN | apply below_drew1) | exact HX.out))); (case s1 => exact Kd.R_below HO81.out (by repeat (first | (with_reducible first | exact HX.out | apply below_alloc | apply pw_below_drewN | apply below_drew1) | exact HX.out))); rintro e w179 ⟨rfl, hy0, hy1, hb0, hkp⟩; refine ⟨_, rfl, ?_⟩; have hkt := Kept.then_ (Kept.of_below (by repeat (first | (with_reducible first | exact HX.out | apply below_alloc | apply pw_below_drewN | apply below_drew1) | exact HX.out)) (fun k_ => (lo79 ≤ k_ ∧ k_ < hi79) ∨ (lo79 ≤ k_ ∧ k_ < hi79))) hkp (fun k_ h_ => .inl h_); clear HO52; have n0_ := Aside0.mk (blk_kept (g := gb1) BK3.out hkt (fun h2_ => (by have h1 := IVgb1.out; have h2 : (lo79 ≤ gb1 ∧ gb1 < hi79) ∨ (lo79 ≤ gb1 ∧ gb1 < hi79) := h2_; have z0_ := CHlo4.out; have z1_ := CHlo17.out; have z2_ := CHlo28.out; have z3_ := CHgb35.out; have z4_ := CHlo51.out; have z5_ := CHgb59.out; have z6_ := CHlo79.out; have z7_ := CHgb91.out; have z8_ := CHlo129.out; omega))); have n1_ := Aside0.mk (Kd.S_kept HO18.out hkt (fun k_ h1_ h2_ => (by have h1 : lo17 ≤ k_ ∧ k_ < hi17 := h1_; have h2 : (lo79 ≤ k_ ∧ k_ < hi79) ∨ (lo79 ≤ k_ ∧ k_ < hi79) := h2_; have z0_ := CHlo4.out; have z1_ := CHlo17.out; have z2_ := CHlo28.out; have z3_ := CHgb35.out; have z4_ := CHlo51.out; have z5_ := CHgb59.out; have z6_ := CHlo79.out; have z7_ := CHgb91.out; have z8_ := CHlo129.out; omega))); have n2_ := Aside0.mk (Kd.R_kept HO29.out hkt (fun k_ h1_ h2_ => (by have h1 : lo28 ≤ k_ ∧ k_ < hi28 := h1_; have h2 : (lo79 ≤ k_ ∧ k_ < hi79) ∨ (lo79 ≤ k_ ∧ k_ < hi79) := h2_; have z0_ := CHlo4.out; have z1_ := CHlo17.out; have z2_ := CHlo28.out; have z3_ := CHgb35.out; have z4_ := CHlo51.out; have z5_ := CHgb59.out; have z6_ := CHlo79.out; have z7_ := CHgb91.out; have z8_ := CHlo129.out; omega))); have n3_ := Aside0.mk (Kd.R_kept HO30.out hkt (fun k_ h1_ h2_ => (by have h1 : lo28 ≤ k_ ∧ k_ < hi28 := h1_; have h2 : (lo79 ≤ k_ ∧ k_ < hi79) ∨ (lo79 ≤ k_ ∧ k_ < hi79) := h2_; have z0_ := CHlo4.out; have z1_ := CHlo17.out; have z2_ := CHlo28.out; have z3_ := CHgb35.out; have z4_ := CHlo51.out; have z5_ := CHgb59.out; have z6_ := CHlo79.out; have z7_ := CHgb91.out; have z8_ := CHlo129.out; omega))); have n4_ := Aside0.mk (blk_kept (g := gb35) BK37.out hkt (fun h2_ => (by have h1 := IVgb35.out; have h2 : (lo79 ≤ gb35 ∧ gb35 < hi79) ∨ (lo79 ≤ gb35 ∧ gb35 < hi79) := h2_; have z0_ := CHlo4.out; have z1_ := CHlo17.out; have z2_ := CHlo28.out; have z3_ := CHgb35.out; have z4_ := CHlo51.out; have z5_ := CHgb59.out; have z6_ := CHlo79.out; have z7_ := CHgb91.out; have z8_ := CHlo129.out; omega))); have n5_ := Aside0.mk (blk_kept (g := gb59) BK61.out hkt (fun h2_ => (by have h1 := IVgb59.out; have h2 : (lo79 ≤ gb59 ∧ gb59 < hi79) ∨ (lo79 ≤ gb59 ∧ gb59 < hi79) := h2_; have z0_ := CHlo4.out; have z1_ := CHlo17.out; have z2_ := CHlo28.out; have z3_ := CHgb35.out; have z4_ := CHlo51.out; have z5_ := CHgb59.out; have z6_ := CHlo79.out; have z7_ := CHgb91.out; have z8_ := CHlo129.out; omega))); have n6_ := Aside0.mk (blk_kept (g := gb91) BK93.out hkt (fun h2_ => (by have h1 := IVgb91.out; have h2 : (lo79 ≤ gb91 ∧ gb91 < hi79) ∨ (lo79 ≤ gb91 ∧ gb91 < hi79) := h2_; have z0_ := CHlo4.out; have z1_ := CHlo17.out; have z2_ := CHlo28.out; have z3_ := CHgb35.out; have z4_ := CHlo51.out; have z5_ := CHgb59.out; have z6_ := CHlo79.out; have z7_ := CHgb91.out; have z8_ := CHlo129.out; omega))); have n7_ := Aside0.mk (Kd.S_kept HO130.out hkt (fun k_ h1_ h2_ => (by have h1 : lo129 ≤ k_ ∧ k_ < hi129 := h1_; have h2 : (lo79 ≤ k_ ∧ k_ < hi79) ∨ (lo79 ≤ k_ ∧ k_ < hi79) := h2_; have z0_ := CHlo4.out; have z1_ := CHlo17.out; have z2_ := CHlo28.out; have z3_ := CHgb35.out; have z4_ := CHlo51.out; have z5_ := CHgb59.out; have z6_ := CHlo79.out; have z7_ := CHgb91.out; have z8_ := CHlo129.out; omega))); have n8_ := Aside0.mk ((show Kd.R (Kd.int .i64) 3 w179 w.heap.size (fun _ => True) (.slice Aoo82 t74.length coo82) t176 from Kd.R_mono hy0 (fun _ _ => trivial))); have n9_ := Aside0.mk ((show Kd.R k86 86 w179 w.heap.size (fun _ => True) (.slice Aoo83 t75.length coo83) t177 from Kd.R_mono hy1 (fun _ _ => trivial))); have n10_ := Aside0.mk (Below.refl w179.heap.size w179); have n11_ := Aside0.mk (hb0); have n12_ := Aside0.mk (Nat.le_trans HN.out hkt.1); clear BK3 HO18 HO29 HO30 BK37 BK61 HO80 HO81 BK93 HO130 HX HB HN; have BK3 := n0_; have HO18 := n1_; have HO29 := n2_; have HO30 := n3_; have BK37 := n4_; have BK61 := n5_; have BK93 := n6_; have HO130 := n7_; have HO80 := n8_; have HO81 := n9_; have HX := n10_; have HB := n11_; have HN := n12_; clear n0_ n1_ n2_ n3_ n4_ n5_ n6_ n7_ n8_ n9_ n10_ n11_ n12_; (try clear hb); (try clear hbt); (try clear hkt); (try clear hkp); (try clear hb0); (try clear hp_); (try clear hl_); (try clear hh_); (try clear hd_); (try clear hy0 hy1); have LEN180 := Aside0.mk (Kd.R_reads' HO80.out).1; have LEN181 := Aside0.mk (Kd.R_reads' HO81.out).1; have hcz182 : w179.cell? ⟨gb1, 0, none⟩ = some (.slice A0_0 l0_0.length c0_0) := (blk_cell BK3.out 0).trans rfl; have hcz183 : w179.cell? ⟨gb1, 1, none⟩ = some (.int .i64 a0_1) := (blk_cell BK3.out 1).trans rfl; have hcz184 : w179.cell? ⟨gb35, 0, none⟩ = some (.int .i64 t22) := (blk_cell BK37.out 0).trans rfl; have hcz185 : w179.cell? ⟨gb35, 1, none⟩ = some (.slice Aoo31 t23.length coo31) := (blk_cell BK37.out 1).trans rfl; have hcz186 : w179.cell? ⟨gb35, 2, none⟩ = some (.slice Aoo32 t24.length coo32) := (blk_cell BK37.out 2).trans rfl; have hcz187 : w179.cell? ⟨gb59, 0, none⟩ = some (.slice Aoo53 t47.length coo53) := (blk_cell BK61.out 0).trans rfl; have hcz188 : w179.cell? ⟨gb59, 1, none⟩ = some (.int .i64 t48) := (blk_cell BK61.out 1).trans rfl; have hcz189 : w179.cell? ⟨gb91, 0, none⟩ = some (.int .i64 t73) := (blk_cell BK93.out 0).trans rfl; have hcz190 : w179.cell? ⟨gb91, 1, none⟩ = some (.slice Aoo82 t74.length coo82) := (blk_cell BK93.out 1).trans rfl; have hcz191 : w179.cell? ⟨gb91, 2, none⟩ = some (.slice Aoo83 t75.length coo83) := (blk_cell BK93.out 2).trans rfl) | ((with_reducible refine gate_callee (f := 34) rfl ?_); refine goesL_ (some 67) rfl rfl Try.func34 (by kernel_rfl) rfl #[.agg #[.int .i64 t73, .slice Aoo82 t176.length coo82, .slice Aoo83 t177.length coo83], .int .i64 1] rfl (by (try simp only [List.map_toArray, List.map_cons, List.map_nil]); first | done | rfl | (simp only [LEN180.out, LEN181.out]; rfl)) ?_; (with_reducible refine (laws_heldTxn.calls k t73 _ _ t176 _ _ t177 1 t192 _ ?side1 ?side2 ?side3 ?side4 A193.out).mono ?_); (case side1 => exact Kd.C_below (Kd.R_reads' HO80.out).2.2 (by repeat (first | (with_reducible first | exact HX.out | apply below_alloc | apply pw_below_drewN | apply below_drew1) | exact HX.out))); (case side2 => have z_ := Kd.R_reads' HO80.out; have y_ := z_.1; have x_ := z_.2.1; omega); (case side3 => exact Kd.C_below (Kd.R_reads' HO81.out).2.2 (by repeat (first | (with_reducible first | exact HX.out | apply below_alloc | apply pw_below_drewN | apply below_drew1) | exact HX.out))); (case side4 => have z_ := Kd.R_reads' HO81.out; have y_ := z_.1; have x_ := z_.2.1; omega); rintro e w194 ⟨rfl, hb⟩; refine ⟨_, rfl, ?_⟩; have hbt := below_step (by repeat (first | (with_reducible first | exact HX.out | apply below_alloc | apply pw_below_drewN | apply below_drew1) | exact HX.out)) hb; have n0_ := Aside0.mk (blk_below (g := gb1) BK3.out hbt); have n1_ := Aside0.mk (Kd.S_below HO18.out hbt); have n2_ := Aside0.mk (Kd.R_below HO29.out hbt); have n3_ := Aside0.mk (Kd.R_below HO30.out hbt); have n4_ := Aside0.mk (blk_below (g := gb35) BK37.out hbt); have n5_ := Aside0.mk (blk_below (g := gb59) BK61.out hbt); have n6_ := Aside0.mk (Kd.R_below HO80.out hbt); have n7_ := Aside0.mk (Kd.R_below HO81.out hbt); have n8_ := Aside0.mk (blk_below (g := gb91) BK93.out hbt); have n9_ := Aside0.mk (Kd.S_below HO130.out hbt); have n10_ := Aside0.mk (Below.refl w194.heap.size w194); have n11_ := Aside0.mk (below_step HB.out hbt); have n12_ := Aside0.mk (Nat.le_trans (Nat.le_trans HN.out (below_size (by repeat (first | (with_reducible first | exact HX.out | apply below_alloc | apply pw_below_drewN | apply below_drew1) | exact HX.out)))) hb.size); clear BK3 HO18 HO29 HO30 BK37 BK61 HO80 HO81 BK93 HO130 HX HB HN; have BK3 := n0_; have HO18 := n1_; have HO29 := n2_; have HO30 := n3_; have BK37 := n4_; have BK61 := n5_; have HO80 := n6_; have HO81 := n7_; have BK93 := n8_; have HO130 := n9_; have HX := n10_; have HB := n11_; have HN := n12_; clear n0_ n1_ n2_ n3_ n4_ n5_ n6_ n7_ n8_ n9_ n10_ n11_ n12_; (try clear hb); (try clear hbt); (try clear hkt); (try clear hkp); (try clear hb0); (try clear hp_); (try clear hl_); (try clear hh_); (try clear hd_); have hcz196 : w194.cell? ⟨gb1, 0, none⟩ = some (.slice A0_0 l0_0.length c0_0) := (blk_cell BK3.out 0).trans rfl; have hcz197 : w194.cell? ⟨gb1, 1, none⟩ = some (.int .i64 a0_1) := (blk_cell BK3.out 1).trans rfl; have hcz198 : w194.cell? ⟨gb35, 0, none⟩ = some (.int .i64 t22) := (blk_cell BK37.out 0).trans rfl; have hcz199 : w194.cell? ⟨gb35, 1, none⟩ = some (.slice Aoo31 t23.length coo31) := (blk_cell BK37.out 1).trans rfl; have hcz200 : w194.cell? ⟨gb35, 2, none⟩ = some (.slice Aoo32 t24.length coo32) := (blk_cell BK37.out 2).trans rfl; have hcz201 : w194.cell? ⟨gb59, 0, none⟩ = some (.slice Aoo53 t47.length coo53) := (blk_cell BK61.out 0).trans rfl; have hcz202 : w194.cell? ⟨gb59, 1, none⟩ = some (.int .i64 t48) := (blk_cell BK61.out 1).trans rfl; have hcz203 : w194.cell? ⟨gb91, 0, none⟩ = some (.int .i64 t73) := (blk_cell BK93.out 0).trans rfl; have hcz204 : w194.cell? ⟨gb91, 1, none⟩ = some (.slice Aoo82 t74.length coo82) := (blk_cell BK93.out 1).trans rfl; have hcz205 : w194.cell? ⟨gb91, 2, none⟩ = some (.slice Aoo83 t75.length coo83) := (blk_cell BK93.out 2).trans rfl) | ((with_reducible refine gate_callee (f := 13) rfl ?_); refine goesL_ (some 75) rfl rfl Try.func13 (by kernel_rfl) rfl #[.agg #[.slice A0_0 l0_0.length c0_0, .int .i64 a0_1]] rfl (by (try simp only [List.map_toArray, List.map_cons, List.map_nil]); first | done | rfl) ?_; (with_reducible refine (laws_toStore.calls k _ _ l0_0 a0_1 t206 t207 _ ?side1 ?side2 A208.out).mono ?_); (case side1 => exact Kd.C_below HR0_0.out (below_step HB.out (by repeat (first | (with_reducible first | exact HX.out | apply below_alloc | apply pw_below_drewN | apply below_drew1) | exact HX.out)))); (case side2 => exact HC0_0.out); rintro e w209 ⟨vt206, rfl, ho0, hb⟩; refine ⟨_, rfl, ?_⟩; have hbt := below_step (by repeat (first | (with_reducible first | exact HX.out | apply below_alloc | apply pw_below_drewN | apply below_drew1) | exact HX.out)) hb; obtain ⟨lo210, hi210, hl_, hh_, hc_⟩ := lw9_iv (Nat.le_trans HN.out (below_size (by repeat (first | (with_reducible first | exact HX.out | apply below_alloc | apply pw_below_drewN | apply below_drew1) | exact HX.out)))) hb.size; have CHlo210 := Aside0.mk (show hi129 ≤ lo210 ∧ lo210 ≤ hi210 from hc_); clear hc_; have n0_ := Aside0.mk (blk_below (g := gb1) BK3.out hbt); have n1_ := Aside0.mk (Kd.S_below HO18.out hbt); have n2_ := Aside0.mk (Kd.R_below HO29.out hbt); have n3_ := Aside0.mk (Kd.R_below HO30.out hbt); have n4_ := Aside0.mk (blk_below (g := gb35) BK37.out hbt); have n5_ := Aside0.mk (blk_below (g := gb59) BK61.out hbt); have n6_ := Aside0.mk (Kd.R_below HO80.out hbt); have n7_ := Aside0.mk (Kd.R_below HO81.out hbt); have n8_ := Aside0.mk (blk_below (g := gb91) BK93.out hbt); have n9_ := Aside0.mk (Kd.S_below HO130.out hbt); have n10_ := Aside0.mk (Kd.S_mono (ok' := fun k_ => lo210 ≤ k_ ∧ k_ < hi210) (Kd.S_lower (Kd.S_bound ho0) (below_size (below_step HB.out (by repeat (first | (with_reducible first | exact HX.out | apply below_alloc | apply pw_below_drewN | apply below_drew1) | exact HX.out))))) (fun k_ hk_ => ⟨by rw [hl_]; exact hk_.2.1, by rw [hh_]; exact hk_.2.2.1⟩)); have n11_ := Aside0.mk (Below.refl w209.heap.size w209); have n12_ := Aside0.mk (below_step HB.out hbt); have n13_ := Aside0.mk ((show hi210 ≤ w209.heap.size from Nat.le_of_eq hh_)); clear BK3 HO18 HO29 HO30 BK37 BK61 HO80 HO81 BK93 HO130 HX HB HN; have BK3 := n0_; have HO18 := n1_; have HO29 := n2_; have HO30 := n3_; have BK37 := n4_; have BK61 := n5_; have HO80 := n6_; have HO81 := n7_; have BK93 := n8_; have HO130 := n9_; have HO211 := n10_; have HX := n11_; have HB := n12_; have HN := n13_; clear n0_ n1_ n2_ n3_ n4_ n5_ n6_ n7_ n8_ n9_ n10_ n11_ n12_ n13_; (try clear hb); (try clear hbt); (try clear hkt); (try clear hkp); (try clear hb0); (try clear hp_); (try clear hl_); (try clear hh_); (try clear hd_); (try clear ho0); obtain ⟨Aoo212, coo212, eoo212⟩ := Kd.S_slice HO211.out; (first | subst eoo212 | (injection eoo212 with f1_ f2_ f3_; have f4_ := f1_.symm; have f5_ := f3_.symm; clear f1_ f2_ f3_; subst f4_; subst f5_)); have hcz213 : w209.cell? ⟨gb1, 0, none⟩ = some (.slice A0_0 l0_0.length c0_0) := (blk_cell BK3.out 0).trans rfl; have hcz214 : w209.cell? ⟨gb1, 1, none⟩ = some (.int .i64 a0_1) := (blk_cell BK3.out 1).trans rfl; have hcz215 : w209.cell? ⟨gb35, 0, none⟩ = some (.int .i64 t22) := (blk_cell BK37.out 0).trans rfl; have hcz216 : w209.cell? ⟨gb35, 1, none⟩ = some (.slice Aoo31 t23.length coo31) := (blk_cell BK37.out 1).trans rfl; have hcz217 : w209.cell? ⟨gb35, 2, none⟩ = some (.slice Aoo32 t24.length coo32) := (blk_cell BK37.out 2).trans rfl; have hcz218 : w209.cell? ⟨gb59, 0, none⟩ = some (.slice Aoo53 t47.length coo53) := (blk_cell BK61.out 0).trans rfl; have hcz219 : w209.cell? ⟨gb59, 1, none⟩ = some (.int .i64 t48) := (blk_cell BK61.out 1).trans rfl; have hcz220 : w209.cell? ⟨gb91, 0, none⟩ = some (.int .i64 t73) := (blk_cell BK93.out 0).trans rfl; have hcz221 : w209.cell? ⟨gb91, 1, none⟩ = some (.slice Aoo82 t74.length coo82) := (blk_cell BK93.out 1).trans rfl; have hcz222 : w209.cell? ⟨gb91, 2, none⟩ = some (.slice Aoo83 t75.length coo83) := (blk_cell BK93.out 2).trans rfl) | ((with_reducible refine gate_callee (f := 31) rfl ?_); refine goesL_ (some 76) rfl rfl Try.func31 (by kernel_rfl) rfl #[.agg #[.slice Aoo212 t206.length coo212, .int .i64 t207]] rfl (by (try simp only [List.map_toArray, List.map_cons, List.map_nil]); first | done | rfl) ?_; (with_reducible refine (impl_Begin.calls k _ _ t206 t207 t223 t224 t225 t226 _ ?side1 ?side2 A227.out).mono ?_); (case side1 => exact Kd.C_below (Kd.S_reads' HO211.out).2.2 (by repeat (first | (with_reducible first | exact HX.out | apply below_alloc | apply pw_below_drewN | apply below_drew1) | exact HX.out))); (case side2 => have z_ := Kd.S_reads' HO211.out; have y_ := z_.1; have x_ := z_.2.1; omega); rintro e w228 ⟨vt224, vt225, rfl, ho0, ho1, hb⟩; refine ⟨_, rfl, ?_⟩; have hbt := below_step (by repeat (first | (with_reducible first | exact HX.out | apply below_alloc | apply pw_below_drewN | apply below_drew1) | exact HX.out)) hb; obtain ⟨lo229, hi229, hl_, hh_, hc_⟩ := lw9_iv (Nat.le_trans HN.out (below_size (by repeat (first | (with_reducible first | exact HX.out | apply below_alloc | apply pw_below_drewN | apply below_drew1) | exact HX.out)))) hb.size; have CHlo229 := Aside0.mk (show hi210 ≤ lo229 ∧ lo229 ≤ hi229 from hc_); clear hc_; have n0_ := Aside0.mk (blk_below (g := gb1) BK3.out hbt); have n1_ := Aside0.mk (Kd.S_below HO18.out hbt); have n2_ := Aside0.mk (Kd.R_below HO29.out hbt); have n3_ := Aside0.mk (Kd.R_below HO30.out hbt); have n4_ := Aside0.mk (blk_below (g := gb35) BK37.out hbt); have n5_ := Aside0.mk (blk_below (g := gb59) BK61.out hbt); have n6_ := Aside0.mk (Kd.R_below HO80.out hbt); have n7_ := Aside0.mk (Kd.R_below HO81.out hbt); have n8_ := Aside0.mk (blk_below (g := gb91) BK93.out hbt); have n9_ := Aside0.mk (Kd.S_below HO130.out hbt); have n10_ := Aside0.mk (Kd.S_below HO211.out hbt); have n11_ := Aside0.mk (Kd.R_mono (ok' := fun k_ => lo229 ≤ k_ ∧ k_ < hi229) (Kd.R_lower (Kd.R_bound ho0) (below_size (below_step HB.out (by repeat (first | (with_reducible first | exact HX.out | apply below_alloc | apply pw_below_drewN | apply below_drew1) | exact HX.out))))) (fun k_ hk_ => ⟨by rw [hl_]; exact hk_.2.1, by rw [hh_]; exact hk_.2.2.1⟩)); have n12_ := Aside0.mk (Kd.R_mono (ok' := fun k_ => lo229 ≤ k_ ∧ k_ < hi229) (Kd.R_lower (Kd.R_bound ho1) (below_size (below_step HB.out (by repeat (first | (with_reducible first | exact HX.out | apply below_alloc | apply pw_below_drewN | apply below_drew1) | exact HX.out))))) (fun k_ hk_ => ⟨by rw [hl_]; exact hk_.2.1, by rw [hh_]; exact hk_.2.2.1⟩)); have n13_ := Aside0.mk (Below.refl w228.heap.size w228); have n14_ := Aside0.mk (below_step HB.out hbt); have n15_ := Aside0.mk ((show hi229 ≤ w228.heap.size from Nat.le_of_eq hh_)); clear BK3 HO18 HO29 HO30 BK37 BK61 HO80 HO81 BK93 HO130 HO211 HX HB HN; have BK3 := n0_; have HO18 := n1_; have HO29 := n2_; have HO30 := n3_; have BK37 := n4_; have BK61 := n5_; have HO80 := n6_; have HO81 := n7_; have BK93 := n8_; have HO130 := n9_; have HO211 := n10_; have HO230 := n11_; have HO231 := n12_; have HX := n13_; have HB := n14_; have HN := n15_; clear n0_ n1_ n2_ n3_ n4_ n5_ n6_ n7_ n8_ n9_ n10_ n11_ n12_ n13_ n14_ n15_; (try clear hb); (try clear hbt); (try clear hkt); (try clear hkp); (try clear hb0); (try clear hp_); (try clear hl_); (try clear hh_); (try clear hd_); (try clear ho0); obtain ⟨Aoo232, coo232, eoo232⟩ := Kd.R_slice HO230.out; (first | subst eoo232 | (injection eoo232 with f1_ f2_ f3_; have f4_ := f1_.symm; have f5_ := f3_.symm; clear f1_ f2_ f3_; subst f4_; subst f5_)); (try clear ho1); obtain ⟨Aoo233, coo233, eoo233⟩ := Kd.R_slice HO231.out; (first | subst eoo233 | (injection eoo233 with f1_ f2_ f3_; have f4_ := f1_.symm; have f5_ := f3_.symm; clear f1_ f2_ f3_; subst f4_; subst f5_)); have hcz234 : w228.cell? ⟨gb1, 0, none⟩ = some (.slice A0_0 l0_0.length c0_0) := (blk_cell BK3.out 0).trans rfl; have hcz235 : w228.cell? ⟨gb1, 1, none⟩ = some (.int .i64 a0_1) := (blk_cell BK3.out 1).trans rfl; have hcz236 : w228.cell? ⟨gb35, 0, none⟩ = some (.int .i64 t22) := (blk_cell BK37.out 0).trans rfl; have hcz237 : w228.cell? ⟨gb35, 1, none⟩ = some (.slice Aoo31 t23.length coo31) := (blk_cell BK37.out 1).trans rfl; have hcz238 : w228.cell? ⟨gb35, 2, none⟩ = some (.slice Aoo32 t24.length coo32) := (blk_cell BK37.out 2).trans rfl; have hcz239 : w228.cell? ⟨gb59, 0, none⟩ = some (.slice Aoo53 t47.length coo53) := (blk_cell BK61.out 0).trans rfl; have hcz240 : w228.cell? ⟨gb59, 1, none⟩ = some (.int .i64 t48) := (blk_cell BK61.out 1).trans rfl; have hcz241 : w228.cell? ⟨gb91, 0, none⟩ = some (.int .i64 t73) := (blk_cell BK93.out 0).trans rfl; have hcz242 : w228.cell? ⟨gb91, 1, none⟩ = some (.slice Aoo82 t74.length coo82) := (blk_cell BK93.out 1).trans rfl; have hcz243 : w228.cell? ⟨gb91, 2, none⟩ = some (.slice Aoo83 t75.length coo83) := (blk_cell BK93.out 2).trans rfl) | ((with_reducible refine gate_dst (N := 12) rfl ?_); refine box_event ?hg (N := 12) ?hd (cs := #[.int .i64 0, .slice none 0 0, .slice none 0 0]) (t := 50) ?hr ?_; (case hd => rfl); (case hg => rfl); (case hr => first | (go_simp; done) | (go_simp; rfl)); intro gb244 hg w245 hbox hb; have GEgb244 := Aside0.mk (by rw [hg]; exact (below_size (by repeat (first | (with_reducible first | exact HX.out | apply below_alloc | apply pw_below_drewN | apply below_drew1) | exact HX.out))) : _ ≤ gb244); have BK246r := Aside0.mk hbox; have n0_ := Aside0.mk (below_step (by repeat (first | (with_reducible first | exact HX.out | apply below_alloc | apply pw_below_drewN | apply below_drew1) | exact HX.out)) hb); have hnb247 : gb244 ≠ gb1 := (fun e_ => by have z1_ := GEgb244.out; have z2_ := blk_lt BK3.out; omega); have hnb247c : gb1 ≠ gb244 := fun e_ => hnb247 e_.symm; have hnb248 : gb244 ≠ gb35 := (fun e_ => by have z1_ := GEgb244.out; have z2_ := blk_lt BK37.out; omega); have hnb248c : gb35 ≠ gb244 := fun e_ => hnb248 e_.symm; have hnb249 : gb244 ≠ gb59 := (fun e_ => by have z1_ := GEgb244.out; have z2_ := blk_lt BK61.out; omega); have hnb249c : gb59 ≠ gb244 := fun e_ => hnb249 e_.symm; have hnb250 : gb244 ≠ gb91 := (fun e_ => by have z1_ := GEgb244.out; have z2_ := blk_lt BK93.out; omega); have hnb250c : gb91 ≠ gb244 := fun e_ => hnb250 e_.symm; clear HX; have HX := n0_; clear n0_ hb hg; have hcz251 : w245.cell? ⟨gb244, 0, none⟩ = some (.int .i64 0) := (blk_cell BK246r.out 0).trans rfl; have hfz252 := blk_frozen BK246r.out 0; have hcz253 : w245.cell? ⟨gb244, 1, none⟩ = some (.slice none 0 0) := (blk_cell BK246r.out 1).trans rfl; have hfz254 := blk_frozen BK246r.out 1; have hcz255 : w245.cell? ⟨gb244, 2, none⟩ = some (.slice none 0 0) := (blk_cell BK246r.out 2).trans rfl; have hfz256 := blk_frozen BK246r.out 2; have hcz257 : w245.cell? ⟨gb1, 0, none⟩ = some (.slice A0_0 l0_0.length c0_0) := (blk_cell (blk_below (g := gb1) BK3.out HX.out) 0).trans rfl; have hcz258 : w245.cell? ⟨gb1, 1, none⟩ = some (.int .i64 a0_1) := (blk_cell (blk_below (g := gb1) BK3.out HX.out) 1).trans rfl; have hcz259 : w245.cell? ⟨gb35, 0, none⟩ = some (.int .i64 t22) := (blk_cell (blk_below (g := gb35) BK37.out HX.out) 0).trans rfl; have hcz260 : w245.cell? ⟨gb35, 1, none⟩ = some (.slice Aoo31 t23.length coo31) := (blk_cell (blk_below (g := gb35) BK37.out HX.out) 1).trans rfl; have hcz261 : w245.cell? ⟨gb35, 2, none⟩ = some (.slice Aoo32 t24.length coo32) := (blk_cell (blk_below (g := gb35) BK37.out HX.out) 2).trans rfl; have hcz262 : w245.cell? ⟨gb59, 0, none⟩ = some (.slice Aoo53 t47.length coo53) := (blk_cell (blk_below (g := gb59) BK61.out HX.out) 0).trans rfl; have hcz263 : w245.cell? ⟨gb59, 1, none⟩ = some (.int .i64 t48) := (blk_cell (blk_below (g := gb59) BK61.out HX.out) 1).trans rfl; have hcz264 : w245.cell? ⟨gb91, 0, none⟩ = some (.int .i64 t73) := (blk_cell (blk_below (g := gb91) BK93.out HX.out) 0).trans rfl; have hcz265 : w245.cell? ⟨gb91, 1, none⟩ = some (.slice Aoo82 t74.length coo82) := (blk_cell (blk_below (g := gb91) BK93.out HX.out) 1).trans rfl; have hcz266 : w245.cell? ⟨gb91, 2, none⟩ = some (.slice Aoo83 t75.length coo83) := (blk_cell (blk_below (g := gb91) BK93.out HX.out) 2).trans rfl; clear hbox) | ((with_reducible refine gate_callee (f := 32) rfl ?_); refine goesL_ (some 81) rfl rfl Try.func32 (by kernel_rfl) rfl #[.agg #[.int .i64 t223, .slice Aoo232 t224.length coo232, .slice Aoo233 t225.length coo233], .agg #[.int .i64 t22, .slice Aoo31 t23.length coo31, .slice Aoo32 t24.length coo32]] rfl (by (try simp only [List.map_toArray, List.map_cons, List.map_nil]); first | done | rfl) ?_; (with_reducible refine (laws_eqTxn.calls k t223 _ _ t224 _ _ t225 t22 _ _ t23 _ _ t24 true _ ?side1 ?side2 ?side3 ?side4 ?side5 ?side6 ?side7 ?side8 A268.out).mono ?_); (case side1 => exact Kd.C_below (Kd.R_reads' HO230.out).2.2 (by repeat (first | (with_reducible first | exact HX.out | apply below_alloc | apply pw_below_drewN | apply below_drew1 | refine below_set ?_ GEgb244.out) | exact HX.out))); (case side2 => have z_ := Kd.R_reads' HO230.out; have y_ := z_.1; have x_ := z_.2.1; omega); (case side3 => exact Kd.C_below (Kd.R_reads' HO231.out).2.2 (by repeat (first | (with_reducible first | exact HX.out | apply below_alloc | apply pw_below_drewN | apply below_drew1 | refine below_set ?_ GEgb244.out) | exact HX.out))); (case side4 => have z_ := Kd.R_reads' HO231.out; have y_ := z_.1; have x_ := z_.2.1; omega); (case side5 => exact Kd.C_below (Kd.R_reads' HO29.out).2.2 (by repeat (first | (with_reducible first | exact HX.out | apply below_alloc | apply pw_below_drewN | apply below_drew1 | refine below_set ?_ GEgb244.out) | exact HX.out))); (case side6 => have z_ := Kd.R_reads' HO29.out; have y_ := z_.1; have x_ := z_.2.1; omega); (case side7 => exact Kd.C_below (Kd.R_reads' HO30.out).2.2 (by repeat (first | (with_reducible first | exact HX.out | apply below_alloc | apply pw_below_drewN | apply below_drew1 | refine below_set ?_ GEgb244.out) | exact HX.out))); (case side8 => have z_ := Kd.R_reads' HO30.out; have y_ := z_.1; have x_ := z_.2.1; omega); rintro e w269 ⟨rfl, hb⟩; refine ⟨_, rfl, ?_⟩; have hp_ := lw9_lt (g := gb244) (o := .cells #[.int .i64 t223, .slice Aoo232 t224.length coo232, .slice Aoo233 t225.length coo233] 50 (0, 0)) hb (by (with_reducible repeat (first | refine blk_drewN ?_ _ | refine blk_drew ?_ | refine blk_alloc ?_ _)); refine blk_put (cs := #[.int .i64 t223, .slice Aoo232 t224.length coo232, .slice none 0 0]) ?_ 2 _ rfl; (with_reducible repeat (first | refine blk_drewN ?_ _ | refine blk_drew ?_ | refine blk_alloc ?_ _)); refine blk_put (cs := #[.int .i64 t223, .slice none 0 0, .slice none 0 0]) ?_ 1 _ rfl; (with_reducible repeat (first | refine blk_drewN ?_ _ | refine blk_drew ?_ | refine blk_alloc ?_ _)); refine blk_put (cs := #[.int .i64 0, .slice none 0 0, .slice none 0 0]) ?_ 0 _ rfl; (with_reducible repeat (first | refine blk_drewN ?_ _ | refine blk_drew ?_ | refine blk_alloc ?_ _)); exact BK246r.out); have CHgb244 := Aside0.mk (show hi229 ≤ gb244 from Nat.le_trans HN.out GEgb244.out); have hbt := below_step (by repeat (first | (with_reducible first | exact HX.out | apply below_alloc | apply pw_below_drewN | apply below_drew1 | refine below_set ?_ GEgb244.out) | exact HX.out)) hb; have n0_ := Aside0.mk (hp_.2); have n1_ := Aside0.mk (blk_below (g := gb1) BK3.out hbt); have n2_ := Aside0.mk (Kd.S_below HO18.out hbt); have n3_ := Aside0.mk (Kd.R_below HO29.out hbt); have n4_ := Aside0.mk (Kd.R_below HO30.out hbt); have n5_ := Aside0.mk (blk_below (g := gb35) BK37.out hbt); have n6_ := Aside0.mk (blk_below (g := gb59) BK61.out hbt); have n7_ := Aside0.mk (Kd.R_below HO80.out hbt); have n8_ := Aside0.mk (Kd.R_below HO81.out hbt); have n9_ := Aside0.mk (blk_below (g := gb91) BK93.out hbt); have n10_ := Aside0.mk (Kd.S_below HO130.out hbt); have n11_ := Aside0.mk (Kd.S_below HO211.out hbt); have n12_ := Aside0.mk (Kd.R_below HO230.out hbt); have n13_ := Aside0.mk (Kd.R_below HO231.out hbt); have n14_ := Aside0.mk (Below.refl w269.heap.size w269); have n15_ := Aside0.mk (below_step HB.out hbt); have n16_ := Aside0.mk (Nat.le_trans (hp_.1) hb.size); clear BK3 HO18 HO29 HO30 BK37 BK61 HO80 HO81 BK93 HO130 HO211 HO230 HO231 HX HB HN; have BK246 := n0_; have BK3 := n1_; have HO18 := n2_; have HO29 := n3_; have HO30 := n4_; have BK37 := n5_; have BK61 := n6_; have HO80 := n7_; have HO81 := n8_; have BK93 := n9_; have HO130 := n10_; have HO211 := n11_; have HO230 := n12_; have HO231 := n13_; have HX := n14_; have HB := n15_; have HN := n16_; clear n0_ n1_ n2_ n3_ n4_ n5_ n6_ n7_ n8_ n9_ n10_ n11_ n12_ n13_ n14_ n15_ n16_; have IVgb244 := Aside0.mk (show gb244 ≤ gb244 ∧ gb244 < gb244 + 1 from ⟨Nat.le_refl _, Nat.lt_succ_self _⟩); (try clear hb); (try clear hbt); (try clear hkt); (try clear hkp); (try clear hb0); (try clear hp_); (try clear hl_); (try clear hh_); (try clear hd_); have hcz271 : w269.cell? ⟨gb1, 0, none⟩ = some (.slice A0_0 l0_0.length c0_0) := (blk_cell BK3.out 0).trans rfl; have hcz272 : w269.cell? ⟨gb1, 1, none⟩ = some (.int .i64 a0_1) := (blk_cell BK3.out 1).trans rfl; have hcz273 : w269.cell? ⟨gb35, 0, none⟩ = some (.int .i64 t22) := (blk_cell BK37.out 0).trans rfl; have hcz274 : w269.cell? ⟨gb35, 1, none⟩ = some (.slice Aoo31 t23.length coo31) := (blk_cell BK37.out 1).trans rfl; have hcz275 : w269.cell? ⟨gb35, 2, none⟩ = some (.slice Aoo32 t24.length coo32) := (blk_cell BK37.out 2).trans rfl; have hcz276 : w269.cell? ⟨gb59, 0, none⟩ = some (.slice Aoo53 t47.length coo53) := (blk_cell BK61.out 0).trans rfl; have hcz277 : w269.cell? ⟨gb59, 1, none⟩ = some (.int .i64 t48) := (blk_cell BK61.out 1).trans rfl; have hcz278 : w269.cell? ⟨gb91, 0, none⟩ = some (.int .i64 t73) := (blk_cell BK93.out 0).trans rfl; have hcz279 : w269.cell? ⟨gb91, 1, none⟩ = some (.slice Aoo82 t74.length coo82) := (blk_cell BK93.out 1).trans rfl; have hcz280 : w269.cell? ⟨gb91, 2, none⟩ = some (.slice Aoo83 t75.length coo83) := (blk_cell BK93.out 2).trans rfl; have hcz281 : w269.cell? ⟨gb244, 0, none⟩ = some (.int .i64 t223) := (blk_cell BK246.out 0).trans rfl; have hcz282 : w269.cell? ⟨gb244, 1, none⟩ = some (.slice Aoo232 t224.length coo232) := (blk_cell BK246.out 1).trans rfl; have hcz283 : w269.cell? ⟨gb244, 2, none⟩ = some (.slice Aoo233 t225.length coo233) := (blk_cell BK246.out 2).trans rfl) | ((with_reducible refine gate_callee (f := 34) rfl ?_); refine goesL_ (some 90) rfl rfl Try.func34 (by kernel_rfl) rfl #[.agg #[.int .i64 t73, .slice Aoo82 t176.length coo82, .slice Aoo83 t177.length coo83], .int .i64 1] rfl (by (try simp only [List.map_toArray, List.map_cons, List.map_nil]); first | done | rfl | (simp only [LEN180.out, LEN181.out]; rfl)) ?_; (with_reducible refine (laws_heldTxn.calls k t73 _ _ t176 _ _ t177 1 t284 _ ?side1 ?side2 ?side3 ?side4 A285.out).mono ?_); (case side1 => exact Kd.C_below (Kd.R_reads' HO80.out).2.2 (by repeat (first | (with_reducible first | exact HX.out | apply below_alloc | apply pw_below_drewN | apply below_drew1) | exact HX.out))); (case side2 => have z_ := Kd.R_reads' HO80.out; have y_ := z_.1; have x_ := z_.2.1; omega); (case side3 => exact Kd.C_below (Kd.R_reads' HO81.out).2.2 (by repeat (first | (with_reducible first | exact HX.out | apply below_alloc | apply pw_below_drewN | apply below_drew1) | exact HX.out))); (case side4 => have z_ := Kd.R_reads' HO81.out; have y_ := z_.1; have x_ := z_.2.1; omega); rintro e w286 ⟨rfl, hb⟩; refine ⟨_, rfl, ?_⟩; have hbt := below_step (by repeat (first | (with_reducible first | exact HX.out | apply below_alloc | apply pw_below_drewN | apply below_drew1) | exact HX.out)) hb; have n0_ := Aside0.mk (blk_below (g := gb1) BK3.out hbt); have n1_ := Aside0.mk (Kd.S_below HO18.out hbt); have n2_ := Aside0.mk (Kd.R_below HO29.out hbt); have n3_ := Aside0.mk (Kd.R_below HO30.out hbt); have n4_ := Aside0.mk (blk_below (g := gb35) BK37.out hbt); have n5_ := Aside0.mk (blk_below (g := gb59) BK61.out hbt); have n6_ := Aside0.mk (Kd.R_below HO80.out hbt); have n7_ := Aside0.mk (Kd.R_below HO81.out hbt); have n8_ := Aside0.mk (blk_below (g := gb91) BK93.out hbt); have n9_ := Aside0.mk (Kd.S_below HO130.out hbt); have n10_ := Aside0.mk (Kd.S_below HO211.out hbt); have n11_ := Aside0.mk (Kd.R_below HO230.out hbt); have n12_ := Aside0.mk (Kd.R_below HO231.out hbt); have n13_ := Aside0.mk (blk_below (g := gb244) BK246.out hbt); have n14_ := Aside0.mk (Below.refl w286.heap.size w286); have n15_ := Aside0.mk (below_step HB.out hbt); have n16_ := Aside0.mk (Nat.le_trans (Nat.le_trans HN.out (below_size (by repeat (first | (with_reducible first | exact HX.out | apply below_alloc | apply pw_below_drewN | apply below_drew1) | exact HX.out)))) hb.size); clear BK3 HO18 HO29 HO30 BK37 BK61 HO80 HO81 BK93 HO130 HO211 HO230 HO231 BK246 HX HB HN; have BK3 := n0_; have HO18 := n1_; have HO29 := n2_; have HO30 := n3_; have BK37 := n4_; have BK61 := n5_; have HO80 := n6_; have HO81 := n7_; have BK93 := n8_; have HO130 := n9_; have HO211 := n10_; have HO230 := n11_; have HO231 := n12_; have BK246 := n13_; have HX := n14_; have HB := n15_; have HN := n16_; clear n0_ n1_ n2_ n3_ n4_ n5_ n6_ n7_ n8_ n9_ n10_ n11_ n12_ n13_ n14_ n15_ n16_; (try clear hb); (try clear hbt); (try clear hkt); (try clear hkp); (try clear hb0); (try clear hp_); (try clear hl_); (try clear hh_); (try clear hd_); have hcz288 : w286.cell? ⟨gb1, 0, none⟩ = some (.slice A0_0 l0_0.length c0_0) := (blk_cell BK3.out 0).trans rfl; have hcz289 : w286.cell? ⟨gb1, 1, none⟩ = some (.int .i64 a0_1) := (blk_cell BK3.out 1).trans rfl; have hcz290 : w286.cell? ⟨gb35, 0, none⟩ = some (.int .i64 t22) := (blk_cell BK37.out 0).trans rfl; have hcz291 : w286.cell? ⟨gb35, 1, none⟩ = some (.slice Aoo31 t23.length coo31) := (blk_cell BK37.out 1).trans rfl; have hcz292 : w286.cell? ⟨gb35, 2, none⟩ = some (.slice Aoo32 t24.length coo32) := (blk_cell BK37.out 2).trans rfl; have hcz293 : w286.cell? ⟨gb59, 0, none⟩ = some (.slice Aoo53 t47.length coo53) := (blk_cell BK61.out 0).trans rfl; have hcz294 : w286.cell? ⟨gb59, 1, none⟩ = some (.int .i64 t48) := (blk_cell BK61.out 1).trans rfl; have hcz295 : w286.cell? ⟨gb91, 0, none⟩ = some (.int .i64 t73) := (blk_cell BK93.out 0).trans rfl; have hcz296 : w286.cell? ⟨gb91, 1, none⟩ = some (.slice Aoo82 t74.length coo82) := (blk_cell BK93.out 1).trans rfl; have hcz297 : w286.cell? ⟨gb91, 2, none⟩ = some (.slice Aoo83 t75.length coo83) := (blk_cell BK93.out 2).trans rfl; have hcz298 : w286.cell? ⟨gb244, 0, none⟩ = some (.int .i64 t223) := (blk_cell BK246.out 0).trans rfl; have hcz299 : w286.cell? ⟨gb244, 1, none⟩ = some (.slice Aoo232 t224.length coo232) := (blk_cell BK246.out 1).trans rfl; have hcz300 : w286.cell? ⟨gb244, 2, none⟩ = some (.slice Aoo233 t225.length coo233) := (blk_cell BK246.out 2).trans rfl))
  go_ret
  exact ⟨by first | rfl | (simp [*]; done), below_step HB.out (by repeat (first | (with_reducible first | exact HX.out | apply below_alloc | apply pw_below_drewN | apply below_drew1) | exact HX.out))⟩

end Go.Proofs.Ytkijkmmeilaljaa.Q
namespace Go.Proofs.Ytkijkmmeilaljaa.Q
open Go.RowKit Go.Proofs.YtkijkmmeilaljaaW.PrintWords Go.Proofs.Ytkijkmmeilaljaa.Opens
set_option linter.unusedVariables false
def i90 (x : S90) : Prop := (Lit.int .i64 x.f0).wf = true ∧ (Lit.int .i64 x.f1).wf = true
theorem o90 : Opens Try.prog 90 k90 i90 := opens_struct (N := 2) Try.underlying90 (by kernel_rfl) (opensF_cons rfl (by kernel_rfl) (opens_int Try.underlying3) (opensF_one rfl rfl (by kernel_rfl) (opens_int Try.underlying3))) (fun y => ⟨y.1, y.2⟩) (fun _ => rfl)
def i24 (x : S24) : Prop := (x.f0.length ≤ 9223372036854775807 ∧ ∀ y1_ ∈ x.f0, (y1_.length ≤ 9223372036854775807 ∧ ∀ y2_ ∈ y1_, i90 y2_)) ∧ (Lit.int .i64 x.f1).wf = true
theorem o24 : Opens Try.prog 24 k24 i24 := opens_struct (N := 2) Try.underlying24 (by kernel_rfl) (opensF_cons rfl (by kernel_rfl) (opens_slice Try.underlying22 (by kernel_rfl) (opens_slice Try.underlying77 (by kernel_rfl) o90)) (opensF_one rfl rfl (by kernel_rfl) (opens_int Try.underlying3))) (fun y => ⟨y.1, y.2⟩) (fun _ => rfl)
end Go.Proofs.Ytkijkmmeilaljaa.Q
namespace Go.Proofs.Ytkijkmmeilaljaa.Q
open Go.RowKit Go.Proofs.YtkijkmmeilaljaaW.PrintWords Go.Proofs.Ytkijkmmeilaljaa.Opens
set_option linter.unusedVariables false
def laws_FnExactBegin.Pure2 : Prop := ∀ (y0 : S24), i24 y0 → ∃ k, laws_FnExactBegin.f k y0.f0 y0.f1 = some true
end Go.Proofs.Ytkijkmmeilaljaa.Q
namespace Go.Proofs.Ytkijkmmeilaljaa.Pure2
open Go.RowKit Go.Proofs.Ytkijkmmeilaljaa.Q Go.Proofs.YtkijkmmeilaljaaW.PrintWords Go.Proofs.YtkijkmmeilaljaaW.PrintLast
set_option linter.unusedVariables false
set_option linter.unusedSimpArgs false
/-! small words -/
theorem wsucc {j n : Nat} (h : j < n) (hn : n ≤ 4611686018427387904) : wrap64 ((j : Int) + 1) = ((j + 1 : Nat) : Int) := by unfold wrap64; omega
theorem ev_step {α : Type} {g f : Nat → Option α} {r : α} (h : ∃ K, ∀ k, K ≤ k → g (k + 1) = f k) (k : Ev f r) : Ev g r := by
  obtain ⟨K, h⟩ := h
  obtain ⟨K', k⟩ := k
  refine ⟨max K K' + 1, fun n hn => ?_⟩
  obtain ⟨m, rfl⟩ : ∃ m, n = m + 1 := ⟨n - 1, by omega⟩
  rw [h m (by omega), k m (by omega)]
theorem ev_now {α : Type} {g : Nat → Option α} {r : α} (h : ∃ K, ∀ k, K ≤ k → g (k + 1) = some r) : Ev g r := ev_step (f := fun _ => some r) h (Ev.now r)
theorem ev_same {α : Type} {g f : Nat → Option α} {r : α} (h : ∃ K, ∀ k, K ≤ k → g k = f k) (k : Ev f r) : Ev g r := by
  obtain ⟨K, h⟩ := h
  obtain ⟨K', k⟩ := k
  exact ⟨max K K', fun n hn => by rw [h n (by omega), k n (by omega)]⟩
theorem ev_two {α β : Type} {g : Nat → Option α} {f : Nat → Option β} {r : α} {q : β} (h : Ev g r) (k : Ev f q) : ∃ K, ∀ n, K ≤ n → g n = some r ∧ f n = some q := by
  obtain ⟨K, h⟩ := h
  obtain ⟨K', k⟩ := k
  exact ⟨max K K', fun n hn => ⟨h n (by omega), k n (by omega)⟩⟩
theorem ev_mk {α : Type} {g : Nat → Option α} {r : α} (K : Nat) (h : ∀ k, K ≤ k → g k = some r) : Ev g r := ⟨K, h⟩
theorem ev_at {α : Type} {g : Nat → Option α} {r : α} (h : Ev g r) : ∃ K, ∀ k, K ≤ k → g k = some r := h
/-- A loop that counts up to n: from the end back. -/
theorem count_loop {ρ : Type} (n : Nat) (L : Nat → Int → Option ρ) (Post : Nat → ρ → Prop) (hend : ∃ r, Post n r ∧ Ev (fun k => L k (n : Int)) r)
    (hstep : ∀ j, j < n → ∀ r, Post (j + 1) r → Ev (fun k => L k ((j + 1 : Nat) : Int)) r → ∃ r', Post j r' ∧ Ev (fun k => L k (j : Int)) r') :
    ∀ j, j ≤ n → ∃ r, Post j r ∧ Ev (fun k => L k (j : Int)) r := by
  have key : ∀ d j, j ≤ n → n - j = d → ∃ r, Post j r ∧ Ev (fun k => L k (j : Int)) r := by
    intro d
    induction d with
    | zero => intro j hj hd; obtain rfl : j = n := by omega
              exact hend
    | succ d ih =>
      intro j hj hd
      obtain ⟨r, hp, he⟩ := ih (j + 1) (by omega) (by omega)
      exact hstep j (by omega) r hp he
  intro j hj
  exact key _ j hj rfl
/-- A loop that carries a state up to n. -/
theorem state_loop {σ ρ : Type} (n : Nat) (L : Nat → σ → Int → Option ρ) (Inv : Nat → σ → Prop) (Post : Nat → σ → ρ → Prop) (hend : ∀ s, Inv n s → ∃ r, Post n s r ∧ Ev (fun k => L k s (n : Int)) r)
    (hstep : ∀ j s, j < n → Inv j s → (∃ r, Post j s r ∧ Ev (fun k => L k s (j : Int)) r) ∨ ∃ s', Inv (j + 1) s' ∧ (∀ r, Post (j + 1) s' r → Post j s r) ∧ ∃ K, ∀ k, K ≤ k → L (k + 1) s (j : Int) = L k s' ((j + 1 : Nat) : Int)) :
    ∀ j s, j ≤ n → Inv j s → ∃ r, Post j s r ∧ Ev (fun k => L k s (j : Int)) r := by
  have key : ∀ d j s, j ≤ n → n - j = d → Inv j s → ∃ r, Post j s r ∧ Ev (fun k => L k s (j : Int)) r := by
    intro d
    induction d with
    | zero => intro j s hj hd hi; obtain rfl : j = n := by omega
              exact hend s hi
    | succ d ih =>
      intro j s hj hd hi
      rcases hstep j s (by omega) hi with h | ⟨s', hi', hp, hk⟩
      · exact h
      · obtain ⟨r, hr, he⟩ := ih (j + 1) s' (by omega) (by omega) hi'
        exact ⟨r, hp r hr, ev_step hk he⟩
  intro j s hj hi
  exact key _ j s hj rfl hi
/-- A loop that fills a row of its own. -/
theorem fill_loop {α β : Type} (xs : List α) (z : α) (g : α → β) (L : Nat → List β → Int → Option (List β)) (hend : ∀ y : List β, y.length = xs.length → ∃ K, ∀ k, K ≤ k → L (k + 1) y (xs.length : Int) = some y)
    (hstep : ∀ (j : Nat) (y : List β), j < xs.length → y.length = xs.length → ∃ K, ∀ k, K ≤ k → L (k + 1) y (j : Int) = L k (y.set j (g (xs.getD j z))) ((j + 1 : Nat) : Int)) (y : List β) (hy : y.length = xs.length) :
    Ev (fun k => L k y 0) (xs.map g) := by
  obtain ⟨r, hr, he⟩ := state_loop xs.length L (fun j y => y.length = xs.length ∧ ∀ i, i < j → y[i]? = (xs.map g)[i]?) (fun _ _ r => r = xs.map g) (fun y hi => ⟨y, List.ext_getElem? fun i => by
      by_cases hi' : i < xs.length
      · exact hi.2 i hi'
      · rw [List.getElem?_eq_none (by omega), List.getElem?_eq_none (by simp; omega)], ev_now (hend y hi.1)⟩) (fun j y hj hi => .inr ⟨_, ⟨by simp [hi.1], fun i hij => by
      by_cases he : i = j
      · subst he
        rw [List.getElem?_set_self (by omega)]
        simp [List.getD_eq_getElem?_getD, List.getElem?_eq_getElem hj]
      · rw [List.getElem?_set_ne (by omega)]
        exact hi.2 i (by omega)⟩, fun r h => h, hstep j y hj hi.1⟩) 0 y (by omega) ⟨hy, fun i hi => by omega⟩
  subst hr
  exact he
/-- The measure of a store that came in. -/
theorem sz_row (l : List S90) (a : Int) (h0 : 0 ≤ a) (h1 : a ≤ 1048576) (hl : l.length ≤ 9223372036854775807) : ∃ r, laws_szVersionS.f l a = some r ∧ (r < 0 ∨ 0 ≤ r ∧ r ≤ a ∧ l.length ≤ 1048576) := by
  have hw : wrap64 (a - (l.length : Int)) = a - (l.length : Int) := by unfold wrap64; omega
  unfold laws_szVersionS.f
  rw [hw]
  by_cases h : a - (l.length : Int) < 0
  · rw [if_pos h]; exact ⟨_, rfl, .inl (by omega)⟩
  · rw [if_neg h]; exact ⟨_, rfl, .inr ⟨by omega, by omega, by omega⟩⟩
theorem sz_rows (l : List (List S90)) (a : Int) (h0 : 0 ≤ a) (h1 : a ≤ 1048576) (hl : l.length ≤ 9223372036854775807) (hx : ∀ x ∈ l, x.length ≤ 9223372036854775807) :
    ∃ r, Ev (fun k => laws_szVersionSS.f k l a) r ∧ (r < 0 ∨ 0 ≤ r ∧ r ≤ a ∧ l.length ≤ 1048576 ∧ ∀ x ∈ l, x.length ≤ 1048576) := by
  have hw : wrap64 (a - (l.length : Int)) = a - (l.length : Int) := by unfold wrap64; omega
  by_cases h : a - (l.length : Int) < 0
  · exact ⟨-1, ev_mk 0 (fun k _ => by unfold laws_szVersionSS.f; rw [hw, if_pos h]), .inl (by omega)⟩
  · obtain ⟨r, hr, he⟩ := state_loop l.length (fun k s i => laws_szVersionSS.l0 k l s i) (fun j s => 0 ≤ s ∧ s ≤ a ∧ ∀ i, i < j → (l.getD i []).length ≤ 1048576) (fun _ _ r => r < 0 ∨ 0 ≤ r ∧ r ≤ a ∧ ∀ i, i < l.length → (l.getD i []).length ≤ 1048576)
      (fun s hi => ⟨s, .inr hi, ev_now ⟨0, fun k _ => by simp only [laws_szVersionSS.l0]; rw [if_neg (by omega)]⟩⟩)
      (fun j s hj hi => by
        have hm : (l.getD j []) ∈ l := by rw [List.getD_eq_getElem?_getD, List.getElem?_eq_getElem hj]; exact List.getElem_mem hj
        obtain ⟨t, e, ht⟩ := sz_row (l.getD j []) s hi.1 (by omega) (hx _ hm)
        have e' : laws_szVersionS.f (rd_L2 l (j : Int)) s = some t := e
        rcases ht with ht | ⟨t0, t1, t2⟩
        · exact .inl ⟨-1, .inl (by omega), ev_now ⟨0, fun k _ => by simp only [laws_szVersionSS.l0]; rw [if_pos (by omega), if_pos (by omega), e']; simp only [Option.bind_some]; rw [if_pos ht]⟩⟩
        · refine .inr ⟨t, ⟨t0, by omega, fun i hij => ?_⟩, fun r h => h, 0, fun k _ => by simp only [laws_szVersionSS.l0]; rw [if_pos (by omega), if_pos (by omega), e']; simp only [Option.bind_some]; rw [if_neg (by omega), wsucc hj (by omega)]⟩
          rcases Nat.lt_or_eq_of_le (Nat.le_of_lt_succ hij) with h' | rfl
          · exact hi.2.2 i h'
          · exact t2) 0 (a - l.length) (by omega) ⟨by omega, by omega, fun i hi => by omega⟩
    refine ⟨r, ev_same ⟨0, fun k _ => by unfold laws_szVersionSS.f; rw [hw, if_neg h]; rfl⟩ he, ?_⟩
    rcases hr with hr | ⟨h2, h3, h4⟩
    · exact .inl hr
    · refine .inr ⟨h2, h3, by omega, fun x hx' => ?_⟩
      obtain ⟨i, hi, rfl⟩ := List.getElem_of_mem hx'
      have := h4 i hi
      rw [List.getD_eq_getElem?_getD, List.getElem?_eq_getElem hi] at this
      exact this
def Small (l : List (List S90)) : Prop := l.length ≤ 1048576 ∧ ∀ x ∈ l, x.length ≤ 1048576
theorem sz_store (y : S24) (a : Int) (h0 : 0 ≤ a) (h1 : a ≤ 1048576) (hi : i24 y) : ∃ r, Ev (fun k => laws_szStore.f k y.f0 y.f1 a) r ∧ (r < 0 ∨ 0 ≤ r ∧ r ≤ a ∧ Small y.f0) := by
  obtain ⟨r, he, hr⟩ := sz_rows y.f0 a h0 h1 hi.1.1 (fun x hx => (hi.1.2 x hx).1)
  obtain ⟨K, he⟩ := ev_at he
  rcases hr with hr | ⟨h2, h3, h4⟩
  · exact ⟨-1, ev_mk K (fun k hk => by unfold laws_szStore.f; rw [he k hk]; simp only [Option.bind_some]; rw [if_pos hr]), .inl (by omega)⟩
  · exact ⟨r, ev_mk K (fun k hk => by unfold laws_szStore.f; rw [he k hk]; simp only [Option.bind_some]; rw [if_neg (by omega)]), .inr ⟨h2, h3, h4⟩⟩
def cvV (x : S90) : S61 := ⟨x.f0, x.f1⟩
def cvS (l : List (List S90)) : List (List S61) := l.map (List.map cvV)
theorem to_row (l : List S90) (hl : l.length ≤ 1048576) : Ev (fun k => laws_toVersionS.f k l) (l.map cvV) := by
  have h := fill_loop l z90 cvV (fun k y i => laws_toVersionS.l0 k l y i) (fun y hy => ⟨0, fun k _ => by simp only [laws_toVersionS.l0]; rw [if_neg (by omega)]⟩)
    (fun j y hj hy => ⟨0, fun k _ => by
      simp only [laws_toVersionS.l0, laws_toVersion.f]; rw [if_pos (by omega), if_pos (by omega)]; simp only [Option.bind_some]; rw [if_pos (by omega), wsucc hj (by omega)]; rfl⟩) (List.replicate l.length z61) (by simp)
  refine ev_same ⟨0, fun k _ => ?_⟩ h
  unfold laws_toVersionS.f
  rw [if_pos (by omega), if_pos (by simp; omega), Int.toNat_natCast]
theorem to_rows (l : List (List S90)) (hl : Small l) : Ev (fun k => laws_toVersionSS.f k l) (cvS l) := by
  have h := fill_loop l [] (List.map cvV) (fun k y i => laws_toVersionSS.l0 k l y i) (fun y hy => ⟨0, fun k _ => by simp only [laws_toVersionSS.l0]; rw [if_neg (by omega)]⟩)
    (fun j y hj hy => by
      have hm : (l.getD j []) ∈ l := by rw [List.getD_eq_getElem?_getD, List.getElem?_eq_getElem hj]; exact List.getElem_mem hj
      obtain ⟨K, hk⟩ := to_row (l.getD j []) (hl.2 _ hm)
      refine ⟨K, fun k hK => ?_⟩
      have e' : laws_toVersionS.f k (rd_L2 l (j : Int)) = some ((l.getD j []).map cvV) := hk k hK
      have hl' := hl.1
      simp only [laws_toVersionSS.l0]; rw [if_pos (by omega), if_pos (by omega), e']; simp only [Option.bind_some]; rw [if_pos (by omega), wsucc hj (by omega)]; rfl) (List.replicate l.length []) (by simp)
  refine ev_same ⟨0, fun k _ => ?_⟩ h
  have hl' := hl.1
  unfold laws_toVersionSS.f
  rw [if_pos (by omega), if_pos (by simp; omega), Int.toNat_natCast]
theorem to_store (l : List (List S90)) (n : Int) (hl : Small l) : Ev (fun k => laws_toStore.f k l n) (cvS l, n) := by
  obtain ⟨K, h⟩ := ev_at (to_rows l hl)
  exact ev_mk K (fun k hk => by unfold laws_toStore.f; rw [h k hk]; rfl)
theorem eq_row (l : List S61) (hl : l.length ≤ 1048576) : Ev (fun k => laws_eqVersionS.f k l l) true := by
  obtain ⟨r, hr, he⟩ := count_loop l.length (fun k i => laws_eqVersionS.l0 k l l i) (fun _ r => r = true) ⟨true, rfl, ev_now ⟨0, fun k _ => by simp only [laws_eqVersionS.l0]; rw [if_neg (by omega)]⟩⟩
    (fun j hj r hr he => ⟨r, hr, ev_step ⟨0, fun k _ => by simp only [laws_eqVersionS.l0, laws_eqVersion.f]; rw [if_pos (by omega), if_pos (by omega), if_pos (by omega)]; simp only [if_true, Option.bind_some]; rw [wsucc hj (by omega)]⟩ he⟩) 0 (by omega)
  subst hr
  exact ev_same ⟨0, fun k _ => by unfold laws_eqVersionS.f; rw [if_pos rfl]; rfl⟩ he
theorem eq_rows (l : List (List S61)) (hl : l.length ≤ 1048576) (hx : ∀ x ∈ l, x.length ≤ 1048576) : Ev (fun k => laws_eqVersionSS.f k l l) true := by
  obtain ⟨r, hr, he⟩ := count_loop l.length (fun k i => laws_eqVersionSS.l0 k l l i) (fun _ r => r = true) ⟨true, rfl, ev_now ⟨0, fun k _ => by simp only [laws_eqVersionSS.l0]; rw [if_neg (by omega)]⟩⟩
    (fun j hj r hr he => by
      have hm : (l.getD j []) ∈ l := by rw [List.getD_eq_getElem?_getD, List.getElem?_eq_getElem hj]; exact List.getElem_mem hj
      obtain ⟨K, hk⟩ := eq_row (l.getD j []) (hx _ hm)
      exact ⟨r, hr, ev_step ⟨K, fun k hK => by
        have e' : laws_eqVersionS.f k (rd_L4 l (j : Int)) (rd_L4 l (j : Int)) = some true := hk k hK
        simp only [laws_eqVersionSS.l0]; rw [if_pos (by omega), if_pos (by omega), if_pos (by omega), e']; simp only [if_true, Option.bind_some]; rw [wsucc hj (by omega)]⟩ he⟩) 0 (by omega)
  subst hr
  exact ev_same ⟨0, fun k _ => by unfold laws_eqVersionSS.f; rw [if_pos rfl]; rfl⟩ he
theorem eq_store (l : List (List S61)) (n : Int) (hl : l.length ≤ 1048576) (hx : ∀ x ∈ l, x.length ≤ 1048576) : Ev (fun k => laws_eqStore.f k l n l n) true := by
  obtain ⟨K, h⟩ := ev_at (eq_rows l hl hx)
  exact ev_mk K (fun k hk => by unfold laws_eqStore.f; rw [h k hk]; simp)
theorem small_cv (l : List (List S90)) (h : Small l) : (cvS l).length ≤ 1048576 ∧ ∀ x ∈ cvS l, x.length ≤ 1048576 := by
  refine ⟨by simpa [cvS] using h.1, fun x hx => ?_⟩
  simp only [cvS, List.mem_map] at hx
  obtain ⟨y, hy, rfl⟩ := hx
  simpa using h.2 y hy
def fitsB (key v : Int) : Bool := if Int.tmod key 2 = 1 then decide (0 ≤ v ∧ v ≤ 8) else decide (-2147483648 ≤ v ∧ v ≤ 2147483647)
theorem spec_in (a b c : Int) : spec_l01In.f a b c = some (decide (b ≤ a ∧ a ≤ c)) := by
  unfold spec_l01In.f
  by_cases h : b ≤ a
  · rw [if_pos h]; simp [h]
  · rw [if_neg h]; simp [h]
theorem impl_in (a b c : Int) : impl_within.f a b c = some (decide (b ≤ a ∧ a ≤ c)) := spec_in a b c
theorem spec_fits (a b : Int) : spec_l06Value.f a b = some (fitsB a b) := by
  unfold spec_l06Value.f spec_IsInt.f fitsB
  by_cases h : Int.tmod a 2 = 1
  · rw [if_pos h, if_pos h, spec_in]; rfl
  · rw [if_neg h, if_neg h, spec_in]; rfl
theorem impl_fits (a b : Int) : impl_fits.f a b = some (fitsB a b) := by
  unfold impl_fits.f impl_IsInt.f fitsB
  by_cases h : Int.tmod a 2 = 1
  · rw [if_pos h, if_pos h, impl_in]; rfl
  · rw [if_neg h, if_neg h, impl_in]; rfl
/-- A version that is right at its place. -/
def VerOK (now : Int) (key : Nat) (c : List S61) (i : Nat) : Prop :=
  1 ≤ (c.getD i z61).f0 ∧ (c.getD i z61).f0 ≤ now ∧ fitsB key (c.getD i z61).f1 = true ∧ (0 < i → (c.getD (i - 1) z61).f0 < (c.getD i z61).f0)
def IsStore (cs : List (List S61)) (now : Int) : Prop := cs.length = 16 ∧ 0 ≤ now ∧ now ≤ 100000 ∧ ∀ i, i < 16 → ∀ j, j < (cs.getD i []).length → VerOK now i (cs.getD i []) j
theorem spec_chain (cs : List (List S61)) (now : Int) (hl : cs.length = 16) (i : Nat) (hi : i < 16) (hx : (cs.getD i []).length ≤ 1048576) (R : Bool) (hR : Ev (fun k => spec_StoreOK.l0 k ((i + 1 : Nat) : Int) cs now) R) :
    ∃ r, Ev (fun k => spec_StoreOK.l1 k i 0 cs now) r ∧ (r = true ↔ (∀ j, j < (cs.getD i []).length → VerOK now i (cs.getD i []) j) ∧ R = true) := by
  obtain ⟨r, hr, he⟩ := count_loop (cs.getD i []).length (fun k j => spec_StoreOK.l1 k i j cs now) (fun j r => r = true ↔ (∀ j', j ≤ j' → j' < (cs.getD i []).length → VerOK now i (cs.getD i []) j') ∧ R = true)
    ⟨R, ⟨fun h => ⟨fun j' h1 h2 => by omega, h⟩, fun h => h.2⟩, ev_step ⟨0, fun k _ => by
      simp only [spec_StoreOK.l1]; rw [if_pos (by omega), if_pos (by omega), if_neg (by show ¬ ((cs.getD i []).length : Int) < ((rd_L4 cs (i : Int)).length : Int); simp [rd_L4]), wsucc (n := 16) hi (by omega)]⟩ hR⟩
    (fun j hj r hr he => by
      have hd : rd_L4 cs (i : Int) = cs.getD i [] := rfl
      have hv : rd_T61 (cs.getD i []) (j : Int) = (cs.getD i []).getD j z61 := rfl
      have hw1 : 0 < j → rd_T61 (cs.getD i []) (wrap64 ((j : Int) - 1)) = (cs.getD i []).getD (j - 1) z61 := fun h0 => by
        have : wrap64 ((j : Int) - 1) = ((j - 1 : Nat) : Int) := by unfold wrap64; omega
        rw [this]; rfl
      have hw2 : 0 < j → 0 ≤ wrap64 ((j : Int) - 1) ∧ wrap64 ((j : Int) - 1) < ((cs.getD i []).length : Int) := fun h0 => by
        have : wrap64 ((j : Int) - 1) = ((j - 1 : Nat) : Int) := by unfold wrap64; omega
        rw [this]; omega
      have no : ¬ VerOK now i (cs.getD i []) j → (∃ K, ∀ k, K ≤ k → spec_StoreOK.l1 (k + 1) i j cs now = some false) → ∃ r', (r' = true ↔ (∀ j', j ≤ j' → j' < (cs.getD i []).length → VerOK now i (cs.getD i []) j') ∧ R = true) ∧ Ev (fun k => spec_StoreOK.l1 k i j cs now) r' :=
        fun hn hk => ⟨false, ⟨fun h => (by cases h), fun h => absurd (h.1 j (Nat.le_refl _) hj) hn⟩, ev_now hk⟩
      have yes : VerOK now i (cs.getD i []) j → (∃ K, ∀ k, K ≤ k → spec_StoreOK.l1 (k + 1) i j cs now = spec_StoreOK.l1 k i ((j + 1 : Nat) : Int) cs now) → ∃ r', (r' = true ↔ (∀ j', j ≤ j' → j' < (cs.getD i []).length → VerOK now i (cs.getD i []) j') ∧ R = true) ∧ Ev (fun k => spec_StoreOK.l1 k i j cs now) r' :=
        fun hn hk => ⟨r, hr.trans ⟨fun h => ⟨fun j' h1 h2 => by
          rcases Nat.lt_or_eq_of_le h1 with h3 | rfl
          · exact h.1 j' h3 h2
          · exact hn, h.2⟩, fun h => ⟨fun j' h1 h2 => h.1 j' (by omega) h2, h.2⟩⟩, ev_step hk he⟩
      have hh : ∀ k, spec_StoreOK.l1 (k + 1) i j cs now = if (decide (1 ≤ ((cs.getD i []).getD j z61).f0 ∧ ((cs.getD i []).getD j z61).f0 ≤ now)) = true then (if fitsB i ((cs.getD i []).getD j z61).f1 = true then (if (j : Int) > 0 then (if ((cs.getD i []).getD (j - 1) z61).f0 ≥ ((cs.getD i []).getD j z61).f0 then some false else spec_StoreOK.l1 k i ((j + 1 : Nat) : Int) cs now) else spec_StoreOK.l1 k i ((j + 1 : Nat) : Int) cs now) else some false) else some false := by
        intro k
        conv => lhs; simp only [spec_StoreOK.l1]
        rw [hd, if_pos (by omega), if_pos (by omega), if_pos (by omega), if_pos (by omega), spec_in, spec_fits, hv]
        simp only [Option.bind_some, wsucc hj (by omega)]
        by_cases h0 : 0 < j
        · rw [hw1 h0, if_pos (hw2 h0).1, if_pos (hw2 h0).2]
        · simp only [if_neg (show ¬ ((j : Int) > 0) by omega)]
      by_cases h1 : 1 ≤ ((cs.getD i []).getD j z61).f0 ∧ ((cs.getD i []).getD j z61).f0 ≤ now
      · by_cases h2 : fitsB i ((cs.getD i []).getD j z61).f1 = true
        · by_cases h3 : 0 < j
          · by_cases h4 : ((cs.getD i []).getD (j - 1) z61).f0 ≥ ((cs.getD i []).getD j z61).f0
            · exact no (fun h => absurd (h.2.2.2 h3) (by omega)) ⟨0, fun k _ => by rw [hh, if_pos (decide_eq_true h1), if_pos h2, if_pos (by omega), if_pos h4]⟩
            · exact yes ⟨h1.1, h1.2, h2, fun _ => by omega⟩ ⟨0, fun k _ => by rw [hh, if_pos (decide_eq_true h1), if_pos h2, if_pos (by omega), if_neg h4]⟩
          · exact yes ⟨h1.1, h1.2, h2, fun h => absurd h h3⟩ ⟨0, fun k _ => by rw [hh, if_pos (decide_eq_true h1), if_pos h2, if_neg (by omega)]⟩
        · exact no (fun h => h2 h.2.2.1) ⟨0, fun k _ => by rw [hh, if_pos (decide_eq_true h1), if_neg h2]⟩
      · exact no (fun h => h1 ⟨h.1, h.2.1⟩) ⟨0, fun k _ => by rw [hh, if_neg (by simpa using h1)]⟩) 0 (by omega)
  exact ⟨r, he, hr.trans ⟨fun h => ⟨fun j hj => h.1 j (by omega) hj, h.2⟩, fun h => ⟨fun j _ hj => h.1 j hj, h.2⟩⟩⟩
theorem spec_store_ok (cs : List (List S61)) (now : Int) (hx : ∀ x ∈ cs, x.length ≤ 1048576) : ∃ r, Ev (fun k => spec_StoreOK.f k cs now) r ∧ (r = true ↔ IsStore cs now) := by
  by_cases hl : cs.length = 16
  · by_cases hn : 0 ≤ now ∧ now ≤ 100000
    · obtain ⟨r, hr, he⟩ := count_loop 16 (fun k i => spec_StoreOK.l0 k i cs now) (fun i r => r = true ↔ ∀ i', i ≤ i' → i' < 16 → ∀ j, j < (cs.getD i' []).length → VerOK now i' (cs.getD i' []) j)
        ⟨true, ⟨fun _ i' h1 h2 => by omega, fun _ => rfl⟩, ev_now ⟨0, fun k _ => by simp only [spec_StoreOK.l0]; rw [if_neg (by omega)]⟩⟩
        (fun i hi R hR he => by
          have hm : (cs.getD i []) ∈ cs := by rw [List.getD_eq_getElem?_getD, List.getElem?_eq_getElem (by omega)]; exact List.getElem_mem (by omega)
          obtain ⟨r, he', hr⟩ := spec_chain cs now hl i hi (hx _ hm) R he
          refine ⟨r, ?_, ev_step ⟨0, fun k _ => by simp only [spec_StoreOK.l0]; rw [if_pos (by omega)]⟩ he'⟩
          rw [hr, hR]
          constructor
          · rintro ⟨h1, h2⟩ i' h3 h4
            rcases Nat.lt_or_eq_of_le h3 with h5 | rfl
            · exact h2 i' h5 h4
            · exact h1
          · intro h; exact ⟨h i (Nat.le_refl _) hi, fun i' h3 h4 => h i' (by omega) h4⟩) 0 (by omega)
      refine ⟨r, ?_, hr.trans ⟨fun h => ⟨hl, hn.1, hn.2, fun i hi => h i (by omega) hi⟩, fun h i _ hi => h.2.2.2 i hi⟩⟩
      refine ev_step (f := fun k => spec_StoreOK.l0 k 0 cs now) ⟨0, fun k _ => ?_⟩ he
      unfold spec_StoreOK.f
      rw [if_pos (by omega), spec_in]
      simp only [Option.bind_some, decide_eq_true hn, Bool.not_true, spec_StoreOK.j0]
      rw [if_neg (by simp)]
    · refine ⟨false, ev_now ⟨0, fun k _ => ?_⟩, ⟨fun h => (by cases h), fun h => absurd ⟨h.2.1, h.2.2.1⟩ hn⟩⟩
      unfold spec_StoreOK.f
      rw [if_pos (by omega), spec_in]
      simp only [Option.bind_some, decide_eq_false hn, Bool.not_false, spec_StoreOK.j0]
      exact if_pos trivial
  · refine ⟨false, ev_now ⟨0, fun k _ => ?_⟩, ⟨fun h => (by cases h), fun h => absurd h.1 hl⟩⟩
    unfold spec_StoreOK.f
    rw [if_neg (by omega)]
    simp only [spec_StoreOK.j0]
    exact if_pos trivial
theorem impl_chain (cs : List (List S61)) (now : Int) (i : Nat) (hi : i < 16) (c : List S61) (hc : c = cs.getD i []) (hx : c.length ≤ 1048576) (R : Bool) (hR : Ev (fun k => impl_StoreOK.l0 k cs 16 ((i + 1 : Nat) : Int) cs now) R) :
    ∃ r, Ev (fun k => impl_StoreOK.l1 k i c cs 16 i c (c.length : Int) 0 cs now) r ∧ (r = true ↔ (∀ j, j < c.length → VerOK now i c j) ∧ R = true) := by
  obtain ⟨r, hr, he⟩ := count_loop c.length (fun k j => impl_StoreOK.l1 k i c cs 16 i c (c.length : Int) j cs now) (fun j r => r = true ↔ (∀ j', j ≤ j' → j' < c.length → VerOK now i c j') ∧ R = true)
    ⟨R, ⟨fun h => ⟨fun j' h1 h2 => by omega, h⟩, fun h => h.2⟩, ev_step ⟨0, fun k _ => by
      simp only [impl_StoreOK.l1]; rw [if_neg (by omega), wsucc (n := 16) hi (by omega)]⟩ hR⟩
    (fun j hj r hr he => by
      have hv : rd_T61 c (j : Int) = c.getD j z61 := rfl
      have hw1 : 0 < j → rd_T61 c (wrap64 ((j : Int) - 1)) = c.getD (j - 1) z61 := fun h0 => by
        have : wrap64 ((j : Int) - 1) = ((j - 1 : Nat) : Int) := by unfold wrap64; omega
        rw [this]; rfl
      have hw2 : 0 < j → 0 ≤ wrap64 ((j : Int) - 1) ∧ wrap64 ((j : Int) - 1) < (c.length : Int) := fun h0 => by
        have : wrap64 ((j : Int) - 1) = ((j - 1 : Nat) : Int) := by unfold wrap64; omega
        rw [this]; omega
      have no : ¬ VerOK now i c j → (∃ K, ∀ k, K ≤ k → impl_StoreOK.l1 (k + 1) i c cs 16 i c (c.length : Int) j cs now = some false) → ∃ r', (r' = true ↔ (∀ j', j ≤ j' → j' < c.length → VerOK now i c j') ∧ R = true) ∧ Ev (fun k => impl_StoreOK.l1 k i c cs 16 i c (c.length : Int) j cs now) r' :=
        fun hn hk => ⟨false, ⟨fun h => (by cases h), fun h => absurd (h.1 j (Nat.le_refl _) hj) hn⟩, ev_now hk⟩
      have yes : VerOK now i c j → (∃ K, ∀ k, K ≤ k → impl_StoreOK.l1 (k + 1) i c cs 16 i c (c.length : Int) j cs now = impl_StoreOK.l1 k i c cs 16 i c (c.length : Int) ((j + 1 : Nat) : Int) cs now) → ∃ r', (r' = true ↔ (∀ j', j ≤ j' → j' < c.length → VerOK now i c j') ∧ R = true) ∧ Ev (fun k => impl_StoreOK.l1 k i c cs 16 i c (c.length : Int) j cs now) r' :=
        fun hn hk => ⟨r, hr.trans ⟨fun h => ⟨fun j' h1 h2 => by
          rcases Nat.lt_or_eq_of_le h1 with h3 | rfl
          · exact h.1 j' h3 h2
          · exact hn, h.2⟩, fun h => ⟨fun j' h1 h2 => h.1 j' (by omega) h2, h.2⟩⟩, ev_step hk he⟩
      have hh : ∀ k, impl_StoreOK.l1 (k + 1) i c cs 16 i c (c.length : Int) j cs now = if (decide (1 ≤ (c.getD j z61).f0 ∧ (c.getD j z61).f0 ≤ now)) = true then (if (j : Int) > 0 then (if (c.getD (j - 1) z61).f0 ≥ (c.getD j z61).f0 then some false else (if fitsB i (c.getD j z61).f1 = true then impl_StoreOK.l1 k i c cs 16 i c (c.length : Int) ((j + 1 : Nat) : Int) cs now else some false)) else (if fitsB i (c.getD j z61).f1 = true then impl_StoreOK.l1 k i c cs 16 i c (c.length : Int) ((j + 1 : Nat) : Int) cs now else some false)) else some false := by
        intro k
        conv => lhs; simp only [impl_StoreOK.l1]
        rw [if_pos (by omega), if_pos (by omega), if_pos (by omega), impl_in, impl_fits, hv]
        simp only [Option.bind_some, wsucc hj (by omega)]
        by_cases h0 : 0 < j
        · rw [hw1 h0, if_pos (hw2 h0).1, if_pos (hw2 h0).2]
        · simp only [if_neg (show ¬ ((j : Int) > 0) by omega)]
      by_cases h1 : 1 ≤ (c.getD j z61).f0 ∧ (c.getD j z61).f0 ≤ now
      · by_cases h2 : fitsB i (c.getD j z61).f1 = true
        · by_cases h3 : 0 < j
          · by_cases h4 : (c.getD (j - 1) z61).f0 ≥ (c.getD j z61).f0
            · exact no (fun h => absurd (h.2.2.2 h3) (by omega)) ⟨0, fun k _ => by rw [hh, if_pos (decide_eq_true h1), if_pos (by omega), if_pos h4]⟩
            · exact yes ⟨h1.1, h1.2, h2, fun _ => by omega⟩ ⟨0, fun k _ => by rw [hh, if_pos (decide_eq_true h1), if_pos (by omega), if_neg h4, if_pos h2]⟩
          · exact yes ⟨h1.1, h1.2, h2, fun h => absurd h h3⟩ ⟨0, fun k _ => by rw [hh, if_pos (decide_eq_true h1), if_neg (by omega), if_pos h2]⟩
        · refine no (fun h => h2 h.2.2.1) ⟨0, fun k _ => ?_⟩
          rw [hh, if_pos (decide_eq_true h1)]
          simp only [if_neg h2]
          repeat' split
          all_goals rfl
      · exact no (fun h => h1 ⟨h.1, h.2.1⟩) ⟨0, fun k _ => by rw [hh, if_neg (by simpa using h1)]⟩) 0 (by omega)
  exact ⟨r, he, hr.trans ⟨fun h => ⟨fun j hj => h.1 j (by omega) hj, h.2⟩, fun h => ⟨fun j _ hj => h.1 j hj, h.2⟩⟩⟩
theorem impl_store_ok (cs : List (List S61)) (now : Int) (hx : ∀ x ∈ cs, x.length ≤ 1048576) : ∃ r, Ev (fun k => impl_StoreOK.f k cs now) r ∧ (r = true ↔ IsStore cs now) := by
  by_cases hl : cs.length = 16
  · by_cases hn : 0 ≤ now ∧ now ≤ 100000
    · obtain ⟨r, hr, he⟩ := count_loop 16 (fun k i => impl_StoreOK.l0 k cs 16 i cs now) (fun i r => r = true ↔ ∀ i', i ≤ i' → i' < 16 → ∀ j, j < (cs.getD i' []).length → VerOK now i' (cs.getD i' []) j)
        ⟨true, ⟨fun _ i' h1 h2 => by omega, fun _ => rfl⟩, ev_now ⟨0, fun k _ => by simp only [impl_StoreOK.l0]; rw [if_neg (by omega)]⟩⟩
        (fun i hi R hR he => by
          have hm : (cs.getD i []) ∈ cs := by rw [List.getD_eq_getElem?_getD, List.getElem?_eq_getElem (by omega)]; exact List.getElem_mem (by omega)
          obtain ⟨r, he', hr⟩ := impl_chain cs now i hi (cs.getD i []) rfl (hx _ hm) R he
          refine ⟨r, ?_, ev_step ⟨0, fun k _ => by simp only [impl_StoreOK.l0]; rw [if_pos (by omega), if_pos (by omega), if_pos (by omega)]; rfl⟩ he'⟩
          rw [hr, hR]
          constructor
          · rintro ⟨h1, h2⟩ i' h3 h4
            rcases Nat.lt_or_eq_of_le h3 with h5 | rfl
            · exact h2 i' h5 h4
            · exact h1
          · intro h; exact ⟨h i (Nat.le_refl _) hi, fun i' h3 h4 => h i' (by omega) h4⟩) 0 (by omega)
      refine ⟨r, ?_, hr.trans ⟨fun h => ⟨hl, hn.1, hn.2, fun i hi => h i (by omega) hi⟩, fun h i _ hi => h.2.2.2 i hi⟩⟩
      refine ev_step (f := fun k => impl_StoreOK.l0 k cs 16 0 cs now) ⟨0, fun k _ => ?_⟩ he
      unfold impl_StoreOK.f
      rw [if_pos (by omega), impl_in]
      simp only [Option.bind_some, decide_eq_true hn, Bool.not_true, impl_StoreOK.j0]
      rw [if_neg (by simp), hl]
      rfl
    · refine ⟨false, ev_now ⟨0, fun k _ => ?_⟩, ⟨fun h => (by cases h), fun h => absurd ⟨h.2.1, h.2.2.1⟩ hn⟩⟩
      unfold impl_StoreOK.f
      rw [if_pos (by omega), impl_in]
      simp only [Option.bind_some, decide_eq_false hn, Bool.not_false, impl_StoreOK.j0]
      exact if_pos trivial
  · refine ⟨false, ev_now ⟨0, fun k _ => ?_⟩, ⟨fun h => (by cases h), fun h => absurd h.1 hl⟩⟩
    unfold impl_StoreOK.f
    rw [if_neg (by omega)]
    simp only [impl_StoreOK.j0]
    exact if_pos trivial
/-- Both say the same of a store. -/
theorem stores_agree (cs : List (List S61)) (now : Int) (hx : ∀ x ∈ cs, x.length ≤ 1048576) : ∃ r, Ev (fun k => spec_StoreOK.f k cs now) r ∧ Ev (fun k => impl_StoreOK.f k cs now) r ∧ (r = true ↔ IsStore cs now) := by
  obtain ⟨r, e, hr⟩ := spec_store_ok cs now hx
  obtain ⟨r', e', hr'⟩ := impl_store_ok cs now hx
  have : r' = r := by rw [Bool.eq_iff_iff, hr, hr']
  subst this
  exact ⟨r', e, e', hr⟩
end Go.Proofs.Ytkijkmmeilaljaa.Pure2
namespace Go.Proofs.Ytkijkmmeilaljaa.Pure2
open Go.RowKit Go.Proofs.Ytkijkmmeilaljaa.Q Go.Proofs.YtkijkmmeilaljaaW.PrintWords Go.Proofs.YtkijkmmeilaljaaW.PrintLast
set_option linter.unusedVariables false
set_option linter.unusedSimpArgs false
/-! marks of rows of versions -/
def mkV (m : Int) (n : Nat) : List S61 := (List.range n).map (fun (j : Nat) => ⟨m + 2 * (j : Int), m + 2 * (j : Int) + 1⟩)
theorem mkV_len (m : Int) (n : Nat) : (mkV m n).length = n := by simp [mkV]
theorem mkV_at (m : Int) (n i : Nat) (h : i < n) : (mkV m n)[i]? = some ⟨m + 2 * (i : Int), m + 2 * (i : Int) + 1⟩ := by simp [mkV, h]
theorem mark_row (l : List S61) (m : Int) (h0 : 0 ≤ m) (hm : m ≤ 4611686018427387904) (hl : l.length ≤ 1048576) : Ev (fun k => laws_markVersionS.f k l m) (m + 2 * (l.length : Int), mkV m l.length) := by
  obtain ⟨r, hr, he⟩ := state_loop l.length (fun k (s : List S61 × Int) i => laws_markVersionS.l0 k s.1 s.2 i) (fun j s => s.2 = m + 2 * (j : Int) ∧ s.1.length = l.length ∧ ∀ i, i < j → s.1[i]? = some ⟨m + 2 * (i : Int), m + 2 * (i : Int) + 1⟩) (fun _ _ r => r = (m + 2 * (l.length : Int), mkV m l.length))
    (fun s hi => ⟨(s.2, s.1), by
      obtain ⟨h1, h2, h3⟩ := hi
      refine Prod.ext h1 (List.ext_getElem? fun i => ?_)
      by_cases h : i < l.length
      · rw [h3 i h, mkV_at m _ i h]
      · rw [List.getElem?_eq_none (show s.1.length ≤ i by omega), List.getElem?_eq_none (by rw [mkV_len]; omega)], ev_now ⟨0, fun k _ => by
        have h2 := hi.2.1
        simp only [laws_markVersionS.l0]; rw [if_neg (by omega)]⟩⟩)
    (fun j s hj hi => by
      obtain ⟨h1, h2, h3⟩ := hi
      have hw : wrap64 (s.2 + 1) = s.2 + 1 := by unfold wrap64; omega
      have hw2 : wrap64 ((wrap64 (s.2 + 1)) + 1) = s.2 + 2 := by rw [hw]; unfold wrap64; omega
      have hg : ((s.1.set j (⟨s.2, (s.1.getD j z61).f1⟩ : S61)).getD j z61) = ⟨s.2, (s.1.getD j z61).f1⟩ := by
        rw [List.getD_eq_getElem?_getD, List.getElem?_set_self (by omega)]; rfl
      refine .inr ⟨((s.1.set j (⟨s.2, (s.1.getD j z61).f1⟩ : S61)).set j (⟨s.2, s.2 + 1⟩ : S61), s.2 + 2), ⟨by show s.2 + 2 = _; omega, by simp [h2], fun i hij => ?_⟩, fun r h => h, 0, fun k _ => ?_⟩
      · by_cases he : i = j
        · subst he
          rw [List.getElem?_set_self (by simp; omega), h1]
        · rw [List.getElem?_set_ne (by omega), List.getElem?_set_ne (by omega)]
          exact h3 i (by omega)
      · simp only [laws_markVersionS.l0]
        rw [if_pos (by omega), if_pos (by omega)]
        simp only [Option.bind_some]
        rw [hw2, wsucc hj (by omega), hw]
        show laws_markVersionS.l0 k ((s.1.set j (⟨s.2, (s.1.getD j z61).f1⟩ : S61)).set j (⟨((s.1.set j (⟨s.2, (s.1.getD j z61).f1⟩ : S61)).getD j z61).f0, s.2 + 1⟩ : S61)) (s.2 + 2) _ = _
        rw [hg]) 0 (l, m) (by omega) ⟨by show m = _; omega, rfl, fun i hi => by omega⟩
  subst hr
  exact ev_same ⟨0, fun k _ => by unfold laws_markVersionS.f; rfl⟩ he
def posV (m : Int) (ls : List (List S61)) (i : Nat) : Int := m + 2 * ((((ls.take i).map List.length).sum : Nat) : Int)
theorem posV_zero (m : Int) (ls : List (List S61)) : posV m ls 0 = m := by simp [posV]
theorem posV_succ (m : Int) (ls : List (List S61)) (i : Nat) (h : i < ls.length) : posV m ls (i + 1) = posV m ls i + 2 * (((ls.getD i []).length : Nat) : Int) := by
  unfold posV
  rw [List.take_add_one, List.getElem?_eq_getElem h, List.getD_eq_getElem?_getD, List.getElem?_eq_getElem h]
  simp only [Option.toList, List.map_append, List.map_cons, List.map_nil, List.sum_append, List.sum_cons, List.sum_nil, Option.getD_some]
  omega
theorem posV_bound (m : Int) (ls : List (List S61)) (hx : ∀ x ∈ ls, x.length ≤ 1048576) : ∀ i, i ≤ ls.length → m ≤ posV m ls i ∧ posV m ls i ≤ m + 2097152 * (i : Int) := by
  intro i
  induction i with
  | zero => intro _; rw [posV_zero]; omega
  | succ i ih =>
    intro h
    have hm : (ls.getD i []) ∈ ls := by rw [List.getD_eq_getElem?_getD, List.getElem?_eq_getElem (by omega)]; exact List.getElem_mem (by omega)
    have := ih (by omega)
    have := hx _ hm
    rw [posV_succ m ls i (by omega)]
    omega
def mkS (m : Int) (ls : List (List S61)) : List (List S61) := (List.range ls.length).map (fun (i : Nat) => mkV (posV m ls i) (ls.getD i []).length)
theorem mkS_len (m : Int) (ls : List (List S61)) : (mkS m ls).length = ls.length := by simp [mkS]
theorem mkS_at (m : Int) (ls : List (List S61)) (i : Nat) (h : i < ls.length) : (mkS m ls)[i]? = some (mkV (posV m ls i) (ls.getD i []).length) := by simp [mkS, h]
theorem mark_rows (ls : List (List S61)) (m : Int) (h0 : 0 ≤ m) (hm : m ≤ 1099511627776) (hl : ls.length ≤ 1048576) (hx : ∀ x ∈ ls, x.length ≤ 1048576) : Ev (fun k => laws_markVersionSS.f k ls m) (posV m ls ls.length, mkS m ls) := by
  obtain ⟨r, hr, he⟩ := state_loop ls.length (fun k (s : List (List S61) × Int) i => laws_markVersionSS.l0 k s.1 s.2 i) (fun j s => s.2 = posV m ls j ∧ s.1.length = ls.length ∧ (∀ i, i < j → s.1[i]? = (mkS m ls)[i]?) ∧ ∀ i, j ≤ i → s.1[i]? = ls[i]?) (fun _ _ r => r = (posV m ls ls.length, mkS m ls))
    (fun s hi => ⟨(s.2, s.1), by
      obtain ⟨h1, h2, h3, _⟩ := hi
      refine Prod.ext h1 (List.ext_getElem? fun i => ?_)
      by_cases h : i < ls.length
      · exact h3 i h
      · rw [List.getElem?_eq_none (show s.1.length ≤ i by omega), List.getElem?_eq_none (by rw [mkS_len]; omega)], ev_now ⟨0, fun k _ => by
        have h2 := hi.2.1
        simp only [laws_markVersionSS.l0]; rw [if_neg (by omega)]⟩⟩)
    (fun j s hj hi => by
      obtain ⟨h1, h2, h3, h4⟩ := hi
      have hmem : (ls.getD j []) ∈ ls := by rw [List.getD_eq_getElem?_getD, List.getElem?_eq_getElem hj]; exact List.getElem_mem hj
      have hb := posV_bound m ls hx j (by omega)
      have hrow : s.1.getD j [] = ls.getD j [] := by rw [List.getD_eq_getElem?_getD, List.getD_eq_getElem?_getD, h4 j (Nat.le_refl _)]
      obtain ⟨K, hk⟩ := ev_at (mark_row (ls.getD j []) (posV m ls j) (by omega) (by omega) (hx _ hmem))
      refine .inr ⟨(s.1.set j (mkV (posV m ls j) (ls.getD j []).length), posV m ls (j + 1)), ⟨rfl, by simp [h2], fun i hij => ?_, fun i hij => ?_⟩, fun r h => h, K, fun k hK => ?_⟩
      · by_cases he : i = j
        · subst he
          rw [List.getElem?_set_self (by omega), mkS_at m ls i hj]
        · rw [List.getElem?_set_ne (by omega)]
          exact h3 i (by omega)
      · rw [List.getElem?_set_ne (by omega)]
        exact h4 i (by omega)
      · have e' : laws_markVersionS.f k (s.1.getD j []) s.2 = some (posV m ls j + 2 * ((ls.getD j []).length : Int), mkV (posV m ls j) (ls.getD j []).length) := by rw [hrow, h1]; exact hk k hK
        simp only [laws_markVersionSS.l0]
        rw [if_pos (by omega), if_pos (by omega)]
        show (laws_markVersionS.f k (s.1.getD j []) s.2).bind _ = _
        rw [e']
        simp only [Option.bind_some, Int.toNat_natCast]
        rw [wsucc hj (by omega), posV_succ m ls j hj]) 0 (ls, m) (by omega) ⟨(posV_zero m ls).symm, rfl, fun i hi => by omega, fun i _ => rfl⟩
  subst hr
  exact ev_same ⟨0, fun k _ => by unfold laws_markVersionSS.f; rfl⟩ he
theorem mark_store1 (ls : List (List S61)) (n : Int) (hl : ls.length ≤ 1048576) (hx : ∀ x ∈ ls, x.length ≤ 1048576) : ∃ m l', Ev (fun k => laws_markStore.f k ls n 1) (m, l') ∧ 0 ≤ m := by
  have hb := posV_bound 1 ls hx ls.length (Nat.le_refl _)
  exact ⟨_, _, mark_rows ls 1 (by omega) (by omega) hl hx, by omega⟩
end Go.Proofs.Ytkijkmmeilaljaa.Pure2
namespace Go.Proofs.Ytkijkmmeilaljaa.Pure2
open Go.RowKit Go.Proofs.Ytkijkmmeilaljaa.Q Go.Proofs.YtkijkmmeilaljaaW.PrintWords Go.Proofs.YtkijkmmeilaljaaW.PrintLast
set_option linter.unusedVariables false
set_option linter.unusedSimpArgs false
theorem begin_agree (cs : List (List S61)) (now : Int) (hx : ∀ x ∈ cs, x.length ≤ 1048576) :
    ∃ (t : Int) (c : Int), Ev (fun k => spec_Begin.f k cs now) (t, [], [], c) ∧ Ev (fun k => impl_Begin.f k cs now) (t, [], [], c) := by
  obtain ⟨b, e1, e2, hb⟩ := stores_agree cs now hx
  obtain ⟨K1, h1⟩ := ev_at e1
  obtain ⟨K2, h2⟩ := ev_at e2
  cases b with
  | false => exact ⟨0, 1, ev_mk K1 fun k hk => by unfold spec_Begin.f; rw [h1 k hk]; rfl, ev_mk K2 fun k hk => by unfold impl_Begin.f; rw [h2 k hk]; rfl⟩
  | true => exact ⟨now, 0, ev_mk K1 fun k hk => by unfold spec_Begin.f; rw [h1 k hk]; rfl, ev_mk K2 fun k hk => by unfold impl_Begin.f; rw [h2 k hk]; rfl⟩
theorem txn_empty (k : Nat) (t : Int) (hk : 1 ≤ k) : laws_eqTxn.f k t [] [] t [] [] = some true ∧ laws_markTxn.f k t [] [] 1 = some (1, [], []) ∧ laws_heldTxn.f k t [] [] 1 = some 1 := by
  obtain ⟨k, rfl⟩ : ∃ m, k = m + 1 := ⟨k - 1, by omega⟩
  refine ⟨?_, rfl, rfl⟩
  unfold laws_eqTxn.f
  rw [if_pos rfl]
  rfl
theorem FnExactBegin : laws_FnExactBegin.Pure2 := by
  intro y hy
  obtain ⟨r, he, hr⟩ := sz_store y 1048576 (by omega) (by omega) hy
  refine Ev.rounds (r := true) ?_
  obtain ⟨K1, h1⟩ := ev_at he
  rcases hr with hr | ⟨_, _, hs⟩
  · exact ev_mk K1 fun k hk => by unfold laws_FnExactBegin.f; rw [h1 k hk]; simp only [Option.bind_some]; rw [if_pos hr]
  · obtain ⟨K2, h2⟩ := ev_at (to_store y.f0 y.f1 hs)
    obtain ⟨t, c, e1, e2⟩ := begin_agree (cvS y.f0) y.f1 (small_cv _ hs).2
    obtain ⟨K3, h3⟩ := ev_at e1
    obtain ⟨K4, h4⟩ := ev_at e2
    obtain ⟨K5, h5⟩ := ev_at (eq_store (cvS y.f0) y.f1 (small_cv _ hs).1 (small_cv _ hs).2)
    obtain ⟨m, l', e7, hm⟩ := mark_store1 (cvS y.f0) y.f1 (small_cv _ hs).1 (small_cv _ hs).2
    obtain ⟨K7, h7⟩ := ev_at e7
    refine ev_mk (K1 + K2 + K3 + K4 + K5 + K7 + 1) fun k hk => ?_
    obtain ⟨t1, t2, t3⟩ := txn_empty k t (by omega)
    unfold laws_FnExactBegin.f
    rw [h1 _ (by omega)]; simp only [Option.bind_some]; rw [if_neg (by omega), h2 _ (by omega)]; simp only [Option.bind_some]
    rw [h3 _ (by omega)]; simp only [Option.bind_some]; rw [h4 _ (by omega)]; simp only [Option.bind_some]
    rw [t1]; simp only [Option.bind_some, if_true]; rw [h5 _ (by omega)]; simp only [Option.bind_some, if_true]
    rw [h7 _ (by omega)]; simp only [Option.bind_some]; rw [if_pos (by omega)]
    rw [t2]; simp only [Option.bind_some]; rw [t3]; simp only [Option.bind_some]
    rw [if_pos (by omega)]; simp only [if_true]; rw [if_pos (by omega)]
end Go.Proofs.Ytkijkmmeilaljaa.Pure2
