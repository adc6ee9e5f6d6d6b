/- Texts of the claim on FnStore, gathered by a program of this session: what the program's functions compute (proved by walks), and the plain part. -/
import Derived.Test.YtfiboooflebdpaaKFnStored
import Derived.Test.YtfiboooflebdpaaKFnStoreOpens
import Derived.KernelRfl
namespace Go.Proofs.Ytfiboooflebdpaa.Q
open Go.RowKit Go.Proofs.YtfiboooflebdpaaW.PrintWords Go.Proofs.YtfiboooflebdpaaW.PrintLast Go.Proofs.YtfiboooflebdpaaW.PrintMore
attribute [local go_sem] max2_int min2_int max_two min_two max_three min_three max_four min_four
set_option linter.unusedVariables false
set_option linter.unusedSimpArgs false

mutual
def laws_FnStore.j0 : Nat → List Int → List Int → Bool → Option (Bool)
 | 0, _, _, _ => none
 | k + 1, x0, x1, x38 => if x38 = true then (some true) else ((spec_StoreOf.f k x0).bind fun bt101 => ((spec_PutsOf.f k x1).bind fun t106 => ((impl_WriteAll.f k bt101.1 bt101.2 t106).bind fun bt109 => ((spec_WriteAll.f k bt101.1 bt101.2 t106).bind fun bt116 => (if bt109.2.2.2 = 0 then ((laws_sameStore.f k bt109.1 bt109.2.1 bt116.1 bt116.2.1).bind fun t123 => (if t123 = true then (if bt109.2.2.1 = bt116.2.2.1 then ((impl_StoreOK.f k bt109.1 bt109.2.1).bind fun t124 => (if t124 = true then ((impl_StoreOK.f k bt101.1 bt101.2).bind fun t125 => (laws_FnStore.j1 k t106 bt109.2.2.1 (!t125) bt101.1 bt101.2 bt109.1 bt109.2.1)) else (laws_FnStore.j1 k t106 bt109.2.2.1 true bt101.1 bt101.2 bt109.1 bt109.2.1))) else (laws_FnStore.j1 k t106 bt109.2.2.1 true bt101.1 bt101.2 bt109.1 bt109.2.1)) else (laws_FnStore.j1 k t106 bt109.2.2.1 true bt101.1 bt101.2 bt109.1 bt109.2.1))) else (laws_FnStore.j1 k t106 bt109.2.2.1 true bt101.1 bt101.2 bt109.1 bt109.2.1))))))
def laws_FnStore.j1 : Nat → List (S58) → Int → Bool → List (List (S43)) → Int → List (List (S43)) → Int → Option (Bool)
 | 0, _, _, _, _, _, _, _ => none
 | k + 1, x6, x8, x79, x106000, x106001, x116000, x116001 => if x79 = true then (none) else (laws_FnStore.l0 k x6 x8 0 x106000 x106001 x116000 x116001)
def laws_FnStore.l0 : Nat → List (S58) → Int → Int → List (List (S43)) → Int → List (List (S43)) → Int → Option (Bool)
 | 0, _, _, _, _, _, _, _ => none
 | k + 1, x6, x8, x13, x106000, x106001, x116000, x116001 => if x13 < 16 then ((impl_ReadAt.f k x116000 x116001 x13 x8).bind fun bt126 => ((impl_ReadAt.f k x116000 x116001 x13 x106001).bind fun bt128 => ((impl_ReadAt.f k x106000 x106001 x13 x106001).bind fun bt130 => (laws_FnStore.l1 k x6 x8 x13 bt126.1 bt126.2 bt128.1 bt128.2 bt130.1 bt130.2 bt130.1 false 0 x106000 x106001 x116000 x116001)))) else ((impl_SameAt.f k x106000 x106001 x106000 x106001).bind fun bt136 => ((impl_KeysSince.f k x116000 x116001 x106001).bind fun bt138 => ((spec_KeysSince.f k x116000 x116001 x106001).bind fun bt142 => (if bt136.2 = 0 then (if bt136.1 = true then (if ((decide ((x6.length : Int) > 0)) == (decide (x8 > x106001))) = true then (if bt138.2 = 0 then ((laws_sameInts.f k bt138.1 bt142.1).bind fun t146 => (some t146)) else (none)) else (none)) else (none)) else (none)))))
def laws_FnStore.l1 : Nat → List (S58) → Int → Int → Int → Int → Int → Int → Int → Int → Int → Bool → Int → List (List (S43)) → Int → List (List (S43)) → Int → Option (Bool)
 | 0, _, _, _, _, _, _, _, _, _, _, _, _, _, _, _, _ => none
 | k + 1, x6, x8, x13, x14, x15, x16, x17, x18, x19, x20, x21, x22, x106000, x106001, x116000, x116001 => if x22 < (x6.length : Int) then (if 0 ≤ x22 then (if ((rd_T58 x6 x22).f0) = x13 then (laws_FnStore.l1 k x6 x8 x13 x14 x15 x16 x17 x18 x19 ((rd_T58 x6 x22).f1) true (wrap64 (x22 + 1)) x106000 x106001 x116000 x116001) else (laws_FnStore.l1 k x6 x8 x13 x14 x15 x16 x17 x18 x19 x20 x21 (wrap64 (x22 + 1)) x106000 x106001 x116000 x116001)) else (none)) else ((impl_ChangedSince.f k x116000 x116001 x13 x106001).bind fun bt134 => (if x15 = 0 then (if x17 = 0 then (if x19 = 0 then (if x14 = x20 then (if x16 = x18 then (if bt134.2 = 0 then (if (bt134.1 != x21) = true then (none) else (laws_FnStore.l0 k x6 x8 (wrap64 (x13 + 1)) x106000 x106001 x116000 x116001)) else (none)) else (if (x6.length : Int) > 0 then (none) else (if bt134.2 = 0 then (if (bt134.1 != x21) = true then (none) else (laws_FnStore.l0 k x6 x8 (wrap64 (x13 + 1)) x106000 x106001 x116000 x116001)) else (none)))) else (none)) else (none)) else (none)) else (none)))
end
def laws_FnStore.f (k : Nat) (l0 : List Int) (l1 : List Int) : Option (Bool) := if (l0.length : Int) > 1048576 then (laws_FnStore.j0 k l0 l1 true) else (laws_FnStore.j0 k l0 l1 (decide ((l1.length : Int) > 1048576)))
set_option maxHeartbeats 8000000 in
set_option maxRecDepth 100000 in
theorem laws_FnStore.calls (k : Nat) (A0 : Option Addr) (c0 : Nat) (l0 : List Int) (A1 : Option Addr) (c1 : Nat) (l1 : List Int) (r : Bool) (w : World) (hr0 : Kd.C (Kd.int .u8) w A0 l0.length l0) (hc0 : l0.length ≤ c0) (hr1 : Kd.C (Kd.int .u8) w A1 l1.length l1) (hc1 : l1.length ≤ c1) (h : laws_FnStore.f k l0 l1 = some r) :
  Calls Try.prog 6 #[.slice A0 l0.length c0, .slice A1 l1.length c1] w fun e w' => e = .returned (.bool r) ∧ Below w.heap.size w w' := by
 have hu28 := Try.underlying28; have HR0 := qO hr0; have HC0 := qO hc0; clear hr0 hc0; have HR1 := qO hr1; have HC1 := qO hc1; clear hr1 hc1; have HB := qO (Below.refl w.heap.size w); have H : (if (l0.length : Int) > 1048576 then (laws_FnStore.j0 k l0 l1 true) else (laws_FnStore.j0 k l0 l1 (decide ((l1.length : Int) > 1048576)))) = some r := h; clear h; have HC3 := qO H; clear H
 go_enter Try.func6, Try.ntmps6
 go_upto_region 1 with (fail)
 go_cut [38] (fun v38 wc => ∃ (kq : Nat) (x38_2 : Bool), v38 = .bool x38_2 ∧ Aside0 (laws_FnStore.j0 kq l0 l1 x38_2 = some r) ∧ Aside0 (kq ≤ k) ∧ Aside0 (Below w.heap.size w wc))
 case first =>
  have H := HC3.out; clear HC3
  by_cases c4 : (l0.length : Int) > 1048576
  ·rw [if_pos c4] at H
   have c4b0 : decide (1048576 < (l0.length : Int)) = true := decide_eq_true c4; have c4b1 : decide (1048576 < l0.length) = true := decide_eq_true qa34; clear c4; (first | rw [c4b0] | (simp only [i64_w, i32_w]; rw [c4b0]) | skip); have H' := qO H; clear H; go_wp2
   go_meet
   case rel => exact ⟨_, (true), qa18, H', ⟨qa191⟩, ⟨qa67⟩⟩
  ·rw [if_neg c4] at H
   have c4b0 : decide (1048576 < (l0.length : Int)) = false := decide_eq_false c4; have c4b1 : decide (1048576 < l0.length) = false := decide_eq_false qa34; clear c4; (first | rw [c4b0] | (simp only [i64_w, i32_w]; rw [c4b0]) | skip); have H' := qO H; clear H; go_wp2
   go_meet
   case rel => exact ⟨_, (decide ((l1.length : Int) > 1048576)), qa18, H', ⟨qa191⟩, ⟨qa67⟩⟩
 case rest =>
  clear HC3
  try clear c1
  try clear p2
  try clear c4
  try clear c4b0
  try clear c4b1
  obtain ⟨kq, x38_2, rfl, HA, HJ2, HB⟩ := hcut
  cases kq with
  | zero => exact absurd HA.out (by simp [laws_FnStore.j0])
  | succ kj2 =>
   have H := HA.out; clear HA; simp only [laws_FnStore.j0] at H
   by_cases c5 : x38_2 = true
   ·subst c5
    have H1 : (some true) = some r := by rw [if_pos rfl] at H; exact H
    clear H; have H := H1; clear H1; obtain rfl := Option.some.inj H; go_wp2
    go_ret
    exact ⟨qa9, qa67⟩
   ·replace c5 := Bool.eq_false_iff.mpr c5
    subst c5; have H1 : ((spec_StoreOf.f kj2 l0).bind fun bt101 => ((spec_PutsOf.f kj2 l1).bind fun t106 => ((impl_WriteAll.f kj2 bt101.1 bt101.2 t106).bind fun bt109 => ((spec_WriteAll.f kj2 bt101.1 bt101.2 t106).bind fun bt116 => (if bt109.2.2.2 = 0 then ((laws_sameStore.f kj2 bt109.1 bt109.2.1 bt116.1 bt116.2.1).bind fun t123 => (if t123 = true then (if bt109.2.2.1 = bt116.2.2.1 then ((impl_StoreOK.f kj2 bt109.1 bt109.2.1).bind fun t124 => (if t124 = true then ((impl_StoreOK.f kj2 bt101.1 bt101.2).bind fun t125 => (laws_FnStore.j1 kj2 t106 bt109.2.2.1 (!t125) bt101.1 bt101.2 bt109.1 bt109.2.1)) else (laws_FnStore.j1 kj2 t106 bt109.2.2.1 true bt101.1 bt101.2 bt109.1 bt109.2.1))) else (laws_FnStore.j1 kj2 t106 bt109.2.2.1 true bt101.1 bt101.2 bt109.1 bt109.2.1)) else (laws_FnStore.j1 kj2 t106 bt109.2.2.1 true bt101.1 bt101.2 bt109.1 bt109.2.1))) else (laws_FnStore.j1 kj2 t106 bt109.2.2.1 true bt101.1 bt101.2 bt109.1 bt109.2.1)))))) = some r := by rw [if_neg (show ¬ (false = true) by decide)] at H; exact H
    clear H; have H := H1; clear H1; replace H := Option.bind_eq_some_iff.mp H; obtain ⟨⟨t101, t104⟩, A60, H⟩ := H; replace H : ((spec_PutsOf.f kj2 l1).bind fun t106 => ((impl_WriteAll.f kj2 t101 t104 t106).bind fun bt109 => ((spec_WriteAll.f kj2 t101 t104 t106).bind fun bt116 => (if bt109.2.2.2 = 0 then ((laws_sameStore.f kj2 bt109.1 bt109.2.1 bt116.1 bt116.2.1).bind fun t123 => (if t123 = true then (if bt109.2.2.1 = bt116.2.2.1 then ((impl_StoreOK.f kj2 bt109.1 bt109.2.1).bind fun t124 => (if t124 = true then ((impl_StoreOK.f kj2 t101 t104).bind fun t125 => (laws_FnStore.j1 kj2 t106 bt109.2.2.1 (!t125) t101 t104 bt109.1 bt109.2.1)) else (laws_FnStore.j1 kj2 t106 bt109.2.2.1 true t101 t104 bt109.1 bt109.2.1))) else (laws_FnStore.j1 kj2 t106 bt109.2.2.1 true t101 t104 bt109.1 bt109.2.1)) else (laws_FnStore.j1 kj2 t106 bt109.2.2.1 true t101 t104 bt109.1 bt109.2.1))) else (laws_FnStore.j1 kj2 t106 bt109.2.2.1 true t101 t104 bt109.1 bt109.2.1))))) = some r := H; have A6 := qO A60; clear A60; replace H := Option.bind_eq_some_iff.mp H; obtain ⟨t106, A70, H⟩ := H; replace H : ((impl_WriteAll.f kj2 t101 t104 t106).bind fun bt109 => ((spec_WriteAll.f kj2 t101 t104 t106).bind fun bt116 => (if bt109.2.2.2 = 0 then ((laws_sameStore.f kj2 bt109.1 bt109.2.1 bt116.1 bt116.2.1).bind fun t123 => (if t123 = true then (if bt109.2.2.1 = bt116.2.2.1 then ((impl_StoreOK.f kj2 bt109.1 bt109.2.1).bind fun t124 => (if t124 = true then ((impl_StoreOK.f kj2 t101 t104).bind fun t125 => (laws_FnStore.j1 kj2 t106 bt109.2.2.1 (!t125) t101 t104 bt109.1 bt109.2.1)) else (laws_FnStore.j1 kj2 t106 bt109.2.2.1 true t101 t104 bt109.1 bt109.2.1))) else (laws_FnStore.j1 kj2 t106 bt109.2.2.1 true t101 t104 bt109.1 bt109.2.1)) else (laws_FnStore.j1 kj2 t106 bt109.2.2.1 true t101 t104 bt109.1 bt109.2.1))) else (laws_FnStore.j1 kj2 t106 bt109.2.2.1 true t101 t104 bt109.1 bt109.2.1)))) = some r := H; have A7 := qO A70; clear A70; replace H := Option.bind_eq_some_iff.mp H; obtain ⟨⟨t109, t112, t113, t114⟩, A80, H⟩ := H; replace H : ((spec_WriteAll.f kj2 t101 t104 t106).bind fun bt116 => (if t114 = 0 then ((laws_sameStore.f kj2 t109 t112 bt116.1 bt116.2.1).bind fun t123 => (if t123 = true then (if t113 = bt116.2.2.1 then ((impl_StoreOK.f kj2 t109 t112).bind fun t124 => (if t124 = true then ((impl_StoreOK.f kj2 t101 t104).bind fun t125 => (laws_FnStore.j1 kj2 t106 t113 (!t125) t101 t104 t109 t112)) else (laws_FnStore.j1 kj2 t106 t113 true t101 t104 t109 t112))) else (laws_FnStore.j1 kj2 t106 t113 true t101 t104 t109 t112)) else (laws_FnStore.j1 kj2 t106 t113 true t101 t104 t109 t112))) else (laws_FnStore.j1 kj2 t106 t113 true t101 t104 t109 t112))) = some r := H; have A8 := qO A80; clear A80; replace H := Option.bind_eq_some_iff.mp H; obtain ⟨⟨t116, t119, t120, t121⟩, A90, H⟩ := H; replace H : (if t114 = 0 then ((laws_sameStore.f kj2 t109 t112 t116 t119).bind fun t123 => (if t123 = true then (if t113 = t120 then ((impl_StoreOK.f kj2 t109 t112).bind fun t124 => (if t124 = true then ((impl_StoreOK.f kj2 t101 t104).bind fun t125 => (laws_FnStore.j1 kj2 t106 t113 (!t125) t101 t104 t109 t112)) else (laws_FnStore.j1 kj2 t106 t113 true t101 t104 t109 t112))) else (laws_FnStore.j1 kj2 t106 t113 true t101 t104 t109 t112)) else (laws_FnStore.j1 kj2 t106 t113 true t101 t104 t109 t112))) else (laws_FnStore.j1 kj2 t106 t113 true t101 t104 t109 t112)) = some r := H; have A9 := qO A90; clear A90; have HC10 := qO H; clear H
    go_upto_region 7 with (first | ((with_reducible refine gate_callee (f := 18) rfl ?_); refine goesL_ (some 40) rfl rfl Try.func18 qa7 rfl #[.slice A0 l0.length c0] rfl qa0 ?_; (with_reducible refine (spec_StoreOf.calls kj2 _ _ l0 t101 t104 _ ?side1 ?side2 A6.out).mono ?_); (case side1 => exact qa187); (case side2 => exact HC0.out); rintro e w11 ⟨v102, rfl, ho0, hb⟩; refine ⟨_, rfl, ?_⟩; have HO103 := qO (Kd.S_lower ho0 (below_size qa67)); replace HB := qO (below_step qa67 hb); (try clear hb); (try clear hb2); (try clear hk); (try clear hi); (try clear ho0)) | ((with_reducible refine gate_dst (N := 5) rfl ?_); (try (refine gate_guard (by rfl) ?_; dsimp only)); refine qX 5 #[.slice none 0 0, .int .i64 0] 28 ?_; intro gb105 hg w12 hbox hb; have BK105 := qO (hbox); have GW105 := qO ((qa38 : w.heap.size ≤ gb105)); have GE105 := qO ((qa38 : w.heap.size ≤ gb105)); replace HO103 := qO (Kd.S_below qa106 hb); replace HB := qO (below_step qa67 hb); clear hb hbox hg; obtain ⟨Ao13, co13, eo13⟩ := Kd.S_slice HO103.out; subst eo13; obtain ⟨hcz14_0, hcz14_1, hfz14_0, hfz14_1⟩ := qb2 BK105.out) | ((with_reducible refine gate_callee (f := 31) rfl ?_); refine goesL_ (some 42) rfl rfl Try.func31 qa7 rfl #[.slice A1 l1.length c1] rfl qa0 ?_; (with_reducible refine (spec_PutsOf.calls kj2 _ _ l1 t106 _ ?side1 ?side2 A7.out).mono ?_); (case side1 => exact Kd.C_below HR1.out (by repeat (first | (with_reducible first | exact HB.out | apply qbA | apply qbN | apply qbD | refine qbS ?_ GE105.out) | exact HB.out))); (case side2 => exact HC1.out); rintro e w15 ⟨v107, rfl, ho0, hb⟩; refine ⟨_, rfl, ?_⟩; have HO108 := qO (Kd.R_lower ho0 (below_size qa122)); replace HO103 := qO (Kd.S_below (by (with_reducible repeat (first | apply Kd.S_alloc | apply Kd.S_drewN | apply Kd.S_drew)); exact (Kd.S_mono (Kd.S_far (p := ⟨gb105, 1, none⟩) (Kd.S_far (p := ⟨gb105, 0, none⟩) (Kd.S_types HO103.out BK105.out (by decide)) (fun _ hk => hk.2) (.slice Ao13 t101.length co13)) (fun _ hk => hk.2) (.int .i64 t104)) (fun _ h_ => h_.1))) hb); replace BK105 := qO (blk_below (g := gb105) (o := .cells #[.slice Ao13 t101.length co13, .int .i64 t104] 28 (0, 0)) (by (with_reducible repeat (first | refine qkN ?_ _ | refine qkD ?_ | refine qkA ?_ _)); refine blk_put (cs := #[.slice Ao13 t101.length co13, .int .i64 0]) ?_ 1 _ rfl; (with_reducible repeat (first | refine qkN ?_ _ | refine qkD ?_ | refine qkA ?_ _)); refine blk_put (cs := #[.slice none 0 0, .int .i64 0]) ?_ 0 _ rfl; (with_reducible repeat (first | refine qkN ?_ _ | refine qkD ?_ | refine qkA ?_ _)); exact BK105.out) hb); replace HB := qO (below_step qa122 hb); (try clear hb); (try clear hb2); (try clear hk); (try clear hi); (try clear ho0); obtain ⟨hcz16_0, hcz16_1, hfz16_0, hfz16_1⟩ := qb2 BK105.out; obtain ⟨Ao17, co17, eo17⟩ := Kd.R_slice HO108.out; subst eo17) | ((with_reducible refine gate_callee (f := 28) rfl ?_); refine goesL_ (some 46) rfl rfl Try.func28 qa7 rfl #[.agg #[.slice Ao13 t101.length co13, .int .i64 t104], .slice Ao17 t106.length co17] rfl qa0 ?_; (with_reducible refine (impl_WriteAll.calls kj2 _ _ t101 t104 _ _ t106 t109 t112 t113 t114 _ ?side1 ?side2 ?side3 ?side4 A8.out).mono ?_); (case side1 => exact qa189); (case side2 => exact (Kd.S_reads' HO103.out).2.1); (case side3 => repeat (first | exact (Kd.R_reads' HO108.out).2.2 | with_reducible first | refine Kd.C_alloc ?_ _ | refine Kd.C_drewN ?_ _ | refine Kd.C_drew ?_)); (case side4 => exact (Kd.R_reads' HO108.out).2.1); rintro e w18 ⟨v110, rfl, ho0, hb⟩; refine ⟨_, rfl, ?_⟩; have HO111 := qO (Kd.S_lower (Kd.S_new' ho0 (Kd.S_lt qa106)) (below_size qa122)); replace HO103 := qO (Kd.S_elder' qa106 (Kd.S_base ho0) hb); replace HO108 := qO (Kd.R_below qa81 hb); replace BK105 := qO (blk_below (g := gb105) (o := .cells #[.slice Ao13 t101.length co13, .int .i64 t104] 28 (0, 0)) qa75 hb); replace HB := qO (below_step qa122 hb); (try clear hb); (try clear hb2); (try clear hk); (try clear hi); (try clear ho0)) | ((with_reducible refine gate_dst (N := 7) rfl ?_); (try (refine gate_guard (by rfl) ?_; dsimp only)); refine qX 7 #[.slice none 0 0, .int .i64 0] 28 ?_; intro gb115 hg w19 hbox hb; have BK115 := qO (hbox); have GW115 := qO ((qa170 : w.heap.size ≤ gb115)); have GE115 := qO ((qa170 : w.heap.size ≤ gb115)); have NB105_115 := qO ((qa156 : gb105 ≠ gb115)); have NB115_105 := qO ((qa157 : gb115 ≠ gb105)); replace HO103 := qO (Kd.S_below qa106 hb); replace HO108 := qO (Kd.R_below qa81 hb); replace HO111 := qO (Kd.S_below qa148 hb); replace BK105 := qO (blk_below (g := gb105) (o := .cells #[.slice Ao13 t101.length co13, .int .i64 t104] 28 (0, 0)) qa75 hb); replace HB := qO (below_step qa122 hb); clear hb hbox hg; obtain ⟨Ao20, co20, eo20⟩ := Kd.S_slice HO111.out; subst eo20; have hnb21 := NB115_105.out; have hnc21 := NB105_115.out; obtain ⟨hcz22_0, hcz22_1, hfz22_0, hfz22_1⟩ := qb2 BK115.out; obtain ⟨hcz23_0, hcz23_1, hfz23_0, hfz23_1⟩ := qb2 BK105.out) | ((with_reducible refine gate_callee (f := 26) rfl ?_); refine goesL_ (some 53) rfl rfl Try.func26 qa7 rfl #[.agg #[.slice Ao13 t101.length co13, .int .i64 t104], .slice Ao17 t106.length co17] rfl qa0 ?_; (with_reducible refine (spec_WriteAll.calls kj2 _ _ t101 t104 _ _ t106 t116 t119 t120 t121 _ ?side1 ?side2 ?side3 ?side4 A9.out).mono ?_); (case side1 => refine (Kd.S_reads' (e := 41) (base := w.heap.size) (ok := fun k_ => (True ∧ some k_ ≠ (.slice Ao20 t109.length co20 : Value).ownBlock)) (n := t101.length) (c := co13) ?_).2.2; exact (by (with_reducible repeat (first | apply Kd.S_alloc | apply Kd.S_drewN | apply Kd.S_drew)); exact (Kd.S_mono (Kd.S_far (p := ⟨gb115, 1, none⟩) (Kd.S_far (p := ⟨gb115, 0, none⟩) (Kd.S_types HO103.out BK115.out (by decide)) (fun _ hk => hk.2) (.slice Ao20 t109.length co20)) (fun _ hk => hk.2) (.int .i64 t112)) (fun _ h_ => h_.1)))); (case side2 => exact (Kd.S_reads' HO103.out).2.1); (case side3 => refine (Kd.R_reads' (e := 58) (base := w.heap.size) (ok := fun k_ => True) (n := t106.length) (c := co17) ?_).2.2; exact (by (with_reducible repeat (first | apply Kd.R_alloc | apply Kd.R_drewN | apply Kd.R_drew)); exact (Kd.R_mono (Kd.R_far (p := ⟨gb115, 1, none⟩) (Kd.R_far (p := ⟨gb115, 0, none⟩) (Kd.R_types HO108.out BK115.out (by decide)) (fun _ hk => hk.2) (.slice Ao20 t109.length co20)) (fun _ hk => hk.2) (.int .i64 t112)) (fun _ h_ => h_.1)))); (case side4 => exact (Kd.R_reads' HO108.out).2.1); rintro e w24 ⟨v117, rfl, ho0, hb⟩; refine ⟨_, rfl, ?_⟩; have HO118 := qO (Kd.S_lower (Kd.S_new' (Kd.S_new' ho0 (Kd.S_lt qa125)) (Kd.S_lt qa126)) (below_size qa153)); replace HO103 := qO (Kd.S_elder' qa125 (Kd.S_base ho0) hb); replace HO108 := qO (Kd.R_below (by (with_reducible repeat (first | apply Kd.R_alloc | apply Kd.R_drewN | apply Kd.R_drew)); exact (Kd.R_mono (Kd.R_far (p := ⟨gb115, 1, none⟩) (Kd.R_far (p := ⟨gb115, 0, none⟩) (Kd.R_types HO108.out BK115.out (by decide)) (fun _ hk => hk.2) (.slice Ao20 t109.length co20)) (fun _ hk => hk.2) (.int .i64 t112)) (fun _ h_ => h_.1))) hb); replace HO111 := qO (Kd.S_elder' qa126 (Kd.S_base ho0) hb); replace BK105 := qO (blk_below (g := gb105) (o := .cells #[.slice Ao13 t101.length co13, .int .i64 t104] 28 (0, 0)) (by (with_reducible repeat (first | refine qkN ?_ _ | refine qkD ?_ | refine qkA ?_ _)); refine blk_far ?_ NB105_115.out _; (with_reducible repeat (first | refine qkN ?_ _ | refine qkD ?_ | refine qkA ?_ _)); refine blk_far ?_ NB105_115.out _; (with_reducible repeat (first | refine qkN ?_ _ | refine qkD ?_ | refine qkA ?_ _)); exact BK105.out) hb); replace BK115 := qO (blk_below (g := gb115) (o := .cells #[.slice Ao20 t109.length co20, .int .i64 t112] 28 (0, 0)) (by (with_reducible repeat (first | refine qkN ?_ _ | refine qkD ?_ | refine qkA ?_ _)); refine blk_put (cs := #[.slice Ao20 t109.length co20, .int .i64 0]) ?_ 1 _ rfl; (with_reducible repeat (first | refine qkN ?_ _ | refine qkD ?_ | refine qkA ?_ _)); refine blk_put (cs := #[.slice none 0 0, .int .i64 0]) ?_ 0 _ rfl; (with_reducible repeat (first | refine qkN ?_ _ | refine qkD ?_ | refine qkA ?_ _)); exact BK115.out) hb); replace HB := qO (below_step qa153 hb); (try clear hb); (try clear hb2); (try clear hk); (try clear hi); (try clear ho0)) | ((with_reducible refine gate_dst (N := 10) rfl ?_); (try (refine gate_guard (by rfl) ?_; dsimp only)); refine qX 10 #[.slice none 0 0, .int .i64 0] 28 ?_; intro gb122 hg w25 hbox hb; have BK122 := qO (hbox); have GW122 := qO ((qa165 : w.heap.size ≤ gb122)); have GE122 := qO ((qa165 : w.heap.size ≤ gb122)); have NB105_122 := qO ((qa156 : gb105 ≠ gb122)); have NB122_105 := qO ((qa157 : gb122 ≠ gb105)); have NB115_122 := qO ((by rw [hg]; exact Nat.ne_of_lt (blk_lt (g := gb115) (o := .cells #[.slice Ao20 t109.length co20, .int .i64 t112] 28 (0, 0)) (by (with_reducible repeat (first | refine qkN ?_ _ | refine qkD ?_ | refine qkA ?_ _)); exact BK115.out)) : gb115 ≠ gb122)); have NB122_115 := qO ((by rw [hg]; exact Nat.ne_of_gt (blk_lt (g := gb115) (o := .cells #[.slice Ao20 t109.length co20, .int .i64 t112] 28 (0, 0)) (by (with_reducible repeat (first | refine qkN ?_ _ | refine qkD ?_ | refine qkA ?_ _)); exact BK115.out)) : gb122 ≠ gb115)); replace HO103 := qO (Kd.S_below qa106 hb); replace HO108 := qO (Kd.R_below qa81 hb); replace HO111 := qO (Kd.S_below qa148 hb); replace HO118 := qO (Kd.S_below qa158 hb); replace BK105 := qO (blk_below (g := gb105) (o := .cells #[.slice Ao13 t101.length co13, .int .i64 t104] 28 (0, 0)) qa75 hb); replace BK115 := qO (blk_below (g := gb115) (o := .cells #[.slice Ao20 t109.length co20, .int .i64 t112] 28 (0, 0)) qa88 hb); replace HB := qO (below_step qa153 hb); clear hb hbox hg; obtain ⟨Ao26, co26, eo26⟩ := Kd.S_slice HO118.out; subst eo26; have hnb27 := NB122_105.out; have hnc27 := NB105_122.out; have hnb28 := NB122_115.out; have hnc28 := NB115_122.out; obtain ⟨hcz29_0, hcz29_1, hfz29_0, hfz29_1⟩ := qb2 BK122.out))
    (try simp only [Act.put, qzA, qzB, qzC])
    go_cut [79] (fun v79 wc => ∃ (kq : Nat) (x79_9 : Bool), v79 = .bool x79_9 ∧ Aside0 (laws_FnStore.j1 kq t106 t113 x79_9 t101 t104 t109 t112 = some r) ∧ Aside0 (kq ≤ kj2) ∧ Aside0 (Kd.R k58 58 wc w.heap.size (fun _ => True) (.slice Ao17 t106.length co17) t106) ∧ Aside0 (Kd.S (Kd.slice 43 k43) 41 wc w.heap.size (fun k_ => some k_ ≠ ((.slice Ao20 t109.length co20) : Value).ownBlock ∧ some k_ ≠ ((.slice Ao26 t116.length co26) : Value).ownBlock) (.slice Ao13 t101.length co13) t101) ∧ Aside0 (Kd.S (Kd.slice 43 k43) 41 wc w.heap.size (fun k_ => some k_ ≠ ((.slice Ao13 t101.length co13) : Value).ownBlock ∧ some k_ ≠ ((.slice Ao26 t116.length co26) : Value).ownBlock) (.slice Ao20 t109.length co20) t109) ∧ Aside0 (Kd.S (Kd.slice 43 k43) 41 wc w.heap.size (fun k_ => some k_ ≠ ((.slice Ao13 t101.length co13) : Value).ownBlock ∧ some k_ ≠ ((.slice Ao20 t109.length co20) : Value).ownBlock) (.slice Ao26 t116.length co26) t116) ∧ Aside0 (wc.heap[gb105]? = some (.cells #[(.slice Ao13 t101.length co13), .int .i64 t104] 28 (0, 0))) ∧ Aside0 (wc.heap[gb115]? = some (.cells #[(.slice Ao20 t109.length co20), .int .i64 t112] 28 (0, 0))) ∧ Aside0 (wc.heap[gb122]? = some (.cells #[(.slice Ao26 t116.length co26), .int .i64 t119] 28 (0, 0))) ∧ Aside0 (Below w.heap.size w wc))
    case first =>
     have H := HC10.out; clear HC10
     by_cases c30 : t114 = 0
     ·rw [if_pos c30] at H
      have c30b0 : (t114 == 0) = true := beq_iff_eq.mpr c30; have c30b1 : (t114 != 0) = false := bne_eq_false_iff_eq.mpr c30; clear c30; (first | rw [c30b0] | (simp only [i64_w, i32_w]; rw [c30b0]) | skip); replace H := Option.bind_eq_some_iff.mp H; obtain ⟨t123, A310, H⟩ := H; replace H : (if t123 = true then (if t113 = t120 then ((impl_StoreOK.f kj2 t109 t112).bind fun t124 => (if t124 = true then ((impl_StoreOK.f kj2 t101 t104).bind fun t125 => (laws_FnStore.j1 kj2 t106 t113 (!t125) t101 t104 t109 t112)) else (laws_FnStore.j1 kj2 t106 t113 true t101 t104 t109 t112))) else (laws_FnStore.j1 kj2 t106 t113 true t101 t104 t109 t112)) else (laws_FnStore.j1 kj2 t106 t113 true t101 t104 t109 t112)) = some r := H; have A31 := qO A310; clear A310
      by_cases c32 : t123 = true
      ·subst c32
       have H1 : (if t113 = t120 then ((impl_StoreOK.f kj2 t109 t112).bind fun t124 => (if t124 = true then ((impl_StoreOK.f kj2 t101 t104).bind fun t125 => (laws_FnStore.j1 kj2 t106 t113 (!t125) t101 t104 t109 t112)) else (laws_FnStore.j1 kj2 t106 t113 true t101 t104 t109 t112))) else (laws_FnStore.j1 kj2 t106 t113 true t101 t104 t109 t112)) = some r := by rw [if_pos rfl] at H; exact H
       clear H; have H := H1; clear H1
       by_cases c33 : t113 = t120
       ·rw [if_pos c33] at H
        have c33b0 : (t113 == t120) = true := beq_iff_eq.mpr c33; have c33b1 : (t113 != t120) = false := bne_eq_false_iff_eq.mpr c33; clear c33; replace H := Option.bind_eq_some_iff.mp H; obtain ⟨t124, A340, H⟩ := H; replace H : (if t124 = true then ((impl_StoreOK.f kj2 t101 t104).bind fun t125 => (laws_FnStore.j1 kj2 t106 t113 (!t125) t101 t104 t109 t112)) else (laws_FnStore.j1 kj2 t106 t113 true t101 t104 t109 t112)) = some r := H; have A34 := qO A340; clear A340
        by_cases c35 : t124 = true
        ·subst c35
         have H1 : ((impl_StoreOK.f kj2 t101 t104).bind fun t125 => (laws_FnStore.j1 kj2 t106 t113 (!t125) t101 t104 t109 t112)) = some r := by rw [if_pos rfl] at H; exact H
         clear H; have H := H1; clear H1; replace H := Option.bind_eq_some_iff.mp H; obtain ⟨t125, A360, H⟩ := H; replace H : (laws_FnStore.j1 kj2 t106 t113 (!t125) t101 t104 t109 t112) = some r := H; have A36 := qO A360; clear A360; have H' := qO H; clear H; have hnb37 := NB115_105.out; have hnc37 := NB105_115.out; have hnb38 := NB115_122.out; have hnc38 := NB122_115.out; obtain ⟨hcz39_0, hcz39_1, hfz39_0, hfz39_1⟩ := qb2 BK115.out; have hnb40 := NB122_105.out; have hnc40 := NB105_122.out; obtain ⟨hcz41_0, hcz41_1, hfz41_0, hfz41_1⟩ := qb2 BK122.out
         go_wp2_with (first | (go_at_call 21; (with_reducible refine (laws_sameStore.calls kj2 _ _ t109 t112 _ _ t116 t119 true _ ?side1 ?side2 ?side3 ?side4 A31.out).mono ?_); (case side1 => exact qa36); (case side2 => exact qa212); (case side3 => exact qa37); (case side4 => exact (Kd.S_reads' HO118.out).2.1); rintro e w42 ⟨rfl, hb⟩; replace HO103 := qO (Kd.S_below qa71 hb); replace HO108 := qO (Kd.R_below qa72 hb); replace HO111 := qO (Kd.S_below qa73 hb); replace HO118 := qO (Kd.S_below qa74 hb); replace BK105 := qO (blk_below (g := gb105) (o := .cells #[.slice Ao13 t101.length co13, .int .i64 t104] 28 (0, 0)) qa53 hb); replace BK115 := qO (blk_below (g := gb115) (o := .cells #[.slice Ao20 t109.length co20, .int .i64 t112] 28 (0, 0)) qa54 hb); replace BK122 := qO (blk_below (g := gb122) (o := .cells #[.slice Ao26 t116.length co26, .int .i64 t119] 28 (0, 0)) qa45 hb); replace HB := qO (below_step qa30 hb); (try clear hb); (try clear hb2); (try clear hk); (try clear hi); obtain ⟨hcz43_0, hcz43_1, hfz43_0, hfz43_1⟩ := qb2 BK115.out) | (go_at_call 22; (with_reducible refine (impl_StoreOK.calls kj2 _ _ t109 t112 true _ ?side1 ?side2 A34.out).mono ?_); (case side1 => exact qa190); (case side2 => exact qa212); rintro e w44 ⟨rfl, hb⟩; have hx_ := qHX HB hb qa1; replace HO103 := qO (Kd.S_below qa106 hb); replace HO108 := qO (Kd.R_below qa81 hb); replace HO111 := qO (Kd.S_below qa148 hb); replace HO118 := qO (Kd.S_below qa158 hb); replace BK105 := qO (qB BK105.out hx_ hb); replace BK115 := qO (qB BK115.out hx_ hb); replace BK122 := qO (qB BK122.out hx_ hb); replace HB := qO (below_step (below_step HB.out hx_) hb); clear hx_; (try clear hb); (try clear hb2); (try clear hk); (try clear hi); obtain ⟨hcz45_0, hcz45_1, hfz45_0, hfz45_1⟩ := qb2 BK105.out) | (go_at_call 22; (with_reducible refine (impl_StoreOK.calls kj2 _ _ t101 t104 t125 _ ?side1 ?side2 A36.out).mono ?_); (case side1 => exact qa189); (case side2 => exact (Kd.S_reads' HO103.out).2.1); rintro e w46 ⟨rfl, hb⟩; have hx_ := qHX HB hb qa1; replace HO103 := qO (Kd.S_below qa106 hb); replace HO108 := qO (Kd.R_below qa81 hb); replace HO111 := qO (Kd.S_below qa148 hb); replace HO118 := qO (Kd.S_below qa158 hb); replace BK105 := qO (qB BK105.out hx_ hb); replace BK115 := qO (qB BK115.out hx_ hb); replace BK122 := qO (qB BK122.out hx_ hb); replace HB := qO (below_step (below_step HB.out hx_) hb); clear hx_; (try clear hb); (try clear hb2); (try clear hk); (try clear hi)))
         go_meet
         case rel => exact ⟨_, (!t125), qa18, H', ⟨qa193⟩, ⟨qa81⟩, ⟨qa136⟩, ⟨qa137⟩, ⟨qa138⟩, ⟨qa75⟩, ⟨qa88⟩, ⟨qa93⟩, ⟨qa30⟩⟩
        ·replace c35 := Bool.eq_false_iff.mpr c35
         subst c35; have H1 : (laws_FnStore.j1 kj2 t106 t113 true t101 t104 t109 t112) = some r := by rw [if_neg (show ¬ (false = true) by decide)] at H; exact H
         clear H; have H := H1; clear H1; have H' := qO H; clear H; have hnb47 := NB115_105.out; have hnc47 := NB105_115.out; have hnb48 := NB115_122.out; have hnc48 := NB122_115.out; obtain ⟨hcz49_0, hcz49_1, hfz49_0, hfz49_1⟩ := qb2 BK115.out; have hnb50 := NB122_105.out; have hnc50 := NB105_122.out; obtain ⟨hcz51_0, hcz51_1, hfz51_0, hfz51_1⟩ := qb2 BK122.out
         go_wp2_with (first | (go_at_call 21; (with_reducible refine (laws_sameStore.calls kj2 _ _ t109 t112 _ _ t116 t119 true _ ?side1 ?side2 ?side3 ?side4 A31.out).mono ?_); (case side1 => exact qa36); (case side2 => exact qa212); (case side3 => exact qa37); (case side4 => exact (Kd.S_reads' HO118.out).2.1); rintro e w52 ⟨rfl, hb⟩; replace HO103 := qO (Kd.S_below qa71 hb); replace HO108 := qO (Kd.R_below qa72 hb); replace HO111 := qO (Kd.S_below qa73 hb); replace HO118 := qO (Kd.S_below qa74 hb); replace BK105 := qO (blk_below (g := gb105) (o := .cells #[.slice Ao13 t101.length co13, .int .i64 t104] 28 (0, 0)) qa53 hb); replace BK115 := qO (blk_below (g := gb115) (o := .cells #[.slice Ao20 t109.length co20, .int .i64 t112] 28 (0, 0)) qa54 hb); replace BK122 := qO (blk_below (g := gb122) (o := .cells #[.slice Ao26 t116.length co26, .int .i64 t119] 28 (0, 0)) qa45 hb); replace HB := qO (below_step qa30 hb); (try clear hb); (try clear hb2); (try clear hk); (try clear hi); obtain ⟨hcz53_0, hcz53_1, hfz53_0, hfz53_1⟩ := qb2 BK115.out) | (go_at_call 22; (with_reducible refine (impl_StoreOK.calls kj2 _ _ t109 t112 false _ ?side1 ?side2 A34.out).mono ?_); (case side1 => exact qa190); (case side2 => exact qa212); rintro e w54 ⟨rfl, hb⟩; have hx_ := qHX HB hb qa1; replace HO103 := qO (Kd.S_below qa106 hb); replace HO108 := qO (Kd.R_below qa81 hb); replace HO111 := qO (Kd.S_below qa148 hb); replace HO118 := qO (Kd.S_below qa158 hb); replace BK105 := qO (qB BK105.out hx_ hb); replace BK115 := qO (qB BK115.out hx_ hb); replace BK122 := qO (qB BK122.out hx_ hb); replace HB := qO (below_step (below_step HB.out hx_) hb); clear hx_; (try clear hb); (try clear hb2); (try clear hk); (try clear hi)))
         go_meet
         case rel => exact ⟨_, (true), qa18, H', ⟨qa193⟩, ⟨qa81⟩, ⟨qa136⟩, ⟨qa137⟩, ⟨qa138⟩, ⟨qa75⟩, ⟨qa88⟩, ⟨qa93⟩, ⟨qa30⟩⟩
       ·rw [if_neg c33] at H
        have c33b0 : (t113 == t120) = false := beq_eq_false_iff_ne.mpr c33; have c33b1 : (t113 != t120) = true := bne_iff_ne.mpr c33; have H' := qO H; clear H; have hnb55 := NB115_105.out; have hnc55 := NB105_115.out; have hnb56 := NB115_122.out; have hnc56 := NB122_115.out; obtain ⟨hcz57_0, hcz57_1, hfz57_0, hfz57_1⟩ := qb2 BK115.out; have hnb58 := NB122_105.out; have hnc58 := NB105_122.out; obtain ⟨hcz59_0, hcz59_1, hfz59_0, hfz59_1⟩ := qb2 BK122.out
        go_wp2_with (first | (go_at_call 21; (with_reducible refine (laws_sameStore.calls kj2 _ _ t109 t112 _ _ t116 t119 true _ ?side1 ?side2 ?side3 ?side4 A31.out).mono ?_); (case side1 => exact qa36); (case side2 => exact qa212); (case side3 => exact qa37); (case side4 => exact (Kd.S_reads' HO118.out).2.1); rintro e w60 ⟨rfl, hb⟩; replace HO103 := qO (Kd.S_below qa71 hb); replace HO108 := qO (Kd.R_below qa72 hb); replace HO111 := qO (Kd.S_below qa73 hb); replace HO118 := qO (Kd.S_below qa74 hb); replace BK105 := qO (blk_below (g := gb105) (o := .cells #[.slice Ao13 t101.length co13, .int .i64 t104] 28 (0, 0)) qa53 hb); replace BK115 := qO (blk_below (g := gb115) (o := .cells #[.slice Ao20 t109.length co20, .int .i64 t112] 28 (0, 0)) qa54 hb); replace BK122 := qO (blk_below (g := gb122) (o := .cells #[.slice Ao26 t116.length co26, .int .i64 t119] 28 (0, 0)) qa45 hb); replace HB := qO (below_step qa30 hb); (try clear hb); (try clear hb2); (try clear hk); (try clear hi)))
        go_meet
        case rel => exact ⟨_, (true), qa18, H', ⟨qa193⟩, ⟨qa81⟩, ⟨qa136⟩, ⟨qa137⟩, ⟨qa138⟩, ⟨qa75⟩, ⟨qa88⟩, ⟨qa93⟩, ⟨qa30⟩⟩
      ·replace c32 := Bool.eq_false_iff.mpr c32
       subst c32; have H1 : (laws_FnStore.j1 kj2 t106 t113 true t101 t104 t109 t112) = some r := by rw [if_neg (show ¬ (false = true) by decide)] at H; exact H
       clear H; have H := H1; clear H1; have H' := qO H; clear H; have hnb61 := NB115_105.out; have hnc61 := NB105_115.out; have hnb62 := NB115_122.out; have hnc62 := NB122_115.out; obtain ⟨hcz63_0, hcz63_1, hfz63_0, hfz63_1⟩ := qb2 BK115.out; have hnb64 := NB122_105.out; have hnc64 := NB105_122.out; obtain ⟨hcz65_0, hcz65_1, hfz65_0, hfz65_1⟩ := qb2 BK122.out
       go_wp2_with (first | (go_at_call 21; (with_reducible refine (laws_sameStore.calls kj2 _ _ t109 t112 _ _ t116 t119 false _ ?side1 ?side2 ?side3 ?side4 A31.out).mono ?_); (case side1 => exact qa36); (case side2 => exact qa212); (case side3 => exact qa37); (case side4 => exact (Kd.S_reads' HO118.out).2.1); rintro e w66 ⟨rfl, hb⟩; replace HO103 := qO (Kd.S_below qa71 hb); replace HO108 := qO (Kd.R_below qa72 hb); replace HO111 := qO (Kd.S_below qa73 hb); replace HO118 := qO (Kd.S_below qa74 hb); replace BK105 := qO (blk_below (g := gb105) (o := .cells #[.slice Ao13 t101.length co13, .int .i64 t104] 28 (0, 0)) qa53 hb); replace BK115 := qO (blk_below (g := gb115) (o := .cells #[.slice Ao20 t109.length co20, .int .i64 t112] 28 (0, 0)) qa54 hb); replace BK122 := qO (blk_below (g := gb122) (o := .cells #[.slice Ao26 t116.length co26, .int .i64 t119] 28 (0, 0)) qa45 hb); replace HB := qO (below_step qa30 hb); (try clear hb); (try clear hb2); (try clear hk); (try clear hi)))
       go_meet
       case rel => exact ⟨_, (true), qa18, H', ⟨qa193⟩, ⟨qa81⟩, ⟨qa136⟩, ⟨qa137⟩, ⟨qa138⟩, ⟨qa75⟩, ⟨qa88⟩, ⟨qa93⟩, ⟨qa30⟩⟩
     ·rw [if_neg c30] at H
      have c30b0 : (t114 == 0) = false := beq_eq_false_iff_ne.mpr c30; have c30b1 : (t114 != 0) = true := bne_iff_ne.mpr c30; (first | rw [c30b0] | (simp only [i64_w, i32_w]; rw [c30b0]) | skip); have H' := qO H; clear H; go_wp2
      go_meet
      case rel => exact ⟨_, (true), qa18, H', ⟨qa193⟩, ⟨by (with_reducible repeat (first | apply Kd.R_alloc | apply Kd.R_drewN | apply Kd.R_drew)); exact Kd.R_mono (Kd.R_far (p := ⟨gb122, 1, none⟩) (Kd.R_far (p := ⟨gb122, 0, none⟩) (Kd.R_types HO108.out BK122.out (by decide)) (fun _ hk => hk.2) (.slice Ao26 t116.length co26)) (fun _ hk => hk.2) (.int .i64 t119)) (fun _ hk => trivial)⟩, ⟨by (with_reducible repeat (first | apply Kd.S_alloc | apply Kd.S_drewN | apply Kd.S_drew)); exact Kd.S_mono (Kd.S_far (p := ⟨gb122, 1, none⟩) (Kd.S_far (p := ⟨gb122, 0, none⟩) (Kd.S_types HO103.out BK122.out (by decide)) (fun _ hk => hk.2) (.slice Ao26 t116.length co26)) (fun _ hk => hk.2) (.int .i64 t119)) (fun _ hk => ⟨hk.1.1.2, hk.1.2⟩)⟩, ⟨by (with_reducible repeat (first | apply Kd.S_alloc | apply Kd.S_drewN | apply Kd.S_drew)); exact Kd.S_mono (Kd.S_far (p := ⟨gb122, 1, none⟩) (Kd.S_far (p := ⟨gb122, 0, none⟩) (Kd.S_types HO111.out BK122.out (by decide)) (fun _ hk => hk.2) (.slice Ao26 t116.length co26)) (fun _ hk => hk.2) (.int .i64 t119)) (fun _ hk => ⟨hk.1.1.2, hk.1.2⟩)⟩, ⟨by (with_reducible repeat (first | apply Kd.S_alloc | apply Kd.S_drewN | apply Kd.S_drew)); exact Kd.S_mono (Kd.S_far (p := ⟨gb122, 1, none⟩) (Kd.S_far (p := ⟨gb122, 0, none⟩) (Kd.S_types HO118.out BK122.out (by decide)) (fun _ hk => hk.2) (.slice Ao26 t116.length co26)) (fun _ hk => hk.2) (.int .i64 t119)) (fun _ hk => ⟨hk.1.1.2, hk.1.2⟩)⟩, ⟨qa53⟩, ⟨qa54⟩, ⟨qa45⟩, ⟨qa30⟩⟩
    case rest =>
     clear HC10
     try clear c1
     try clear c2
     try clear p2
     try clear c3
     try clear c4
     try clear c4b0
     try clear c4b1
     try clear c5
     try clear c6
     try clear c18
     try clear c21
     try clear c26
     try clear c27
     try clear c28
     try clear c30
     try clear c30b0
     try clear c30b1
     try clear c31
     try clear c32
     try clear c33
     try clear c33b0
     try clear c33b1
     try clear c35
     try clear c37
     try clear c38
     try clear c40
     try clear c47
     try clear c48
     try clear c50
     try clear c55
     try clear c56
     try clear c58
     try clear c61
     try clear c62
     try clear c64
     try clear hcz14_0
     try clear hcz14_1
     try clear hcz16_0
     try clear hcz16_1
     try clear hcz22_0
     try clear hcz22_1
     try clear hcz23_0
     try clear hcz23_1
     try clear hcz29_0
     try clear hcz29_1
     try clear hcz39_0
     try clear hcz39_1
     try clear hcz41_0
     try clear hcz41_1
     try clear hcz43_0
     try clear hcz43_1
     try clear hcz45_0
     try clear hcz45_1
     try clear hcz49_0
     try clear hcz49_1
     try clear hcz51_0
     try clear hcz51_1
     try clear hcz53_0
     try clear hcz53_1
     try clear hcz57_0
     try clear hcz57_1
     try clear hcz59_0
     try clear hcz59_1
     try clear hcz63_0
     try clear hcz63_1
     try clear hcz65_0
     try clear hcz65_1
     try clear hfz14_0
     try clear hfz14_1
     try clear hfz16_0
     try clear hfz16_1
     try clear hfz22_0
     try clear hfz22_1
     try clear hfz23_0
     try clear hfz23_1
     try clear hfz29_0
     try clear hfz29_1
     try clear hfz39_0
     try clear hfz39_1
     try clear hfz41_0
     try clear hfz41_1
     try clear hfz43_0
     try clear hfz43_1
     try clear hfz45_0
     try clear hfz45_1
     try clear hfz49_0
     try clear hfz49_1
     try clear hfz51_0
     try clear hfz51_1
     try clear hfz53_0
     try clear hfz53_1
     try clear hfz57_0
     try clear hfz57_1
     try clear hfz59_0
     try clear hfz59_1
     try clear hfz63_0
     try clear hfz63_1
     try clear hfz65_0
     try clear hfz65_1
     try clear p2
     obtain ⟨kq, x79_9, rfl, HA, HJ9, HO_6, HO_106000, HO_116000, HO_123000, BK105, BK115, BK122, HB⟩ := hcut
     cases kq with
     | zero => exact absurd HA.out (by simp [laws_FnStore.j1])
     | succ kj9 =>
      have H := HA.out; clear HA; simp only [laws_FnStore.j1] at H
      by_cases c67 : x79_9 = true
      ·subst c67
       have H1 : (none) = some r := by rw [if_pos rfl] at H; exact H
       clear H; have H := H1; clear H1
       exact absurd H qa120
      ·replace c67 := Bool.eq_false_iff.mpr c67
       subst c67; have H1 : (laws_FnStore.l0 kj9 t106 t113 0 t101 t104 t109 t112) = some r := by rw [if_neg (show ¬ (false = true) by decide)] at H; exact H
       clear H; have H := H1; clear H1; have H' := qO H; clear H; go_wp2
       go_loopg [13] kj9 (fun kq v13 w' => ∃ (x13_3 : Int), v13 = .int .i64 x13_3 ∧ Aside0 (laws_FnStore.l0 kq t106 t113 x13_3 t101 t104 t109 t112 = some r) ∧ Aside0 (kq ≤ kj9) ∧ Aside0 (Kd.R k58 58 w' w.heap.size (fun _ => True) (.slice Ao17 t106.length co17) t106) ∧ Aside0 (Kd.S (Kd.slice 43 k43) 41 w' w.heap.size (fun k_ => some k_ ≠ ((.slice Ao20 t109.length co20) : Value).ownBlock ∧ some k_ ≠ ((.slice Ao26 t116.length co26) : Value).ownBlock) (.slice Ao13 t101.length co13) t101) ∧ Aside0 (Kd.S (Kd.slice 43 k43) 41 w' w.heap.size (fun k_ => some k_ ≠ ((.slice Ao13 t101.length co13) : Value).ownBlock ∧ some k_ ≠ ((.slice Ao26 t116.length co26) : Value).ownBlock) (.slice Ao20 t109.length co20) t109) ∧ Aside0 (Kd.S (Kd.slice 43 k43) 41 w' w.heap.size (fun k_ => some k_ ≠ ((.slice Ao13 t101.length co13) : Value).ownBlock ∧ some k_ ≠ ((.slice Ao20 t109.length co20) : Value).ownBlock) (.slice Ao26 t116.length co26) t116) ∧ Aside0 (w'.heap[gb105]? = some (.cells #[(.slice Ao13 t101.length co13), .int .i64 t104] 28 (0, 0))) ∧ Aside0 (w'.heap[gb115]? = some (.cells #[(.slice Ao20 t109.length co20), .int .i64 t112] 28 (0, 0))) ∧ Aside0 (w'.heap[gb122]? = some (.cells #[(.slice Ao26 t116.length co26), .int .i64 t119] 28 (0, 0))) ∧ Aside0 (Below w.heap.size w w'))
       case atStart => exact ⟨(0), qa18, H', ⟨Nat.le_refl _⟩, ⟨qa50⟩, ⟨qa60⟩, ⟨qa61⟩, ⟨qa62⟩, ⟨qa75⟩, ⟨qa88⟩, ⟨qa93⟩, ⟨qa30⟩⟩
       case round =>
        clear H'
        try clear c1
        try clear c2
        try clear p2
        try clear c3
        try clear c4
        try clear c4b0
        try clear c4b1
        try clear c5
        try clear c6
        try clear c18
        try clear c21
        try clear c26
        try clear c27
        try clear c28
        try clear c30
        try clear c30b0
        try clear c30b1
        try clear c31
        try clear c32
        try clear c33
        try clear c33b0
        try clear c33b1
        try clear c35
        try clear c37
        try clear c38
        try clear c40
        try clear c47
        try clear c48
        try clear c50
        try clear c55
        try clear c56
        try clear c58
        try clear c61
        try clear c62
        try clear c64
        try clear c67
        try clear hcz14_0
        try clear hcz14_1
        try clear hcz16_0
        try clear hcz16_1
        try clear hcz22_0
        try clear hcz22_1
        try clear hcz23_0
        try clear hcz23_1
        try clear hcz29_0
        try clear hcz29_1
        try clear hcz39_0
        try clear hcz39_1
        try clear hcz41_0
        try clear hcz41_1
        try clear hcz43_0
        try clear hcz43_1
        try clear hcz45_0
        try clear hcz45_1
        try clear hcz49_0
        try clear hcz49_1
        try clear hcz51_0
        try clear hcz51_1
        try clear hcz53_0
        try clear hcz53_1
        try clear hcz57_0
        try clear hcz57_1
        try clear hcz59_0
        try clear hcz59_1
        try clear hcz63_0
        try clear hcz63_1
        try clear hcz65_0
        try clear hcz65_1
        try clear hfz14_0
        try clear hfz14_1
        try clear hfz16_0
        try clear hfz16_1
        try clear hfz22_0
        try clear hfz22_1
        try clear hfz23_0
        try clear hfz23_1
        try clear hfz29_0
        try clear hfz29_1
        try clear hfz39_0
        try clear hfz39_1
        try clear hfz41_0
        try clear hfz41_1
        try clear hfz43_0
        try clear hfz43_1
        try clear hfz45_0
        try clear hfz45_1
        try clear hfz49_0
        try clear hfz49_1
        try clear hfz51_0
        try clear hfz51_1
        try clear hfz53_0
        try clear hfz53_1
        try clear hfz57_0
        try clear hfz57_1
        try clear hfz59_0
        try clear hfz59_1
        try clear hfz63_0
        try clear hfz63_1
        try clear hfz65_0
        try clear hfz65_1
        try clear p2
        obtain ⟨x13_3, rfl, HA, HK3, HO_6, HO_106000, HO_116000, HO_123000, BK105, BK115, BK122, HB⟩ := hrel
        cases gk with
        | zero => exact absurd HA.out (by simp [laws_FnStore.l0])
        | succ k3 =>
         have H := HA.out; clear HA; simp only [laws_FnStore.l0] at H
         by_cases c68 : x13_3 < 16
         ·rw [if_pos c68] at H
          have c68b0 : decide (x13_3 < 16) = true := decide_eq_true c68; clear c68; replace H := Option.bind_eq_some_iff.mp H; obtain ⟨⟨t126, t127⟩, A690, H⟩ := H; replace H : ((impl_ReadAt.f k3 t109 t112 x13_3 t104).bind fun bt128 => ((impl_ReadAt.f k3 t101 t104 x13_3 t104).bind fun bt130 => (laws_FnStore.l1 k3 t106 t113 x13_3 t126 t127 bt128.1 bt128.2 bt130.1 bt130.2 bt130.1 false 0 t101 t104 t109 t112))) = some r := H; have A69 := qO A690; clear A690; replace H := Option.bind_eq_some_iff.mp H; obtain ⟨⟨t128, t129⟩, A700, H⟩ := H; replace H : ((impl_ReadAt.f k3 t101 t104 x13_3 t104).bind fun bt130 => (laws_FnStore.l1 k3 t106 t113 x13_3 t126 t127 t128 t129 bt130.1 bt130.2 bt130.1 false 0 t101 t104 t109 t112)) = some r := H; have A70 := qO A700; clear A700; replace H := Option.bind_eq_some_iff.mp H; obtain ⟨⟨t130, t131⟩, A710, H⟩ := H; replace H : (laws_FnStore.l1 k3 t106 t113 x13_3 t126 t127 t128 t129 t130 t131 t130 false 0 t101 t104 t109 t112) = some r := H; have A71 := qO A710; clear A710; have H' := qO H; clear H; have hnb72 := NB115_105.out; have hnc72 := NB105_115.out; have hnb73 := NB115_122.out; have hnc73 := NB122_115.out; obtain ⟨hcz74_0, hcz74_1, hfz74_0, hfz74_1⟩ := qb2 BK115.out
          go_wp2_with (first | ((with_reducible refine gate_callee (f := 23) rfl ?_); refine goesL_ (some 88) rfl rfl Try.func23 qa7 rfl #[.agg #[.slice Ao20 t109.length co20, .int .i64 t112], .int .i64 x13_3, .int .i64 t113] rfl qa0 ?_; (with_reducible refine (impl_ReadAt.calls k3 _ _ t109 t112 x13_3 t113 t126 t127 _ ?side1 ?side2 A69.out).mono ?_); (case side1 => exact qa107); (case side2 => exact qa208); rintro e w75 ⟨rfl, hb⟩; have hx_ := qHX HB hb qa1; refine ⟨_, rfl, ?_⟩; replace HO_6 := qO (Kd.R_below qa50 hb); replace HO_106000 := qO (Kd.S_below qa60 hb); replace HO_116000 := qO (Kd.S_below qa61 hb); replace HO_123000 := qO (Kd.S_below qa62 hb); replace BK105 := qO (qB BK105.out hx_ hb); replace BK115 := qO (qB BK115.out hx_ hb); replace BK122 := qO (qB BK122.out hx_ hb); replace HB := qO (below_step (below_step HB.out hx_) hb); clear hx_; (try clear hb); (try clear hb2); (try clear hk); (try clear hi); obtain ⟨hcz76_0, hcz76_1, hfz76_0, hfz76_1⟩ := qb2 BK115.out; have hnb77 := NB105_122.out; have hnc77 := NB122_105.out; obtain ⟨hcz78_0, hcz78_1, hfz78_0, hfz78_1⟩ := qb2 BK105.out) | ((with_reducible refine gate_callee (f := 23) rfl ?_); refine goesL_ (some 96) rfl rfl Try.func23 qa7 rfl #[.agg #[.slice Ao20 t109.length co20, .int .i64 t112], .int .i64 x13_3, .int .i64 t104] rfl qa0 ?_; (with_reducible refine (impl_ReadAt.calls k3 _ _ t109 t112 x13_3 t104 t128 t129 _ ?side1 ?side2 A70.out).mono ?_); (case side1 => exact qa107); (case side2 => exact qa208); rintro e w79 ⟨rfl, hb⟩; have hx_ := qHX HB hb qa1; refine ⟨_, rfl, ?_⟩; replace HO_6 := qO (Kd.R_below qa50 hb); replace HO_106000 := qO (Kd.S_below qa60 hb); replace HO_116000 := qO (Kd.S_below qa61 hb); replace HO_123000 := qO (Kd.S_below qa62 hb); replace BK105 := qO (qB BK105.out hx_ hb); replace BK115 := qO (qB BK115.out hx_ hb); replace BK122 := qO (qB BK122.out hx_ hb); replace HB := qO (below_step (below_step HB.out hx_) hb); clear hx_; (try clear hb); (try clear hb2); (try clear hk); (try clear hi); obtain ⟨hcz80_0, hcz80_1, hfz80_0, hfz80_1⟩ := qb2 BK105.out) | ((with_reducible refine gate_callee (f := 23) rfl ?_); refine goesL_ (some 104) rfl rfl Try.func23 qa7 rfl #[.agg #[.slice Ao13 t101.length co13, .int .i64 t104], .int .i64 x13_3, .int .i64 t104] rfl qa0 ?_; (with_reducible refine (impl_ReadAt.calls k3 _ _ t101 t104 x13_3 t104 t130 t131 _ ?side1 ?side2 A71.out).mono ?_); (case side1 => exact qa159); (case side2 => exact (Kd.S_reads' HO_106000.out).2.1); rintro e w81 ⟨rfl, hb⟩; have hx_ := qHX HB hb qa1; refine ⟨_, rfl, ?_⟩; replace HO_6 := qO (Kd.R_below qa50 hb); replace HO_106000 := qO (Kd.S_below qa60 hb); replace HO_116000 := qO (Kd.S_below qa61 hb); replace HO_123000 := qO (Kd.S_below qa62 hb); replace BK105 := qO (qB BK105.out hx_ hb); replace BK115 := qO (qB BK115.out hx_ hb); replace BK122 := qO (qB BK122.out hx_ hb); replace HB := qO (below_step (below_step HB.out hx_) hb); clear hx_; (try clear hb); (try clear hb2); (try clear hk); (try clear hi)))
          go_loopg [20, 21, 22] k3 (fun kq v20 v21 v22 w' => ∃ (x20_4 : Int) (x21_4 : Bool) (x22_4 : Int), v20 = .int .i64 x20_4 ∧ v21 = .bool x21_4 ∧ v22 = .int .i64 x22_4 ∧ Aside0 (laws_FnStore.l1 kq t106 t113 x13_3 t126 t127 t128 t129 t130 t131 x20_4 x21_4 x22_4 t101 t104 t109 t112 = some r) ∧ Aside0 (kq ≤ k3) ∧ Aside0 (Kd.R k58 58 w' w.heap.size (fun _ => True) (.slice Ao17 t106.length co17) t106) ∧ Aside0 (Kd.S (Kd.slice 43 k43) 41 w' w.heap.size (fun k_ => some k_ ≠ ((.slice Ao20 t109.length co20) : Value).ownBlock ∧ some k_ ≠ ((.slice Ao26 t116.length co26) : Value).ownBlock) (.slice Ao13 t101.length co13) t101) ∧ Aside0 (Kd.S (Kd.slice 43 k43) 41 w' w.heap.size (fun k_ => some k_ ≠ ((.slice Ao13 t101.length co13) : Value).ownBlock ∧ some k_ ≠ ((.slice Ao26 t116.length co26) : Value).ownBlock) (.slice Ao20 t109.length co20) t109) ∧ Aside0 (Kd.S (Kd.slice 43 k43) 41 w' w.heap.size (fun k_ => some k_ ≠ ((.slice Ao13 t101.length co13) : Value).ownBlock ∧ some k_ ≠ ((.slice Ao20 t109.length co20) : Value).ownBlock) (.slice Ao26 t116.length co26) t116) ∧ Aside0 (w'.heap[gb105]? = some (.cells #[(.slice Ao13 t101.length co13), .int .i64 t104] 28 (0, 0))) ∧ Aside0 (w'.heap[gb115]? = some (.cells #[(.slice Ao20 t109.length co20), .int .i64 t112] 28 (0, 0))) ∧ Aside0 (w'.heap[gb122]? = some (.cells #[(.slice Ao26 t116.length co26), .int .i64 t119] 28 (0, 0))) ∧ Aside0 (Below w.heap.size w w'))
          case atStart => exact ⟨(t130), (false), (0), qa18, qa18, qa18, H', ⟨Nat.le_refl _⟩, ⟨qa50⟩, ⟨qa60⟩, ⟨qa61⟩, ⟨qa62⟩, ⟨qa75⟩, ⟨qa88⟩, ⟨qa93⟩, ⟨qa30⟩⟩
          case round =>
           clear H'
           try clear c1
           try clear c2
           try clear p2
           try clear c3
           try clear c4
           try clear c4b0
           try clear c4b1
           try clear c5
           try clear c6
           try clear c7
           try clear c18
           try clear c21
           try clear c23
           try clear c26
           try clear c27
           try clear c28
           try clear c30
           try clear c30b0
           try clear c30b1
           try clear c31
           try clear c32
           try clear c33
           try clear c33b0
           try clear c33b1
           try clear c35
           try clear c37
           try clear c38
           try clear c40
           try clear c47
           try clear c48
           try clear c50
           try clear c55
           try clear c56
           try clear c58
           try clear c61
           try clear c62
           try clear c64
           try clear c67
           try clear c68
           try clear c68b0
           try clear c72
           try clear c73
           try clear c77
           try clear hcz14_0
           try clear hcz14_1
           try clear hcz16_0
           try clear hcz16_1
           try clear hcz22_0
           try clear hcz22_1
           try clear hcz23_0
           try clear hcz23_1
           try clear hcz29_0
           try clear hcz29_1
           try clear hcz39_0
           try clear hcz39_1
           try clear hcz41_0
           try clear hcz41_1
           try clear hcz43_0
           try clear hcz43_1
           try clear hcz45_0
           try clear hcz45_1
           try clear hcz49_0
           try clear hcz49_1
           try clear hcz51_0
           try clear hcz51_1
           try clear hcz53_0
           try clear hcz53_1
           try clear hcz57_0
           try clear hcz57_1
           try clear hcz59_0
           try clear hcz59_1
           try clear hcz63_0
           try clear hcz63_1
           try clear hcz65_0
           try clear hcz65_1
           try clear hcz74_0
           try clear hcz74_1
           try clear hcz76_0
           try clear hcz76_1
           try clear hcz78_0
           try clear hcz78_1
           try clear hcz80_0
           try clear hcz80_1
           try clear hfz14_0
           try clear hfz14_1
           try clear hfz16_0
           try clear hfz16_1
           try clear hfz22_0
           try clear hfz22_1
           try clear hfz23_0
           try clear hfz23_1
           try clear hfz29_0
           try clear hfz29_1
           try clear hfz39_0
           try clear hfz39_1
           try clear hfz41_0
           try clear hfz41_1
           try clear hfz43_0
           try clear hfz43_1
           try clear hfz45_0
           try clear hfz45_1
           try clear hfz49_0
           try clear hfz49_1
           try clear hfz51_0
           try clear hfz51_1
           try clear hfz53_0
           try clear hfz53_1
           try clear hfz57_0
           try clear hfz57_1
           try clear hfz59_0
           try clear hfz59_1
           try clear hfz63_0
           try clear hfz63_1
           try clear hfz65_0
           try clear hfz65_1
           try clear hfz74_0
           try clear hfz74_1
           try clear hfz76_0
           try clear hfz76_1
           try clear hfz78_0
           try clear hfz78_1
           try clear hfz80_0
           try clear hfz80_1
           try clear p2
           obtain ⟨x20_4, x21_4, x22_4, rfl, rfl, rfl, HA, HK4, HO_6, HO_106000, HO_116000, HO_123000, BK105, BK115, BK122, HB⟩ := hrel
           cases gk with
           | zero => exact absurd HA.out (by simp [laws_FnStore.l1])
           | succ k4 =>
            have H := HA.out; clear HA; simp only [laws_FnStore.l1] at H
            by_cases c82 : x22_4 < (t106.length : Int)
            ·rw [if_pos c82] at H
             have c82b0 : decide (x22_4 < (t106.length : Int)) = true := decide_eq_true c82; clear c82
             by_cases c83 : 0 ≤ x22_4
             ·rw [if_pos c83] at H
              have c83b0 : decide (0 ≤ x22_4) = true := decide_eq_true c83; clear c83
              by_cases c84 : ((rd_T58 t106 x22_4).f0) = x13_3
              ·rw [if_pos c84] at H
               have c84b0 : (((rd_T58 t106 x22_4).f0) == x13_3) = true := beq_iff_eq.mpr c84; have c84b1 : (((rd_T58 t106 x22_4).f0) != x13_3) = false := bne_eq_false_iff_eq.mpr c84; clear c84; have H' := qO H; clear H; have p132 : 0 ≤ (x22_4 : Int) := qT qa2; have q132 : x22_4 < (t106.length : Int) := qT qa2; obtain ⟨ad132, e132, hx132_0, hx132_1⟩ := at_T58 (Kd.R_reads' HO_6.out).2.2 x22_4 p132 q132
               cases e132
               replace p132 := eq_true p132; replace q132 := eq_true q132; have p133 : 0 ≤ (x22_4 : Int) := qT qa2; have q133 : x22_4 < (t106.length : Int) := qT qa2; obtain ⟨ad133, e133, hx133_0, hx133_1⟩ := at_T58 (Kd.R_reads' HO_6.out).2.2 x22_4 p133 q133; obtain rfl : ad132 = ad133 := (by injection e133); replace p133 := eq_true p133; replace q133 := eq_true q133; go_wp2
               go_roundg k4
               case measure => have := HJ2.out; have := HJ9.out; have := HK3.out; have := HK4.out; omega
               case rel => exact ⟨((rd_T58 t106 x22_4).f1), (true), (wrap64 (x22_4 + 1)), qa18, qa18, qa18, H', ⟨qa182⟩, ⟨qa50⟩, ⟨qa60⟩, ⟨qa61⟩, ⟨qa62⟩, ⟨qa75⟩, ⟨qa88⟩, ⟨qa93⟩, ⟨qa30⟩⟩
              ·rw [if_neg c84] at H
               have c84b0 : (((rd_T58 t106 x22_4).f0) == x13_3) = false := beq_eq_false_iff_ne.mpr c84; have c84b1 : (((rd_T58 t106 x22_4).f0) != x13_3) = true := bne_iff_ne.mpr c84; have H' := qO H; clear H; have p132 : 0 ≤ (x22_4 : Int) := qT qa2; have q132 : x22_4 < (t106.length : Int) := qT qa2; obtain ⟨ad132, e132, hx132_0, hx132_1⟩ := at_T58 (Kd.R_reads' HO_6.out).2.2 x22_4 p132 q132
               cases e132
               replace p132 := eq_true p132; replace q132 := eq_true q132; go_wp2
               go_roundg k4
               case measure => have := HJ2.out; have := HJ9.out; have := HK3.out; have := HK4.out; omega
               case rel => exact ⟨(x20_4), (x21_4), (wrap64 (x22_4 + 1)), qa18, qa18, qa18, H', ⟨qa182⟩, ⟨qa50⟩, ⟨qa60⟩, ⟨qa61⟩, ⟨qa62⟩, ⟨qa75⟩, ⟨qa88⟩, ⟨qa93⟩, ⟨qa30⟩⟩
             ·rw [if_neg c83] at H
              exact absurd H qa120
            ·rw [if_neg c82] at H
             have c82b0 : decide (x22_4 < (t106.length : Int)) = false := decide_eq_false c82; clear c82; replace H := Option.bind_eq_some_iff.mp H; obtain ⟨⟨t134, t135⟩, A850, H⟩ := H; replace H : (if t127 = 0 then (if t129 = 0 then (if t131 = 0 then (if t126 = x20_4 then (if t128 = t130 then (if t135 = 0 then (if (t134 != x21_4) = true then (none) else (laws_FnStore.l0 k4 t106 t113 (wrap64 (x13_3 + 1)) t101 t104 t109 t112)) else (none)) else (if (t106.length : Int) > 0 then (none) else (if t135 = 0 then (if (t134 != x21_4) = true then (none) else (laws_FnStore.l0 k4 t106 t113 (wrap64 (x13_3 + 1)) t101 t104 t109 t112)) else (none)))) else (none)) else (none)) else (none)) else (none)) = some r := H; have A85 := qO A850; clear A850
             by_cases c86 : t127 = 0
             ·rw [if_pos c86] at H
              have c86b0 : (t127 == 0) = true := beq_iff_eq.mpr c86; have c86b1 : (t127 != 0) = false := bne_eq_false_iff_eq.mpr c86; clear c86
              by_cases c87 : t129 = 0
              ·rw [if_pos c87] at H
               have c87b0 : (t129 == 0) = true := beq_iff_eq.mpr c87; have c87b1 : (t129 != 0) = false := bne_eq_false_iff_eq.mpr c87; clear c87
               by_cases c88 : t131 = 0
               ·rw [if_pos c88] at H
                have c88b0 : (t131 == 0) = true := beq_iff_eq.mpr c88; have c88b1 : (t131 != 0) = false := bne_eq_false_iff_eq.mpr c88; clear c88
                by_cases c89 : t126 = x20_4
                ·rw [if_pos c89] at H
                 have c89b0 : (t126 == x20_4) = true := beq_iff_eq.mpr c89; have c89b1 : (t126 != x20_4) = false := bne_eq_false_iff_eq.mpr c89; clear c89
                 by_cases c90 : t128 = t130
                 ·rw [if_pos c90] at H
                  have c90b0 : (t128 == t130) = true := beq_iff_eq.mpr c90; have c90b1 : (t128 != t130) = false := bne_eq_false_iff_eq.mpr c90; clear c90
                  by_cases c91 : t135 = 0
                  ·rw [if_pos c91] at H
                   have c91b0 : (t135 == 0) = true := beq_iff_eq.mpr c91; have c91b1 : (t135 != 0) = false := bne_eq_false_iff_eq.mpr c91; clear c91
                   by_cases c92 : (t134 != x21_4) = true
                   ·rw [if_pos c92] at H
                    exact absurd H qa120
                   ·rw [if_neg c92] at H
                    have c92b0 : (t134 != x21_4) = false := by simpa using c92
                    (try (have c92b1 : decide (t134 = x21_4) = true := by simpa using c92)); (try (have c92b2 : (t134 == x21_4) = true := by simpa using c92)); clear c92; have H' := qO H; clear H; have hnb93 := NB115_105.out; have hnc93 := NB105_115.out; have hnb94 := NB115_122.out; have hnc94 := NB122_115.out; obtain ⟨hcz95_0, hcz95_1, hfz95_0, hfz95_1⟩ := qb2 BK115.out; have hnb96 := NB105_122.out; have hnc96 := NB122_105.out; obtain ⟨hcz97_0, hcz97_1, hfz97_0, hfz97_1⟩ := qb2 BK105.out
                    go_wp2_with (first | ((with_reducible refine gate_callee (f := 32) rfl ?_); refine goesL_ (some 131) rfl rfl Try.func32 qa7 rfl #[.agg #[.slice Ao20 t109.length co20, .int .i64 t112], .int .i64 x13_3, .int .i64 t104] rfl qa0 ?_; (with_reducible refine (impl_ChangedSince.calls k4 _ _ t109 t112 x13_3 t104 t134 t135 _ ?side1 ?side2 A85.out).mono ?_); (case side1 => exact qa107); (case side2 => exact qa208); rintro e w98 ⟨rfl, hb⟩; have hx_ := qHX HB hb qa1; refine ⟨_, rfl, ?_⟩; replace HO_6 := qO (Kd.R_below qa50 hb); replace HO_106000 := qO (Kd.S_below qa60 hb); replace HO_116000 := qO (Kd.S_below qa61 hb); replace HO_123000 := qO (Kd.S_below qa62 hb); replace BK105 := qO (qB BK105.out hx_ hb); replace BK115 := qO (qB BK115.out hx_ hb); replace BK122 := qO (qB BK122.out hx_ hb); replace HB := qO (below_step (below_step HB.out hx_) hb); clear hx_; (try clear hb); (try clear hb2); (try clear hk); (try clear hi)))
                    go_roundg k4
                    case measure => have := HJ2.out; have := HJ9.out; have := HK3.out; have := HK4.out; omega
                    case rel => exact ⟨(wrap64 (x13_3 + 1)), qa18, H', ⟨qa182⟩, ⟨qa50⟩, ⟨qa60⟩, ⟨qa61⟩, ⟨qa62⟩, ⟨qa75⟩, ⟨qa88⟩, ⟨qa93⟩, ⟨qa30⟩⟩
                  ·rw [if_neg c91] at H
                   exact absurd H qa120
                 ·rw [if_neg c90] at H
                  have c90b0 : (t128 == t130) = false := beq_eq_false_iff_ne.mpr c90; have c90b1 : (t128 != t130) = true := bne_iff_ne.mpr c90
                  by_cases c99 : (t106.length : Int) > 0
                  ·rw [if_pos c99] at H
                   exact absurd H qa120
                  ·rw [if_neg c99] at H
                   have c99b0 : decide (0 < (t106.length : Int)) = false := decide_eq_false c99; have c99b1 : decide (0 < t106.length) = false := decide_eq_false qa34; clear c99
                   by_cases c100 : t135 = 0
                   ·rw [if_pos c100] at H
                    have c100b0 : (t135 == 0) = true := beq_iff_eq.mpr c100; have c100b1 : (t135 != 0) = false := bne_eq_false_iff_eq.mpr c100; clear c100
                    by_cases c101 : (t134 != x21_4) = true
                    ·rw [if_pos c101] at H
                     exact absurd H qa120
                    ·rw [if_neg c101] at H
                     have c101b0 : (t134 != x21_4) = false := by simpa using c101
                     (try (have c101b1 : decide (t134 = x21_4) = true := by simpa using c101)); (try (have c101b2 : (t134 == x21_4) = true := by simpa using c101)); clear c101; have H' := qO H; clear H; have hnb102 := NB115_105.out; have hnc102 := NB105_115.out; have hnb103 := NB115_122.out; have hnc103 := NB122_115.out; obtain ⟨hcz104_0, hcz104_1, hfz104_0, hfz104_1⟩ := qb2 BK115.out; have hnb105 := NB105_122.out; have hnc105 := NB122_105.out; obtain ⟨hcz106_0, hcz106_1, hfz106_0, hfz106_1⟩ := qb2 BK105.out
                     go_wp2_with (first | ((with_reducible refine gate_callee (f := 32) rfl ?_); refine goesL_ (some 131) rfl rfl Try.func32 qa7 rfl #[.agg #[.slice Ao20 t109.length co20, .int .i64 t112], .int .i64 x13_3, .int .i64 t104] rfl qa0 ?_; (with_reducible refine (impl_ChangedSince.calls k4 _ _ t109 t112 x13_3 t104 t134 t135 _ ?side1 ?side2 A85.out).mono ?_); (case side1 => exact qa107); (case side2 => exact qa208); rintro e w107 ⟨rfl, hb⟩; have hx_ := qHX HB hb qa1; refine ⟨_, rfl, ?_⟩; replace HO_6 := qO (Kd.R_below qa50 hb); replace HO_106000 := qO (Kd.S_below qa60 hb); replace HO_116000 := qO (Kd.S_below qa61 hb); replace HO_123000 := qO (Kd.S_below qa62 hb); replace BK105 := qO (qB BK105.out hx_ hb); replace BK115 := qO (qB BK115.out hx_ hb); replace BK122 := qO (qB BK122.out hx_ hb); replace HB := qO (below_step (below_step HB.out hx_) hb); clear hx_; (try clear hb); (try clear hb2); (try clear hk); (try clear hi)))
                     go_roundg k4
                     case measure => have := HJ2.out; have := HJ9.out; have := HK3.out; have := HK4.out; omega
                     case rel => exact ⟨(wrap64 (x13_3 + 1)), qa18, H', ⟨qa182⟩, ⟨qa50⟩, ⟨qa60⟩, ⟨qa61⟩, ⟨qa62⟩, ⟨qa75⟩, ⟨qa88⟩, ⟨qa93⟩, ⟨qa30⟩⟩
                   ·rw [if_neg c100] at H
                    exact absurd H qa120
                ·rw [if_neg c89] at H
                 exact absurd H qa120
               ·rw [if_neg c88] at H
                exact absurd H qa120
              ·rw [if_neg c87] at H
               exact absurd H qa120
             ·rw [if_neg c86] at H
              exact absurd H qa120
         ·rw [if_neg c68] at H
          have c68b0 : decide (x13_3 < 16) = false := decide_eq_false c68; clear c68; replace H := Option.bind_eq_some_iff.mp H; obtain ⟨⟨t136, t137⟩, A1080, H⟩ := H; replace H : ((impl_KeysSince.f k3 t109 t112 t104).bind fun bt138 => ((spec_KeysSince.f k3 t109 t112 t104).bind fun bt142 => (if t137 = 0 then (if t136 = true then (if ((decide ((t106.length : Int) > 0)) == (decide (t113 > t104))) = true then (if bt138.2 = 0 then ((laws_sameInts.f k3 bt138.1 bt142.1).bind fun t146 => (some t146)) else (none)) else (none)) else (none)) else (none)))) = some r := H; have A108 := qO A1080; clear A1080; replace H := Option.bind_eq_some_iff.mp H; obtain ⟨⟨t138, t141⟩, A1090, H⟩ := H; replace H : ((spec_KeysSince.f k3 t109 t112 t104).bind fun bt142 => (if t137 = 0 then (if t136 = true then (if ((decide ((t106.length : Int) > 0)) == (decide (t113 > t104))) = true then (if t141 = 0 then ((laws_sameInts.f k3 t138 bt142.1).bind fun t146 => (some t146)) else (none)) else (none)) else (none)) else (none))) = some r := H; have A109 := qO A1090; clear A1090; replace H := Option.bind_eq_some_iff.mp H; obtain ⟨⟨t142, t145⟩, A1100, H⟩ := H; replace H : (if t137 = 0 then (if t136 = true then (if ((decide ((t106.length : Int) > 0)) == (decide (t113 > t104))) = true then (if t141 = 0 then ((laws_sameInts.f k3 t138 t142).bind fun t146 => (some t146)) else (none)) else (none)) else (none)) else (none)) = some r := H; have A110 := qO A1100; clear A1100
          by_cases c111 : t137 = 0
          ·rw [if_pos c111] at H
           have c111b0 : (t137 == 0) = true := beq_iff_eq.mpr c111; have c111b1 : (t137 != 0) = false := bne_eq_false_iff_eq.mpr c111; clear c111
           by_cases c112 : t136 = true
           ·subst c112
            have H1 : (if ((decide ((t106.length : Int) > 0)) == (decide (t113 > t104))) = true then (if t141 = 0 then ((laws_sameInts.f k3 t138 t142).bind fun t146 => (some t146)) else (none)) else (none)) = some r := by rw [if_pos rfl] at H; exact H
            clear H; have H := H1; clear H1
            by_cases c113 : ((decide ((t106.length : Int) > 0)) == (decide (t113 > t104))) = true
            ·rw [if_pos c113] at H
             have c113b0 : ((decide ((t106.length : Int) > 0)) == (decide (t113 > t104))) = true := c113; (try (have c113b1 : decide ((decide ((t106.length : Int) > 0)) = (decide (t113 > t104))) = true := by simpa using c113)); (try (have c113b2 : ((decide ((t106.length : Int) > 0)) == (decide (t113 > t104))) = true := by simpa using c113)); have c113b3 := c113
             simp at c113b3
             have c113b4 := eq_true c113b3; clear c113
             by_cases c114 : t141 = 0
             ·rw [if_pos c114] at H
              have c114b0 : (t141 == 0) = true := beq_iff_eq.mpr c114; have c114b1 : (t141 != 0) = false := bne_eq_false_iff_eq.mpr c114; clear c114; replace H := Option.bind_eq_some_iff.mp H; obtain ⟨t146, A1150, H⟩ := H; replace H : (some t146) = some r := H; have A115 := qO A1150; clear A1150; obtain rfl := Option.some.inj H; have hnb116 := NB105_115.out; have hnc116 := NB115_105.out; have hnb117 := NB105_122.out; have hnc117 := NB122_105.out; obtain ⟨hcz118_0, hcz118_1, hfz118_0, hfz118_1⟩ := qb2 BK105.out
              go_wp2_with (first | ((with_reducible refine gate_callee (f := 24) rfl ?_); refine goesL_ (some 171) rfl rfl Try.func24 qa7 rfl #[.agg #[.slice Ao13 t101.length co13, .int .i64 t104], .agg #[.slice Ao13 t101.length co13, .int .i64 t104]] rfl qa0 ?_; (with_reducible refine (impl_SameAt.calls k3 _ _ t101 t104 _ _ t101 t104 true t137 _ ?side1 ?side2 ?side3 ?side4 A108.out).mono ?_); (case side1 => exact qa159); (case side2 => exact (Kd.S_reads' HO_106000.out).2.1); (case side3 => exact qa159); (case side4 => exact (Kd.S_reads' HO_106000.out).2.1); rintro e w119 ⟨rfl, hb⟩; have hx_ := qHX HB hb qa1; refine ⟨_, rfl, ?_⟩; replace HO_6 := qO (Kd.R_below qa50 hb); replace HO_106000 := qO (Kd.S_below qa60 hb); replace HO_116000 := qO (Kd.S_below qa61 hb); replace HO_123000 := qO (Kd.S_below qa62 hb); replace BK105 := qO (qB BK105.out hx_ hb); replace BK115 := qO (qB BK115.out hx_ hb); replace BK122 := qO (qB BK122.out hx_ hb); replace HB := qO (below_step (below_step HB.out hx_) hb); clear hx_; (try clear hb); (try clear hb2); (try clear hk); (try clear hi); have hnb120 := NB115_122.out; have hnc120 := NB122_115.out; obtain ⟨hcz121_0, hcz121_1, hfz121_0, hfz121_1⟩ := qb2 BK115.out; obtain ⟨hcz122_0, hcz122_1, hfz122_0, hfz122_1⟩ := qb2 BK105.out) | ((with_reducible refine gate_callee (f := 33) rfl ?_); refine goesL_ (some 178) rfl rfl Try.func33 qa7 rfl #[.agg #[.slice Ao20 t109.length co20, .int .i64 t112], .int .i64 t104] rfl qa0 ?_; (with_reducible refine (impl_KeysSince.calls k3 _ _ t109 t112 t104 t138 t141 _ ?side1 ?side2 A109.out).mono ?_); (case side1 => exact qa107); (case side2 => exact qa208); rintro e w123 ⟨v139, rfl, ho0, hb⟩; have hx_ := qHX HB hb qa1; refine ⟨_, rfl, ?_⟩; have HO140 := qO (Kd.R_lower ho0 (below_size (below_step HB.out hx_))); replace HO_6 := qO (Kd.R_below qa50 hb); replace HO_106000 := qO (Kd.S_below qa60 hb); replace HO_116000 := qO (Kd.S_below qa61 hb); replace HO_123000 := qO (Kd.S_below qa62 hb); replace BK105 := qO (qB BK105.out hx_ hb); replace BK115 := qO (qB BK115.out hx_ hb); replace BK122 := qO (qB BK122.out hx_ hb); replace HB := qO (below_step (below_step HB.out hx_) hb); clear hx_; (try clear hb); (try clear hb2); (try clear hk); (try clear hi); (try clear ho0); obtain ⟨hcz124_0, hcz124_1, hfz124_0, hfz124_1⟩ := qb2 BK115.out; obtain ⟨hcz125_0, hcz125_1, hfz125_0, hfz125_1⟩ := qb2 BK105.out) | ((with_reducible refine gate_callee (f := 34) rfl ?_); refine goesL_ (some 185) rfl rfl Try.func34 qa7 rfl #[.agg #[.slice Ao20 t109.length co20, .int .i64 t112], .int .i64 t104] rfl qa0 ?_; (with_reducible refine (spec_KeysSince.calls k3 _ _ t109 t112 t104 t142 t145 _ ?side1 ?side2 A110.out).mono ?_); (case side1 => exact qa107); (case side2 => exact qa208); rintro e w126 ⟨v143, rfl, ho0, hb⟩; have hx_ := qHX HB hb qa1; refine ⟨_, rfl, ?_⟩; have HO144 := qO (Kd.R_lower (Kd.R_new' ho0 (Kd.R_lt qa147)) (below_size (below_step HB.out hx_))); replace HO_6 := qO (Kd.R_below qa50 hb); replace HO_106000 := qO (Kd.S_below qa60 hb); replace HO_116000 := qO (Kd.S_below qa61 hb); replace HO_123000 := qO (Kd.S_below qa62 hb); replace HO140 := qO (Kd.R_elder' qa147 (Kd.R_base ho0) hb); replace BK105 := qO (qB BK105.out hx_ hb); replace BK115 := qO (qB BK115.out hx_ hb); replace BK122 := qO (qB BK122.out hx_ hb); replace HB := qO (below_step (below_step HB.out hx_) hb); clear hx_; (try clear hb); (try clear hb2); (try clear hk); (try clear hi); (try clear ho0); obtain ⟨hcz127_0, hcz127_1, hfz127_0, hfz127_1⟩ := qb2 BK105.out; obtain ⟨Ao128, co128, eo128⟩ := Kd.R_slice HO140.out; subst eo128; obtain ⟨Ao129, co129, eo129⟩ := Kd.R_slice HO144.out; subst eo129) | (go_at_call 35; (with_reducible refine (laws_sameInts.calls k3 _ _ t138 _ _ t142 t146 _ ?side1 ?side2 ?side3 ?side4 A115.out).mono ?_); (case side1 => exact qa186); (case side2 => exact (Kd.R_reads' HO140.out).2.1); (case side3 => repeat (first | exact (Kd.R_reads' HO144.out).2.2 | with_reducible first | refine Kd.C_alloc ?_ _ | refine Kd.C_drewN ?_ _ | refine Kd.C_drew ?_)); (case side4 => exact (Kd.R_reads' HO144.out).2.1); rintro e w' ⟨rfl, ⟨nd, rfl⟩⟩))
              go_ret
              exact ⟨qa9, qa30⟩
             ·rw [if_neg c114] at H
              exact absurd H qa120
            ·rw [if_neg c113] at H
             exact absurd H qa120
           ·replace c112 := Bool.eq_false_iff.mpr c112
            subst c112; have H1 : (none) = some r := by rw [if_neg (show ¬ (false = true) by decide)] at H; exact H
            clear H; have H := H1; clear H1
            exact absurd H qa120
          ·rw [if_neg c111] at H
           exact absurd H qa120

/-- THE ONE PURE STATEMENT of laws_FnStore: yours. -/
def laws_FnStore.Pure : Prop := ∀ (l0 : List Int) (l1 : List Int), l0.length ≤ maxLen → l0.length * 1 ≤ 140737488351232 → (∀ x ∈ l0, (Lit.int .u8 x).wf = true) → l1.length ≤ maxLen → l1.length * 1 ≤ 140737488351232 → (∀ x ∈ l1, (Lit.int .u8 x).wf = true) → ∃ k, laws_FnStore.f k l0 l1 = some true
theorem laws_FnStore.walk (P : laws_FnStore.Pure) (a0 : Option Addr) (len0 cap0 : Nat) (z0 : List Int) (a1 : Option Addr) (len1 cap1 : Nat) (z1 : List Int) (w : World) (w0 : (a0 = none ∧ len0 = 0 ∧ cap0 = 0 ∧ z0 = []) ∨ ∃ x, a0 = some x ∧ len0 ≤ cap0 ∧ cap0 ≤ maxLen ∧ z0.length = cap0 ∧ (∀ i, i < z0.length → w.cell? (x.add i) = some (.int .u8 (z0.getD i 0))) ∧ ∀ n ∈ z0, (Lit.int .u8 n).wf = true) (y0 : len0 * 1 ≤ 140737488351232) (w1 : (a1 = none ∧ len1 = 0 ∧ cap1 = 0 ∧ z1 = []) ∨ ∃ x, a1 = some x ∧ len1 ≤ cap1 ∧ cap1 ≤ maxLen ∧ z1.length = cap1 ∧ (∀ i, i < z1.length → w.cell? (x.add i) = some (.int .u8 (z1.getD i 0))) ∧ ∀ n ∈ z1, (Lit.int .u8 n).wf = true) (y1 : len1 * 1 ≤ 140737488351232) :
  Calls Try.prog 6 #[.slice a0 len0 cap0, .slice a1 len1 cap1] w fun e w' => e = .returned (.bool true) ∧ Below w.heap.size w w' := by
 obtain ⟨l0, rfl, hr0, hm0, hw0, hc0⟩ := ReadsInt.ofRowC w0; obtain ⟨l1, rfl, hr1, hm1, hw1, hc1⟩ := ReadsInt.ofRowC w1; obtain ⟨k, h⟩ := P l0 l1 hm0 y0 hw0 hm1 y1 hw1; refine (laws_FnStore.calls k _ _ l0 _ _ l1 true w (Kd.C_of_reads (d := (0 : Int)) (h1 := fun _ => rfl) hr0) hc0 (Kd.C_of_reads (d := (0 : Int)) (h1 := fun _ => rfl) hr1) hc1 h).mono ?_; rintro e w' ⟨rfl, hd⟩
 exact ⟨rfl, hd⟩

end Go.Proofs.Ytfiboooflebdpaa.Q
namespace Go.Proofs.Ytfiboooflebdpaa.Q
open Go.RowKit Go.Proofs.YtfiboooflebdpaaW.PrintWords Go.Proofs.Ytfiboooflebdpaa.Opens
set_option linter.unusedVariables false
def i141 (x : S141) : Prop := (Lit.int .i64 x.f0).wf = true ∧ (Lit.int .i64 x.f1).wf = true
theorem o141 : Opens Try.prog 141 k141 i141 := opens_struct (N := 2) Try.underlying141 qa7 (opensF_cons rfl qa7 (opens_int Try.underlying3) (opensF_one rfl rfl qa7 (opens_int Try.underlying3))) (fun y => ⟨y.1, y.2⟩) (fun _ => rfl)
def i24 (x : S24) : Prop := (x.f0.length ≤ 9223372036854775807 ∧ ∀ y1_ ∈ x.f0, (y1_.length ≤ 9223372036854775807 ∧ ∀ y2_ ∈ y1_, i141 y2_)) ∧ (Lit.int .i64 x.f1).wf = true
theorem o24 : Opens Try.prog 24 k24 i24 := opens_struct (N := 2) Try.underlying24 qa7 (opensF_cons rfl qa7 (opens_slice Try.underlying22 qa7 (opens_slice Try.underlying122 qa7 o141)) (opensF_one rfl rfl qa7 (opens_int Try.underlying3))) (fun y => ⟨y.1, y.2⟩) (fun _ => rfl)
def i76 (x : S76) : Prop := (Lit.int .i64 x.f0).wf = true ∧ (Lit.int .i64 x.f1).wf = true
theorem o76 : Opens Try.prog 76 k76 i76 := opens_struct (N := 2) Try.underlying76 qa7 (opensF_cons rfl qa7 (opens_int Try.underlying3) (opensF_one rfl rfl qa7 (opens_int Try.underlying3))) (fun y => ⟨y.1, y.2⟩) (fun _ => rfl)
def i75 (x : S75) : Prop := (Lit.int .i64 x.f0).wf = true ∧ (x.f1.length ≤ 9223372036854775807 ∧ ∀ y1_ ∈ x.f1, (Lit.int .i64 y1_).wf = true) ∧ (x.f2.length ≤ 9223372036854775807 ∧ ∀ y1_ ∈ x.f2, i76 y1_)
theorem o75 : Opens Try.prog 75 k75 i75 := opens_struct (N := 3) Try.underlying75 qa7 (opensF_cons rfl qa7 (opens_int Try.underlying3) (opensF_cons rfl qa7 (opens_slice Try.underlying60 qa7 (opens_int Try.underlying3)) (opensF_one rfl rfl qa7 (opens_slice Try.underlying48 qa7 o76)))) (fun y => ⟨y.1, y.2.1, y.2.2⟩) (fun _ => rfl)
def laws_FnStore.Pure2 : Prop := ∀ (y0 : List Int), ∀ (y1 : List Int), (y0.length ≤ 9223372036854775807 ∧ ∀ y1_ ∈ y0, (Lit.int .u8 y1_).wf = true) → (y1.length ≤ 9223372036854775807 ∧ ∀ y1_ ∈ y1, (Lit.int .u8 y1_).wf = true) → ∃ k, laws_FnStore.f k y0 y1 = some true
end Go.Proofs.Ytfiboooflebdpaa.Q
namespace Go.Proofs.Ytfiboooflebdpaa.Pure2
open Go.RowKit Go.Proofs.Ytfiboooflebdpaa.Q Go.Proofs.YtfiboooflebdpaaW.PrintWords Go.Proofs.YtfiboooflebdpaaW.PrintLast
set_option linter.unusedVariables false
set_option linter.unusedSimpArgs false
/-! small words -/
theorem wsucc {j n : Nat} (h : j < n) (hn : n ≤ 4611686018427387904) : wrap64 ((j : Int) + 1) = ((j + 1 : Nat) : Int) := by unfold wrap64; omega
theorem ev_step {α : Type} {g f : Nat → Option α} {r : α} (h : ∃ K, ∀ k, K ≤ k → g (k + 1) = f k) (k : Ev f r) : Ev g r := by
  obtain ⟨K, h⟩ := h; obtain ⟨K', k⟩ := k; refine ⟨max K K' + 1, fun n hn => ?_⟩; obtain ⟨m, rfl⟩ : ∃ m, n = m + 1 := ⟨n - 1, qa34⟩; rw [h m qa34, k m qa34]
theorem ev_now {α : Type} {g : Nat → Option α} {r : α} (h : ∃ K, ∀ k, K ≤ k → g (k + 1) = some r) : Ev g r := ev_step (f := fun _ => some r) h (Ev.now r)
theorem ev_same {α : Type} {g f : Nat → Option α} {r : α} (h : ∃ K, ∀ k, K ≤ k → g k = f k) (k : Ev f r) : Ev g r := by
  obtain ⟨K, h⟩ := h; obtain ⟨K', k⟩ := k
  exact ⟨max K K', fun n hn => by rw [h n qa34, k n qa34]⟩
theorem ev_two {α β : Type} {g : Nat → Option α} {f : Nat → Option β} {r : α} {q : β} (h : Ev g r) (k : Ev f q) : ∃ K, ∀ n, K ≤ n → g n = some r ∧ f n = some q := by
  obtain ⟨K, h⟩ := h; obtain ⟨K', k⟩ := k
  exact ⟨max K K', fun n hn => ⟨h n qa34, k n qa34⟩⟩
theorem ev_mk {α : Type} {g : Nat → Option α} {r : α} (K : Nat) (h : ∀ k, K ≤ k → g k = some r) : Ev g r := ⟨K, h⟩
theorem ev_at {α : Type} {g : Nat → Option α} {r : α} (h : Ev g r) : ∃ K, ∀ k, K ≤ k → g k = some r := h
/-- A loop that counts up to n: from the end back. -/
theorem count_loop {ρ : Type} (n : Nat) (L : Nat → Int → Option ρ) (Post : Nat → ρ → Prop) (hend : ∃ r, Post n r ∧ Ev (fun k => L k (n : Int)) r)
    (hstep : ∀ j, j < n → ∀ r, Post (j + 1) r → Ev (fun k => L k ((j + 1 : Nat) : Int)) r → ∃ r', Post j r' ∧ Ev (fun k => L k (j : Int)) r') :
    ∀ j, j ≤ n → ∃ r, Post j r ∧ Ev (fun k => L k (j : Int)) r := by
  have key : ∀ d j, j ≤ n → n - j = d → ∃ r, Post j r ∧ Ev (fun k => L k (j : Int)) r := by
    intro d
    induction d with
    | zero => intro j hj hd; obtain rfl : j = n := by omega
              exact hend
    | succ d ih =>
      intro j hj hd; obtain ⟨r, hp, he⟩ := ih (j + 1) qa34 qa34
      exact hstep j qa34 r hp he
  intro j hj
  exact key _ j hj rfl
/-- A loop that carries a state up to n. -/
theorem state_loop {σ ρ : Type} (n : Nat) (L : Nat → σ → Int → Option ρ) (Inv : Nat → σ → Prop) (Post : Nat → σ → ρ → Prop) (hend : ∀ s, Inv n s → ∃ r, Post n s r ∧ Ev (fun k => L k s (n : Int)) r)
    (hstep : ∀ j s, j < n → Inv j s → (∃ r, Post j s r ∧ Ev (fun k => L k s (j : Int)) r) ∨ ∃ s', Inv (j + 1) s' ∧ (∀ r, Post (j + 1) s' r → Post j s r) ∧ ∃ K, ∀ k, K ≤ k → L (k + 1) s (j : Int) = L k s' ((j + 1 : Nat) : Int)) :
    ∀ j s, j ≤ n → Inv j s → ∃ r, Post j s r ∧ Ev (fun k => L k s (j : Int)) r := by
  have key : ∀ d j s, j ≤ n → n - j = d → Inv j s → ∃ r, Post j s r ∧ Ev (fun k => L k s (j : Int)) r := by
    intro d
    induction d with
    | zero => intro j s hj hd hi; obtain rfl : j = n := by omega
              exact hend s hi
    | succ d ih =>
      intro j s hj hd hi
      rcases hstep j s qa34 hi with h | ⟨s', hi', hp, hk⟩
      · exact h
      · obtain ⟨r, hr, he⟩ := ih (j + 1) s' qa34 qa34 hi'
        exact ⟨r, hp r hr, ev_step hk he⟩
  intro j s hj hi
  exact key _ j s hj rfl hi
/-- A loop that fills a row of its own. -/
theorem fill_loop {α β : Type} (xs : List α) (z : α) (g : α → β) (L : Nat → List β → Int → Option (List β)) (hend : ∀ y : List β, y.length = xs.length → ∃ K, ∀ k, K ≤ k → L (k + 1) y (xs.length : Int) = some y)
    (hstep : ∀ (j : Nat) (y : List β), j < xs.length → y.length = xs.length → ∃ K, ∀ k, K ≤ k → L (k + 1) y (j : Int) = L k (y.set j (g (xs.getD j z))) ((j + 1 : Nat) : Int)) (y : List β) (hy : y.length = xs.length) :
    Ev (fun k => L k y 0) (xs.map g) := by
  obtain ⟨r, hr, he⟩ := state_loop xs.length L (fun j y => y.length = xs.length ∧ ∀ i, i < j → y[i]? = (xs.map g)[i]?) (fun _ _ r => r = xs.map g) (fun y hi => ⟨y, List.ext_getElem? fun i => by
      by_cases hi' : i < xs.length
      · exact hi.2 i hi'
      · rw [List.getElem?_eq_none qa34, List.getElem?_eq_none (by simp; omega)], ev_now (hend y hi.1)⟩) (fun j y hj hi => .inr ⟨_, ⟨by simp [hi.1], fun i hij => by
      by_cases he : i = j
      · subst he
        rw [List.getElem?_set_self qa34]
        simp [List.getD_eq_getElem?_getD, List.getElem?_eq_getElem hj]
      · rw [List.getElem?_set_ne qa34]
        exact hi.2 i qa34⟩, fun r h => h, hstep j y hj hi.1⟩) 0 y qa34 ⟨hy, fun i hi => by omega⟩
  subst hr
  exact he
def fitsB (key v : Int) : Bool := if Int.tmod key 2 = 1 then decide (0 ≤ v ∧ v ≤ 8) else decide (-2147483648 ≤ v ∧ v ≤ 2147483647)
theorem spec_in (a b c : Int) : spec_l01In.f a b c = some (decide (b ≤ a ∧ a ≤ c)) := by
  unfold spec_l01In.f
  by_cases h : b ≤ a
  · rw [if_pos h]; simp [h]
  · rw [if_neg h]; simp [h]
theorem impl_in (a b c : Int) : impl_within.f a b c = some (decide (b ≤ a ∧ a ≤ c)) := spec_in a b c
theorem spec_fits (a b : Int) : spec_l06Value.f a b = some (fitsB a b) := by
  unfold spec_l06Value.f spec_IsInt.f fitsB
  by_cases h : Int.tmod a 2 = 1
  · rw [if_pos h, if_pos h, spec_in]; rfl
  · rw [if_neg h, if_neg h, spec_in]; rfl
theorem impl_fits (a b : Int) : impl_fits.f a b = some (fitsB a b) := by
  unfold impl_fits.f impl_IsInt.f fitsB
  by_cases h : Int.tmod a 2 = 1
  · rw [if_pos h, if_pos h, impl_in]; rfl
  · rw [if_neg h, if_neg h, impl_in]; rfl
/-- A version that is right at its place. -/
def VerOK (now : Int) (key : Nat) (c : List S43) (i : Nat) : Prop :=
  1 ≤ (c.getD i z43).f0 ∧ (c.getD i z43).f0 ≤ now ∧ fitsB key (c.getD i z43).f1 = true ∧ (0 < i → (c.getD (i - 1) z43).f0 < (c.getD i z43).f0)
def IsStore (cs : List (List S43)) (now : Int) : Prop := cs.length = 16 ∧ 0 ≤ now ∧ now ≤ 100000 ∧ ∀ i, i < 16 → ∀ j, j < (cs.getD i []).length → VerOK now i (cs.getD i []) j
theorem spec_chain (cs : List (List S43)) (now : Int) (hl : cs.length = 16) (i : Nat) (hi : i < 16) (hx : (cs.getD i []).length ≤ 1048576) (R : Bool) (hR : Ev (fun k => spec_StoreOK.l0 k ((i + 1 : Nat) : Int) cs now) R) :
    ∃ r, Ev (fun k => spec_StoreOK.l1 k i 0 cs now) r ∧ (r = true ↔ (∀ j, j < (cs.getD i []).length → VerOK now i (cs.getD i []) j) ∧ R = true) := by
  obtain ⟨r, hr, he⟩ := count_loop (cs.getD i []).length (fun k j => spec_StoreOK.l1 k i j cs now) (fun j r => r = true ↔ (∀ j', j ≤ j' → j' < (cs.getD i []).length → VerOK now i (cs.getD i []) j') ∧ R = true)
    ⟨R, ⟨fun h => ⟨fun j' h1 h2 => by omega, h⟩, fun h => h.2⟩, ev_step ⟨0, fun k _ => by
      simp only [spec_StoreOK.l1]; rw [if_pos qa34, if_pos qa34, if_neg (by show ¬ ((cs.getD i []).length : Int) < ((rd_L4 cs (i : Int)).length : Int); simp [rd_L4]), wsucc (n := 16) hi qa34]⟩ hR⟩
    (fun j hj r hr he => by
      have hd : rd_L4 cs (i : Int) = cs.getD i [] := rfl; have hv : rd_T43 (cs.getD i []) (j : Int) = (cs.getD i []).getD j z43 := rfl
      have hw1 : 0 < j → rd_T43 (cs.getD i []) (wrap64 ((j : Int) - 1)) = (cs.getD i []).getD (j - 1) z43 := fun h0 => by
        have : wrap64 ((j : Int) - 1) = ((j - 1 : Nat) : Int) := by unfold wrap64; omega
        rw [this]; rfl
      have hw2 : 0 < j → 0 ≤ wrap64 ((j : Int) - 1) ∧ wrap64 ((j : Int) - 1) < ((cs.getD i []).length : Int) := fun h0 => by
        have : wrap64 ((j : Int) - 1) = ((j - 1 : Nat) : Int) := by unfold wrap64; omega
        rw [this]; omega
      have no : ¬ VerOK now i (cs.getD i []) j → (∃ K, ∀ k, K ≤ k → spec_StoreOK.l1 (k + 1) i j cs now = some false) → ∃ r', (r' = true ↔ (∀ j', j ≤ j' → j' < (cs.getD i []).length → VerOK now i (cs.getD i []) j') ∧ R = true) ∧ Ev (fun k => spec_StoreOK.l1 k i j cs now) r' :=
        fun hn hk => ⟨false, ⟨fun h => (by cases h), fun h => absurd (h.1 j (Nat.le_refl _) hj) hn⟩, ev_now hk⟩
      have yes : VerOK now i (cs.getD i []) j → (∃ K, ∀ k, K ≤ k → spec_StoreOK.l1 (k + 1) i j cs now = spec_StoreOK.l1 k i ((j + 1 : Nat) : Int) cs now) → ∃ r', (r' = true ↔ (∀ j', j ≤ j' → j' < (cs.getD i []).length → VerOK now i (cs.getD i []) j') ∧ R = true) ∧ Ev (fun k => spec_StoreOK.l1 k i j cs now) r' :=
        fun hn hk => ⟨r, hr.trans ⟨fun h => ⟨fun j' h1 h2 => by
          rcases Nat.lt_or_eq_of_le h1 with h3 | rfl
          · exact h.1 j' h3 h2
          · exact hn, h.2⟩, fun h => ⟨fun j' h1 h2 => h.1 j' qa34 h2, h.2⟩⟩, ev_step hk he⟩
      have hh : ∀ k, spec_StoreOK.l1 (k + 1) i j cs now = if (decide (1 ≤ ((cs.getD i []).getD j z43).f0 ∧ ((cs.getD i []).getD j z43).f0 ≤ now)) = true then (if fitsB i ((cs.getD i []).getD j z43).f1 = true then (if (j : Int) > 0 then (if ((cs.getD i []).getD (j - 1) z43).f0 ≥ ((cs.getD i []).getD j z43).f0 then some false else spec_StoreOK.l1 k i ((j + 1 : Nat) : Int) cs now) else spec_StoreOK.l1 k i ((j + 1 : Nat) : Int) cs now) else some false) else some false := by
        intro k
        conv => lhs; simp only [spec_StoreOK.l1]
        rw [hd, if_pos qa34, if_pos qa34, if_pos qa34, if_pos qa34, spec_in, spec_fits, hv]; simp only [Option.bind_some, wsucc hj qa34]
        by_cases h0 : 0 < j
        · rw [hw1 h0, if_pos (hw2 h0).1, if_pos (hw2 h0).2]
        · simp only [if_neg (show ¬ ((j : Int) > 0) by omega)]
      by_cases h1 : 1 ≤ ((cs.getD i []).getD j z43).f0 ∧ ((cs.getD i []).getD j z43).f0 ≤ now
      · by_cases h2 : fitsB i ((cs.getD i []).getD j z43).f1 = true
        · by_cases h3 : 0 < j
          · by_cases h4 : ((cs.getD i []).getD (j - 1) z43).f0 ≥ ((cs.getD i []).getD j z43).f0
            · exact no (fun h => absurd (h.2.2.2 h3) qa34) ⟨0, fun k _ => by rw [hh, if_pos (decide_eq_true h1), if_pos h2, if_pos qa34, if_pos h4]⟩
            · exact yes ⟨h1.1, h1.2, h2, fun _ => by omega⟩ ⟨0, fun k _ => by rw [hh, if_pos (decide_eq_true h1), if_pos h2, if_pos qa34, if_neg h4]⟩
          · exact yes ⟨h1.1, h1.2, h2, fun h => absurd h h3⟩ ⟨0, fun k _ => by rw [hh, if_pos (decide_eq_true h1), if_pos h2, if_neg qa34]⟩
        · exact no (fun h => h2 h.2.2.1) ⟨0, fun k _ => by rw [hh, if_pos (decide_eq_true h1), if_neg h2]⟩
      · exact no (fun h => h1 ⟨h.1, h.2.1⟩) ⟨0, fun k _ => by rw [hh, if_neg (by simpa using h1)]⟩) 0 qa34
  exact ⟨r, he, hr.trans ⟨fun h => ⟨fun j hj => h.1 j qa34 hj, h.2⟩, fun h => ⟨fun j _ hj => h.1 j hj, h.2⟩⟩⟩
theorem spec_store_ok (cs : List (List S43)) (now : Int) (hx : ∀ x ∈ cs, x.length ≤ 1048576) : ∃ r, Ev (fun k => spec_StoreOK.f k cs now) r ∧ (r = true ↔ IsStore cs now) := by
  by_cases hl : cs.length = 16
  · by_cases hn : 0 ≤ now ∧ now ≤ 100000
    · obtain ⟨r, hr, he⟩ := count_loop 16 (fun k i => spec_StoreOK.l0 k i cs now) (fun i r => r = true ↔ ∀ i', i ≤ i' → i' < 16 → ∀ j, j < (cs.getD i' []).length → VerOK now i' (cs.getD i' []) j)
        ⟨true, ⟨fun _ i' h1 h2 => by omega, fun _ => rfl⟩, ev_now ⟨0, fun k _ => by simp only [spec_StoreOK.l0]; rw [if_neg qa34]⟩⟩
        (fun i hi R hR he => by
          have hm : (cs.getD i []) ∈ cs := by rw [List.getD_eq_getElem?_getD, List.getElem?_eq_getElem qa34]; exact List.getElem_mem qa34
          obtain ⟨r, he', hr⟩ := spec_chain cs now hl i hi (hx _ hm) R he; refine ⟨r, ?_, ev_step ⟨0, fun k _ => by simp only [spec_StoreOK.l0]; rw [if_pos qa34]⟩ he'⟩; rw [hr, hR]
          constructor
          · rintro ⟨h1, h2⟩ i' h3 h4
            rcases Nat.lt_or_eq_of_le h3 with h5 | rfl
            · exact h2 i' h5 h4
            · exact h1
          · intro h; exact ⟨h i (Nat.le_refl _) hi, fun i' h3 h4 => h i' qa34 h4⟩) 0 qa34
      refine ⟨r, ?_, hr.trans ⟨fun h => ⟨hl, hn.1, hn.2, fun i hi => h i qa34 hi⟩, fun h i _ hi => h.2.2.2 i hi⟩⟩; refine ev_step (f := fun k => spec_StoreOK.l0 k 0 cs now) ⟨0, fun k _ => ?_⟩ he
      unfold spec_StoreOK.f
      rw [if_pos qa34, spec_in]; simp only [Option.bind_some, decide_eq_true hn, Bool.not_true, spec_StoreOK.j0]; rw [if_neg qa120]
    · refine ⟨false, ev_now ⟨0, fun k _ => ?_⟩, ⟨fun h => (by cases h), fun h => absurd ⟨h.2.1, h.2.2.1⟩ hn⟩⟩
      unfold spec_StoreOK.f
      rw [if_pos qa34, spec_in]; simp only [Option.bind_some, decide_eq_false hn, Bool.not_false, spec_StoreOK.j0]
      exact if_pos trivial
  · refine ⟨false, ev_now ⟨0, fun k _ => ?_⟩, ⟨fun h => (by cases h), fun h => absurd h.1 hl⟩⟩
    unfold spec_StoreOK.f
    rw [if_neg qa34]; simp only [spec_StoreOK.j0]
    exact if_pos trivial
theorem impl_chain (cs : List (List S43)) (now : Int) (i : Nat) (hi : i < 16) (c : List S43) (hc : c = cs.getD i []) (hx : c.length ≤ 1048576) (R : Bool) (hR : Ev (fun k => impl_StoreOK.l0 k cs 16 ((i + 1 : Nat) : Int) cs now) R) :
    ∃ r, Ev (fun k => impl_StoreOK.l1 k i c cs 16 i c (c.length : Int) 0 cs now) r ∧ (r = true ↔ (∀ j, j < c.length → VerOK now i c j) ∧ R = true) := by
  obtain ⟨r, hr, he⟩ := count_loop c.length (fun k j => impl_StoreOK.l1 k i c cs 16 i c (c.length : Int) j cs now) (fun j r => r = true ↔ (∀ j', j ≤ j' → j' < c.length → VerOK now i c j') ∧ R = true)
    ⟨R, ⟨fun h => ⟨fun j' h1 h2 => by omega, h⟩, fun h => h.2⟩, ev_step ⟨0, fun k _ => by
      simp only [impl_StoreOK.l1]; rw [if_neg qa34, wsucc (n := 16) hi qa34]⟩ hR⟩
    (fun j hj r hr he => by
      have hv : rd_T43 c (j : Int) = c.getD j z43 := rfl
      have hw1 : 0 < j → rd_T43 c (wrap64 ((j : Int) - 1)) = c.getD (j - 1) z43 := fun h0 => by
        have : wrap64 ((j : Int) - 1) = ((j - 1 : Nat) : Int) := by unfold wrap64; omega
        rw [this]; rfl
      have hw2 : 0 < j → 0 ≤ wrap64 ((j : Int) - 1) ∧ wrap64 ((j : Int) - 1) < (c.length : Int) := fun h0 => by
        have : wrap64 ((j : Int) - 1) = ((j - 1 : Nat) : Int) := by unfold wrap64; omega
        rw [this]; omega
      have no : ¬ VerOK now i c j → (∃ K, ∀ k, K ≤ k → impl_StoreOK.l1 (k + 1) i c cs 16 i c (c.length : Int) j cs now = some false) → ∃ r', (r' = true ↔ (∀ j', j ≤ j' → j' < c.length → VerOK now i c j') ∧ R = true) ∧ Ev (fun k => impl_StoreOK.l1 k i c cs 16 i c (c.length : Int) j cs now) r' :=
        fun hn hk => ⟨false, ⟨fun h => (by cases h), fun h => absurd (h.1 j (Nat.le_refl _) hj) hn⟩, ev_now hk⟩
      have yes : VerOK now i c j → (∃ K, ∀ k, K ≤ k → impl_StoreOK.l1 (k + 1) i c cs 16 i c (c.length : Int) j cs now = impl_StoreOK.l1 k i c cs 16 i c (c.length : Int) ((j + 1 : Nat) : Int) cs now) → ∃ r', (r' = true ↔ (∀ j', j ≤ j' → j' < c.length → VerOK now i c j') ∧ R = true) ∧ Ev (fun k => impl_StoreOK.l1 k i c cs 16 i c (c.length : Int) j cs now) r' :=
        fun hn hk => ⟨r, hr.trans ⟨fun h => ⟨fun j' h1 h2 => by
          rcases Nat.lt_or_eq_of_le h1 with h3 | rfl
          · exact h.1 j' h3 h2
          · exact hn, h.2⟩, fun h => ⟨fun j' h1 h2 => h.1 j' qa34 h2, h.2⟩⟩, ev_step hk he⟩
      have hh : ∀ k, impl_StoreOK.l1 (k + 1) i c cs 16 i c (c.length : Int) j cs now = if (decide (1 ≤ (c.getD j z43).f0 ∧ (c.getD j z43).f0 ≤ now)) = true then (if (j : Int) > 0 then (if (c.getD (j - 1) z43).f0 ≥ (c.getD j z43).f0 then some false else (if fitsB i (c.getD j z43).f1 = true then impl_StoreOK.l1 k i c cs 16 i c (c.length : Int) ((j + 1 : Nat) : Int) cs now else some false)) else (if fitsB i (c.getD j z43).f1 = true then impl_StoreOK.l1 k i c cs 16 i c (c.length : Int) ((j + 1 : Nat) : Int) cs now else some false)) else some false := by
        intro k
        conv => lhs; simp only [impl_StoreOK.l1]
        rw [if_pos qa34, if_pos qa34, if_pos qa34, impl_in, impl_fits, hv]; simp only [Option.bind_some, wsucc hj qa34]
        by_cases h0 : 0 < j
        · rw [hw1 h0, if_pos (hw2 h0).1, if_pos (hw2 h0).2]
        · simp only [if_neg (show ¬ ((j : Int) > 0) by omega)]
      by_cases h1 : 1 ≤ (c.getD j z43).f0 ∧ (c.getD j z43).f0 ≤ now
      · by_cases h2 : fitsB i (c.getD j z43).f1 = true
        · by_cases h3 : 0 < j
          · by_cases h4 : (c.getD (j - 1) z43).f0 ≥ (c.getD j z43).f0
            · exact no (fun h => absurd (h.2.2.2 h3) qa34) ⟨0, fun k _ => by rw [hh, if_pos (decide_eq_true h1), if_pos qa34, if_pos h4]⟩
            · exact yes ⟨h1.1, h1.2, h2, fun _ => by omega⟩ ⟨0, fun k _ => by rw [hh, if_pos (decide_eq_true h1), if_pos qa34, if_neg h4, if_pos h2]⟩
          · exact yes ⟨h1.1, h1.2, h2, fun h => absurd h h3⟩ ⟨0, fun k _ => by rw [hh, if_pos (decide_eq_true h1), if_neg qa34, if_pos h2]⟩
        · refine no (fun h => h2 h.2.2.1) ⟨0, fun k _ => ?_⟩
          rw [hh, if_pos (decide_eq_true h1)]; simp only [if_neg h2]
          repeat' split
          all_goals rfl
      · exact no (fun h => h1 ⟨h.1, h.2.1⟩) ⟨0, fun k _ => by rw [hh, if_neg (by simpa using h1)]⟩) 0 qa34
  exact ⟨r, he, hr.trans ⟨fun h => ⟨fun j hj => h.1 j qa34 hj, h.2⟩, fun h => ⟨fun j _ hj => h.1 j hj, h.2⟩⟩⟩
theorem impl_store_ok (cs : List (List S43)) (now : Int) (hx : ∀ x ∈ cs, x.length ≤ 1048576) : ∃ r, Ev (fun k => impl_StoreOK.f k cs now) r ∧ (r = true ↔ IsStore cs now) := by
  by_cases hl : cs.length = 16
  · by_cases hn : 0 ≤ now ∧ now ≤ 100000
    · obtain ⟨r, hr, he⟩ := count_loop 16 (fun k i => impl_StoreOK.l0 k cs 16 i cs now) (fun i r => r = true ↔ ∀ i', i ≤ i' → i' < 16 → ∀ j, j < (cs.getD i' []).length → VerOK now i' (cs.getD i' []) j)
        ⟨true, ⟨fun _ i' h1 h2 => by omega, fun _ => rfl⟩, ev_now ⟨0, fun k _ => by simp only [impl_StoreOK.l0]; rw [if_neg qa34]⟩⟩
        (fun i hi R hR he => by
          have hm : (cs.getD i []) ∈ cs := by rw [List.getD_eq_getElem?_getD, List.getElem?_eq_getElem qa34]; exact List.getElem_mem qa34
          obtain ⟨r, he', hr⟩ := impl_chain cs now i hi (cs.getD i []) rfl (hx _ hm) R he; refine ⟨r, ?_, ev_step ⟨0, fun k _ => by simp only [impl_StoreOK.l0]; rw [if_pos qa34, if_pos qa34, if_pos qa34]; rfl⟩ he'⟩; rw [hr, hR]
          constructor
          · rintro ⟨h1, h2⟩ i' h3 h4
            rcases Nat.lt_or_eq_of_le h3 with h5 | rfl
            · exact h2 i' h5 h4
            · exact h1
          · intro h; exact ⟨h i (Nat.le_refl _) hi, fun i' h3 h4 => h i' qa34 h4⟩) 0 qa34
      refine ⟨r, ?_, hr.trans ⟨fun h => ⟨hl, hn.1, hn.2, fun i hi => h i qa34 hi⟩, fun h i _ hi => h.2.2.2 i hi⟩⟩; refine ev_step (f := fun k => impl_StoreOK.l0 k cs 16 0 cs now) ⟨0, fun k _ => ?_⟩ he
      unfold impl_StoreOK.f
      rw [if_pos qa34, impl_in]; simp only [Option.bind_some, decide_eq_true hn, Bool.not_true, impl_StoreOK.j0]; rw [if_neg qa120, hl]
      rfl
    · refine ⟨false, ev_now ⟨0, fun k _ => ?_⟩, ⟨fun h => (by cases h), fun h => absurd ⟨h.2.1, h.2.2.1⟩ hn⟩⟩
      unfold impl_StoreOK.f
      rw [if_pos qa34, impl_in]; simp only [Option.bind_some, decide_eq_false hn, Bool.not_false, impl_StoreOK.j0]
      exact if_pos trivial
  · refine ⟨false, ev_now ⟨0, fun k _ => ?_⟩, ⟨fun h => (by cases h), fun h => absurd h.1 hl⟩⟩
    unfold impl_StoreOK.f
    rw [if_neg qa34]; simp only [impl_StoreOK.j0]
    exact if_pos trivial
/-- Both say the same of a store. -/
theorem stores_agree (cs : List (List S43)) (now : Int) (hx : ∀ x ∈ cs, x.length ≤ 1048576) : ∃ r, Ev (fun k => spec_StoreOK.f k cs now) r ∧ Ev (fun k => impl_StoreOK.f k cs now) r ∧ (r = true ↔ IsStore cs now) := by
  obtain ⟨r, e, hr⟩ := spec_store_ok cs now hx; obtain ⟨r', e', hr'⟩ := impl_store_ok cs now hx; have : r' = r := by rw [Bool.eq_iff_iff, hr, hr']
  subst this
  exact ⟨r', e, e', hr⟩
end Go.Proofs.Ytfiboooflebdpaa.Pure2
namespace Go.Proofs.Ytfiboooflebdpaa.Pure2
open Go.RowKit Go.Proofs.Ytfiboooflebdpaa.Q Go.Proofs.YtfiboooflebdpaaW.PrintWords Go.Proofs.YtfiboooflebdpaaW.PrintLast
set_option linter.unusedVariables false
set_option linter.unusedSimpArgs false
/-! a store's copy -/
theorem clone_row (c : List S43) (h : c.length ≤ 1048576) : impl_Version.f c = some c := by
  unfold impl_Version.f
  rw [if_pos qa34]
theorem row_mem (cs : List (List S43)) (j : Nat) (h : j < cs.length) : cs.getD j [] ∈ cs := by rw [List.getD_eq_getElem?_getD, List.getElem?_eq_getElem h]; exact List.getElem_mem h
theorem take_next (cs : List (List S43)) (j : Nat) (h : j < cs.length) : cs.take (j + 1) = cs.take j ++ [cs.getD j []] := by
  rw [List.take_add_one, List.getElem?_eq_getElem h, List.getD_eq_getElem?_getD, List.getElem?_eq_getElem h]; rfl
theorem impl_copy (cs : List (List S43)) (now : Int) (hl : cs.length ≤ 1048576) (hx : ∀ x ∈ cs, x.length ≤ 1048576) : Ev (fun k => impl_copyStore.f k cs now) (cs, now) := by
  obtain ⟨r, hr, he⟩ := state_loop cs.length (fun k (s : List (List S43)) i => impl_copyStore.l0 k cs (cs.length : Int) i s now) (fun j s => s = cs.take j) (fun _ _ r => r = (cs, now))
    (fun s hi => ⟨(cs, now), rfl, ev_now ⟨0, fun k _ => by simp only [impl_copyStore.l0]; rw [if_neg qa34, hi, List.take_length]⟩⟩)
    (fun j s hj hi => by
      have hn : s.length = j := by rw [hi, List.length_take]; omega
      refine .inr ⟨cs.take (j + 1), rfl, fun r h => h, 0, fun k _ => ?_⟩; have e : impl_Version.f (rd_L4 cs (j : Int)) = some (cs.getD j []) := clone_row _ (hx _ (row_mem cs j hj)); simp only [impl_copyStore.l0]; rw [if_pos qa34, if_pos qa34, if_pos qa34, e]; simp only [Option.bind_some]; rw [if_pos qa34, wsucc hj qa34, take_next cs j hj, hi]) 0 [] qa34 rfl
  subst hr
  exact ev_same ⟨0, fun k _ => by unfold impl_copyStore.f; rfl⟩ he
theorem spec_own (cs : List (List S43)) (now : Int) (hl : cs.length ≤ 1048576) (hx : ∀ x ∈ cs, x.length ≤ 1048576) : Ev (fun k => spec_l06Own.f k cs now) (cs, now) := by
  obtain ⟨r, hr, he⟩ := state_loop cs.length (fun k (s : List (List S43)) i => spec_l06Own.l0 k i cs now s now) (fun j s => s = cs.take j) (fun _ _ r => r = (cs, now))
    (fun s hi => ⟨(cs, now), rfl, ev_now ⟨0, fun k _ => by simp only [spec_l06Own.l0]; rw [if_neg qa34, hi, List.take_length]⟩⟩)
    (fun j s hj hi => by
      have hn : s.length = j := by rw [hi, List.length_take]; omega
      refine .inr ⟨cs.take (j + 1), rfl, fun r h => h, 0, fun k _ => ?_⟩; have hd : rd_L4 cs (j : Int) = cs.getD j [] := rfl; have hc := hx _ (row_mem cs j hj); simp only [spec_l06Own.l0, Option.bind_some]; rw [if_pos qa34, if_pos qa34, hd, List.length_nil, if_pos qa34, if_pos qa34, wsucc hj qa34, take_next cs j hj, hi, List.nil_append]) 0 [] qa34 rfl
  subst hr
  exact ev_same ⟨0, fun k _ => by unfold spec_l06Own.f; rfl⟩ he
/-! what is forgotten -/
def gone (c : List S43) (low : Int) (g : Nat) : Nat := if h : g + 1 < c.length ∧ (c.getD (g + 1) z43).f0 ≤ low then gone c low (g + 1) else g
termination_by c.length - g
theorem gone_step (c : List S43) (low : Int) (g : Nat) (h : g + 1 < c.length ∧ (c.getD (g + 1) z43).f0 ≤ low) : gone c low g = gone c low (g + 1) := by
  rw [gone]; exact dif_pos h
theorem gone_stop (c : List S43) (low : Int) (g : Nat) (h : ¬ (g + 1 < c.length ∧ (c.getD (g + 1) z43).f0 ≤ low)) : gone c low g = g := by
  rw [gone]; exact dif_neg h
theorem gone_le (c : List S43) (low : Int) : ∀ (m g : Nat), c.length - g = m → g ≤ c.length → g ≤ gone c low g ∧ gone c low g ≤ c.length := by
  intro m
  induction m with
  | zero => intro g hm hg; rw [gone_stop c low g qa34]; omega
  | succ m ih =>
    intro g hm hg
    by_cases h : g + 1 < c.length ∧ (c.getD (g + 1) z43).f0 ≤ low
    · rw [gone_step c low g h]
      have := ih (g + 1) qa34 qa34
      omega
    · rw [gone_stop c low g h]; omega
def fgt (low : Int) (c : List S43) : List S43 := c.drop (gone c low 0)
theorem fgt_len (low : Int) (c : List S43) : (fgt low c).length ≤ c.length := by unfold fgt; rw [List.length_drop]; omega
def tot (cs : List (List S43)) (low : Int) (j : Nat) : Nat := ((cs.take j).map (fun c => gone c low 0)).sum
theorem tot_next (cs : List (List S43)) (low : Int) (j : Nat) (h : j < cs.length) : tot cs low (j + 1) = tot cs low j + gone (cs.getD j []) low 0 := by
  unfold tot
  rw [take_next cs j h]
  simp
theorem tot_le (cs : List (List S43)) (low : Int) (hx : ∀ x ∈ cs, x.length ≤ 1048576) : ∀ j, j ≤ cs.length → tot cs low j ≤ 1048576 * j := by
  intro j
  induction j with
  | zero => intro _; simp [tot]
  | succ j ih =>
    intro h; have := ih qa34; have := hx _ (row_mem cs j qa34); have := (gone_le (cs.getD j []) low _ 0 rfl qa34).2; rw [tot_next cs low j qa34]
    omega
theorem spec_inner (cs : List (List S43)) (now low : Int) (c : List S43) (hc : c.length ≤ 1048576) (j : Nat) (hj : j < 16) (n : Nat) (hn : n ≤ 33554432) (ys : List (List S43)) (hy : ys.length ≤ 16) (r : List (List S43) × Int × Int) : ∀ (m g : Nat), c.length - g = m → g ≤ c.length →
    Ev (fun k => spec_l06Forget.l0 k low ((n + gone c low g : Nat) : Int) ((j + 1 : Nat) : Int) cs now (ys ++ [c.drop (gone c low g)]) now) r → Ev (fun k => spec_l06Forget.l1 k low (n : Int) (j : Int) c (g : Int) cs now ys now) r := by
  intro m
  induction m with
  | zero =>
    intro g hm hg h; rw [gone_stop c low g qa34] at h; have hw : wrap64 ((g : Int) + 1) = ((g + 1 : Nat) : Int) := by unfold wrap64; omega
    have hw2 : wrap64 ((n : Int) + (g : Int)) = ((n + g : Nat) : Int) := by unfold wrap64; omega
    refine ev_step ⟨0, fun k _ => ?_⟩ h; simp only [spec_l06Forget.l1, Option.bind_some, List.nil_append, List.length_nil, Nat.zero_add, List.length_drop, Int.toNat_natCast]; rw [hw, if_neg qa34, if_pos qa34, if_pos qa34, if_pos qa34, if_pos qa34, hw2, wsucc (n := 16) hj qa34]
  | succ m ih =>
    intro g hm hg h; have hw : wrap64 ((g : Int) + 1) = ((g + 1 : Nat) : Int) := by unfold wrap64; omega
    have hw2 : wrap64 ((n : Int) + (g : Int)) = ((n + g : Nat) : Int) := by unfold wrap64; omega
    have hd : rd_T43 c ((g + 1 : Nat) : Int) = c.getD (g + 1) z43 := rfl
    by_cases h1 : g + 1 < c.length
    · by_cases h2 : (c.getD (g + 1) z43).f0 ≤ low
      · rw [gone_step c low g ⟨h1, h2⟩] at h
        refine ev_step ⟨0, fun k _ => ?_⟩ (ih (g + 1) qa34 qa34 h)
        conv => lhs; simp only [spec_l06Forget.l1]
        rw [hw, if_pos qa34, if_pos qa34, hd, if_pos h2]
      · rw [gone_stop c low g (fun h3 => h2 h3.2)] at h
        refine ev_step ⟨0, fun k _ => ?_⟩ h; simp only [spec_l06Forget.l1, Option.bind_some, List.nil_append, List.length_nil, Nat.zero_add, List.length_drop, Int.toNat_natCast]; rw [hw, if_pos qa34, if_pos qa34, hd, if_neg h2, if_pos qa34, if_pos qa34, if_pos qa34, if_pos qa34, hw2, wsucc (n := 16) hj qa34]
    · rw [gone_stop c low g (fun h3 => h1 h3.1)] at h
      refine ev_step ⟨0, fun k _ => ?_⟩ h; simp only [spec_l06Forget.l1, Option.bind_some, List.nil_append, List.length_nil, Nat.zero_add, List.length_drop, Int.toNat_natCast]; rw [hw, if_neg qa34, if_pos qa34, if_pos qa34, if_pos qa34, if_pos qa34, hw2, wsucc (n := 16) hj qa34]
theorem spec_forget (cs : List (List S43)) (now low : Int) (hl : cs.length = 16) (hx : ∀ x ∈ cs, x.length ≤ 1048576) : Ev (fun k => spec_l06Forget.f k cs now low) (cs.map (fgt low), now, (tot cs low 16 : Int)) := by
  have key : ∀ d j, j ≤ 16 → 16 - j = d → Ev (fun k => spec_l06Forget.l0 k low (tot cs low j : Int) (j : Int) cs now ((cs.take j).map (fgt low)) now) (cs.map (fgt low), now, (tot cs low 16 : Int)) := by
    intro d
    induction d with
    | zero =>
      intro j hj hd; obtain rfl : j = 16 := by omega
      exact ev_now ⟨0, fun k _ => by simp only [spec_l06Forget.l0]; rw [if_neg qa34, List.take_of_length_le qa34]⟩
    | succ d ih =>
      intro j hj hd; have h := ih (j + 1) qa34 qa34; have ht := tot_le cs low hx j qa34; have hc := hx _ (row_mem cs j qa34); have hr : rd_L4 cs (j : Int) = cs.getD j [] := rfl; rw [tot_next cs low j qa34, take_next cs j qa34, List.map_append] at h; refine ev_step ⟨0, fun k _ => ?_⟩ (spec_inner cs now low (cs.getD j []) hc j qa34 (tot cs low j) qa34 ((cs.take j).map (fgt low)) (by rw [List.length_map, List.length_take]; omega) _ _ 0 rfl qa34 h)
      conv => lhs; simp only [spec_l06Forget.l0]
      rw [if_pos qa34, if_pos qa34, if_pos qa34, hr]
      rfl
  have h := key 16 0 qa34 qa34
  exact ev_same ⟨0, fun k _ => by unfold spec_l06Forget.f; rfl⟩ h
end Go.Proofs.Ytfiboooflebdpaa.Pure2
namespace Go.Proofs.Ytfiboooflebdpaa.Q
open Go.RowKit Go.Proofs.YtfiboooflebdpaaW.PrintWords Go.Proofs.YtfiboooflebdpaaW.PrintLast Go.Proofs.YtfiboooflebdpaaW.PrintMore
attribute [local go_sem] max2_int min2_int max_two min_two max_three min_three max_four min_four
set_option linter.unusedVariables false
set_option linter.unusedSimpArgs false

def spec_l06Read.l0 : Nat → Int → Int → Int → Int → List (List (S43)) → Int → Option (Int)
 | 0, _, _, _, _, _, _ => none
 | k + 1, x1, x2, x7, x8, x102000, x102001 => if 0 ≤ x1 then (if x1 < (x102000.length : Int) then (if x8 < ((rd_L4 x102000 x1).length : Int) then (if 0 ≤ x8 then (if ((rd_T43 (rd_L4 x102000 x1) x8).f0) ≤ x2 then (spec_l06Read.l0 k x1 x2 ((rd_T43 (rd_L4 x102000 x1) x8).f1) (wrap64 (x8 + 1)) x102000 x102001) else (spec_l06Read.l0 k x1 x2 x7 (wrap64 (x8 + 1)) x102000 x102001)) else (none)) else (some x7)) else (none)) else (none)
def spec_l06Read.f (k : Nat) (l0_0 : List (List (S43))) (a0_1 : Int) (a1 : Int) (a2 : Int) : Option (Int) := spec_l06Read.l0 k a1 a2 0 0 l0_0 a0_1
set_option maxHeartbeats 8000000 in
set_option maxRecDepth 100000 in
theorem spec_l06Read.calls (k : Nat) (A0_0 : Option Addr) (c0_0 : Nat) (l0_0 : List (List (S43))) (a0_1 : Int) (a1 : Int) (a2 : Int) (r : Int) (w : World) (hr0_0 : Kd.C (Kd.slice 43 k43) w A0_0 l0_0.length l0_0) (hc0_0 : l0_0.length ≤ c0_0) (h : spec_l06Read.f k l0_0 a0_1 a1 a2 = some r) :
  Calls Try.prog 126 #[.agg #[.slice A0_0 l0_0.length c0_0, .int .i64 a0_1], .int .i64 a1, .int .i64 a2] w fun e w' => e = .returned (.int .i64 r) ∧ Below w.heap.size w w' := by
 have hu28 := Try.underlying28; have HR0_0 := qO hr0_0; have HC0_0 := qO hc0_0; clear hr0_0 hc0_0; have HB := qO (Below.refl w.heap.size w); have H : (spec_l06Read.l0 k a1 a2 0 0 l0_0 a0_1) = some r := h; clear h; have H' := qO H; clear H
 go_enter Try.func126, Try.ntmps126
 go_wp2_with (first | ((with_reducible refine gate_dst (N := 3) rfl ?_); refine qX 3 #[.slice A0_0 l0_0.length c0_0, .int .i64 a0_1] 28 ?_; intro gb101 hg w4 hbox hb; have hx_ := qHX HB hb qa1; have BK101 := qO (hbox); have GW101 := qO ((qa17 : w.heap.size ≤ gb101)); have GE101 := GW101; replace HB := qO (below_step (below_step HB.out hx_) hb); clear hx_ hb hbox hg))
 go_loopg [7, 8] k (fun kq v7 v8 w' => ∃ (x7_1 : Int) (x8_1 : Int), v7 = .int .i64 x7_1 ∧ v8 = .int .i64 x8_1 ∧ Aside0 (spec_l06Read.l0 kq a1 a2 x7_1 x8_1 l0_0 a0_1 = some r) ∧ Aside0 (kq ≤ k) ∧ Aside0 (w'.heap[gb101]? = some (.cells #[(.slice A0_0 l0_0.length c0_0), .int .i64 a0_1] 28 (0, 0))) ∧ Aside0 (Below w.heap.size w w'))
 case atStart => exact ⟨(0), (0), qa18, qa18, H', ⟨Nat.le_refl _⟩, ⟨qa4⟩, ⟨qa5⟩⟩
 case round =>
  clear H'
  try clear c1
  try clear p2
  obtain ⟨x7_1, x8_1, rfl, rfl, HA, HK1, BK101, HB⟩ := hrel
  cases gk with
  | zero => exact absurd HA.out (by simp [spec_l06Read.l0])
  | succ k1 =>
   have H := HA.out; clear HA; simp only [spec_l06Read.l0] at H
   by_cases c5 : 0 ≤ a1
   ·rw [if_pos c5] at H
    have c5b0 : decide (0 ≤ a1) = true := decide_eq_true c5; clear c5
    by_cases c6 : a1 < (l0_0.length : Int)
    ·rw [if_pos c6] at H
     have c6b0 : decide (a1 < (l0_0.length : Int)) = true := decide_eq_true c6; clear c6
     by_cases c7 : x8_1 < ((rd_L4 l0_0 a1).length : Int)
     ·rw [if_pos c7] at H
      have c7b0 : decide (x8_1 < ((rd_L4 l0_0 a1).length : Int)) = true := decide_eq_true c7; clear c7
      by_cases c8 : 0 ≤ x8_1
      ·rw [if_pos c8] at H
       have c8b0 : decide (0 ≤ x8_1) = true := decide_eq_true c8; clear c8
       by_cases c9 : ((rd_T43 (rd_L4 l0_0 a1) x8_1).f0) ≤ a2
       ·rw [if_pos c9] at H
        have c9b0 : decide (((rd_T43 (rd_L4 l0_0 a1) x8_1).f0) ≤ a2) = true := decide_eq_true c9; clear c9; have H' := qO H; clear H; obtain ⟨hcz10_0, hcz10_1, hfz10_0, hfz10_1⟩ := qb2 BK101.out; have p102 : 0 ≤ (a1 : Int) := qT qa2; have q102 : a1 < (l0_0.length : Int) := qT qa2; obtain ⟨ad102, A102_0, c102_0, e102, hx102_0, hl102_0, hi102_0⟩ := at_L4 HR0_0.out a1 p102 q102
        cases e102
        replace hx102_0 := (HB.out.cell (qL w _ hx102_0)).trans hx102_0; have HR102_0 := qO hi102_0; have HC102_0 := qO hl102_0; clear hi102_0 hl102_0; replace p102 := eq_true p102; replace q102 := eq_true q102; have p103 : 0 ≤ (a1 : Int) := qT qa2; have q103 : a1 < (l0_0.length : Int) := qT qa2; obtain ⟨ad103, A103_0, c103_0, e103, hx103_0, hl103_0, hi103_0⟩ := at_L4 HR0_0.out a1 p103 q103; obtain rfl : ad102 = ad103 := qa215; replace hx103_0 := (HB.out.cell (qL w _ hx103_0)).trans hx103_0; have HR103_0 := qO hi103_0; have HC103_0 := qO hl103_0; clear hi103_0 hl103_0; replace p103 := eq_true p103; replace q103 := eq_true q103; have ea_ := Option.some.inj (hx102_0.symm.trans hx103_0); injection ea_ with ea_ en_ ec_; subst ea_; subst ec_; clear en_; have p104 : 0 ≤ (x8_1 : Int) := qT qa2; have q104 : x8_1 < ((rd_L4 l0_0 a1).length : Int) := qT qa2; obtain ⟨ad104, e104, hx104_0, hx104_1⟩ := at_T43 HR103_0.out x8_1 p104 q104
        cases e104
        replace hx104_0 := (HB.out.cell (qL w _ hx104_0)).trans hx104_0; replace hx104_1 := (HB.out.cell (qL w _ hx104_1)).trans hx104_1; replace p104 := eq_true p104; replace q104 := eq_true q104; have p105 : 0 ≤ (a1 : Int) := qT qa2; have q105 : a1 < (l0_0.length : Int) := qT qa2; obtain ⟨ad105, A105_0, c105_0, e105, hx105_0, hl105_0, hi105_0⟩ := at_L4 HR0_0.out a1 p105 q105; obtain rfl : ad102 = ad105 := (by injection e105); replace hx105_0 := (HB.out.cell (qL w _ hx105_0)).trans hx105_0; have HR105_0 := qO hi105_0; have HC105_0 := qO hl105_0; clear hi105_0 hl105_0; replace p105 := eq_true p105; replace q105 := eq_true q105; have ea_ := Option.some.inj (hx102_0.symm.trans hx105_0); injection ea_ with ea_ en_ ec_; subst ea_; subst ec_; clear en_; have p106 : 0 ≤ (x8_1 : Int) := qT qa2; have q106 : x8_1 < ((rd_L4 l0_0 a1).length : Int) := qT qa2; obtain ⟨ad106, e106, hx106_0, hx106_1⟩ := at_T43 HR105_0.out x8_1 p106 q106
        cases e106
        replace hx106_0 := (HB.out.cell (qL w _ hx106_0)).trans hx106_0; replace hx106_1 := (HB.out.cell (qL w _ hx106_1)).trans hx106_1; replace p106 := eq_true p106; replace q106 := eq_true q106; go_wp2
        go_roundg k1
        case measure => have := HK1.out; omega
        case rel => exact ⟨((rd_T43 (rd_L4 l0_0 a1) x8_1).f1), (wrap64 (x8_1 + 1)), qa18, qa18, H', ⟨qa164⟩, ⟨qa4⟩, ⟨qa5⟩⟩
       ·rw [if_neg c9] at H
        have c9b0 : decide (((rd_T43 (rd_L4 l0_0 a1) x8_1).f0) ≤ a2) = false := decide_eq_false c9; clear c9; have H' := qO H; clear H; obtain ⟨hcz11_0, hcz11_1, hfz11_0, hfz11_1⟩ := qb2 BK101.out; have p102 : 0 ≤ (a1 : Int) := qT qa2; have q102 : a1 < (l0_0.length : Int) := qT qa2; obtain ⟨ad102, A102_0, c102_0, e102, hx102_0, hl102_0, hi102_0⟩ := at_L4 HR0_0.out a1 p102 q102
        cases e102
        replace hx102_0 := (HB.out.cell (qL w _ hx102_0)).trans hx102_0; have HR102_0 := qO hi102_0; have HC102_0 := qO hl102_0; clear hi102_0 hl102_0; replace p102 := eq_true p102; replace q102 := eq_true q102; have p103 : 0 ≤ (a1 : Int) := qT qa2; have q103 : a1 < (l0_0.length : Int) := qT qa2; obtain ⟨ad103, A103_0, c103_0, e103, hx103_0, hl103_0, hi103_0⟩ := at_L4 HR0_0.out a1 p103 q103; obtain rfl : ad102 = ad103 := qa215; replace hx103_0 := (HB.out.cell (qL w _ hx103_0)).trans hx103_0; have HR103_0 := qO hi103_0; have HC103_0 := qO hl103_0; clear hi103_0 hl103_0; replace p103 := eq_true p103; replace q103 := eq_true q103; have ea_ := Option.some.inj (hx102_0.symm.trans hx103_0); injection ea_ with ea_ en_ ec_; subst ea_; subst ec_; clear en_; have p104 : 0 ≤ (x8_1 : Int) := qT qa2; have q104 : x8_1 < ((rd_L4 l0_0 a1).length : Int) := qT qa2; obtain ⟨ad104, e104, hx104_0, hx104_1⟩ := at_T43 HR103_0.out x8_1 p104 q104
        cases e104
        replace hx104_0 := (HB.out.cell (qL w _ hx104_0)).trans hx104_0; replace hx104_1 := (HB.out.cell (qL w _ hx104_1)).trans hx104_1; replace p104 := eq_true p104; replace q104 := eq_true q104; go_wp2
        go_roundg k1
        case measure => have := HK1.out; omega
        case rel => exact ⟨(x7_1), (wrap64 (x8_1 + 1)), qa18, qa18, H', ⟨qa164⟩, ⟨qa4⟩, ⟨qa5⟩⟩
      ·rw [if_neg c8] at H
       exact absurd H qa120
     ·rw [if_neg c7] at H
      have c7b0 : decide (x8_1 < ((rd_L4 l0_0 a1).length : Int)) = false := decide_eq_false c7; clear c7; obtain rfl := Option.some.inj H; obtain ⟨hcz12_0, hcz12_1, hfz12_0, hfz12_1⟩ := qb2 BK101.out; have p102 : 0 ≤ (a1 : Int) := qT qa2; have q102 : a1 < (l0_0.length : Int) := qT qa2; obtain ⟨ad102, A102_0, c102_0, e102, hx102_0, hl102_0, hi102_0⟩ := at_L4 HR0_0.out a1 p102 q102
      cases e102
      replace hx102_0 := (HB.out.cell (qL w _ hx102_0)).trans hx102_0; have HR102_0 := qO hi102_0; have HC102_0 := qO hl102_0; clear hi102_0 hl102_0; replace p102 := eq_true p102; replace q102 := eq_true q102; go_wp2
      go_ret
      exact ⟨qa9, qa5⟩
    ·rw [if_neg c6] at H
     exact absurd H qa120
   ·rw [if_neg c5] at H
    exact absurd H qa120

end Go.Proofs.Ytfiboooflebdpaa.Q
namespace Go.Proofs.Ytfiboooflebdpaa.Pure2
open Go.RowKit Go.Proofs.Ytfiboooflebdpaa.Q Go.Proofs.YtfiboooflebdpaaW.PrintWords Go.Proofs.YtfiboooflebdpaaW.PrintLast
set_option linter.unusedVariables false
set_option linter.unusedSimpArgs false
/-! what a chain tells at an hour -/
def lastVal (c : List S43) (ts : Int) : Nat → Int
  | 0 => 0
  | j + 1 => if (c.getD j z43).f0 ≤ ts then (c.getD j z43).f1 else lastVal c ts j
theorem back_val (c : List S43) (ts : Int) : ∀ (m : Nat) (h : Nat → Int), (match ((List.range m).map (fun k => (h k, c.getD (m - 1 - k) z43))).find? (fun p => decide (p.2.f0 ≤ ts)) with | some p => p.2.f1 | none => 0) = lastVal c ts m := by
  intro m
  induction m with
  | zero => intro h; rfl
  | succ m ih =>
    intro h
    have e : (List.range (m + 1)).map (fun k => (h k, c.getD (m + 1 - 1 - k) z43)) = (h 0, c.getD m z43) :: (List.range m).map (fun k => ((fun k => h (k + 1)) k, c.getD (m - 1 - k) z43)) := by
      rw [List.range_succ_eq_map, List.map_cons, List.map_map]
      congr 1
      refine List.map_congr_left fun k _ => ?_
      show (h (k + 1), c.getD (m + 1 - 1 - (k + 1)) z43) = _
      rw [show m + 1 - 1 - (k + 1) = m - 1 - k by omega]
    rw [e, List.find?_cons]
    unfold lastVal
    by_cases hc : (c.getD m z43).f0 ≤ ts
    · simp only [hc, decide_true, if_true]
    · simp only [hc, decide_false, if_false]
      exact ih _
theorem val_last (c : List S43) (ts : Int) : bw.val c ts = lastVal c ts c.length := back_val c ts c.length (fun k => ((c.length - 1 - k : Nat) : Int))
theorem read_agree (cs : List (List S43)) (now key ts : Int) (hl : cs.length = 16) (h0 : 0 ≤ key) (h1 : key ≤ 15) (hx : ∀ x ∈ cs, x.length ≤ 1048576) :
    Ev (fun k => spec_l06Read.f k cs now key ts) (bw.val (rd_L4 cs key) ts) ∧ impl_Store_readAt.f cs now key ts = some (bw.val (rd_L4 cs key) ts) := by
  refine ⟨?_, by unfold impl_Store_readAt.f; rw [if_pos h0, if_pos (by omega)]⟩
  have hc : (rd_L4 cs key).length ≤ 1048576 := by
    refine hx _ ?_
    show cs.getD key.toNat [] ∈ cs
    rw [List.getD_eq_getElem?_getD, List.getElem?_eq_getElem qa34]
    exact List.getElem_mem qa34
  rw [val_last]
  obtain ⟨r, hr, he⟩ := state_loop (rd_L4 cs key).length (fun k (v : Int) i => spec_l06Read.l0 k key ts v i cs now) (fun j v => v = lastVal (rd_L4 cs key) ts j) (fun _ _ r => r = lastVal (rd_L4 cs key) ts (rd_L4 cs key).length)
    (fun v hi => ⟨v, hi, ev_now ⟨0, fun k _ => by simp only [spec_l06Read.l0]; rw [if_pos h0, if_pos qa34, if_neg qa34]⟩⟩)
    (fun j v hj hi => by
      have hd : rd_T43 (rd_L4 cs key) (j : Int) = (rd_L4 cs key).getD j z43 := rfl; refine .inr ⟨lastVal (rd_L4 cs key) ts (j + 1), rfl, fun r h => h, 0, fun k _ => ?_⟩; simp only [spec_l06Read.l0]; rw [if_pos h0, if_pos qa34, if_pos qa34, if_pos qa34, hd, wsucc hj qa34]
      unfold lastVal
      by_cases hcmp : ((rd_L4 cs key).getD j z43).f0 ≤ ts
      · rw [if_pos hcmp, if_pos hcmp]
      · rw [if_neg hcmp, if_neg hcmp, hi]) 0 0 qa34 rfl
  subst hr
  exact ev_same ⟨0, fun k _ => by unfold spec_l06Read.f; rfl⟩ he
/-! chains that are right: their hours rise; what they tell at an hour -/
theorem getD_at {α : Type} (c : List α) (z : α) (j : Nat) (hj : j < c.length) : c.getD j z = c[j] := by rw [List.getD_eq_getElem?_getD, List.getElem?_eq_getElem hj]; rfl
def Rw (now : Int) (key : Nat) (c : List S43) : Prop := c.Pairwise (fun a b => a.f0 < b.f0) ∧ ∀ v ∈ c, 1 ≤ v.f0 ∧ v.f0 ≤ now ∧ fitsB key v.f1 = true
theorem rw_of (now : Int) (key : Nat) (c : List S43) (h : ∀ j, j < c.length → VerOK now key c j) : Rw now key c := by
  have up : ∀ j, ∀ i, i < j → j < c.length → (c.getD i z43).f0 < (c.getD j z43).f0 := by
    intro j
    induction j with
    | zero => intro i hi; omega
    | succ j ih =>
      intro i hi hj; have h1 := (h (j + 1) hj).2.2.2 qa34; rw [Nat.add_sub_cancel] at h1
      rcases Nat.lt_or_eq_of_le (Nat.le_of_lt_succ hi) with h2 | rfl
      · have := ih i h2 qa34; omega
      · exact h1
  refine ⟨List.pairwise_iff_getElem.2 fun i j hi hj hij => ?_, fun v hv => ?_⟩
  · have := up j i hij hj
    rw [getD_at c _ i hi, getD_at c _ j hj] at this
    exact this
  · obtain ⟨j, hj, rfl⟩ := List.getElem_of_mem hv
    have := h j hj
    unfold VerOK at this
    rw [getD_at c _ j hj] at this
    exact ⟨this.1, this.2.1, this.2.2.1⟩
theorem of_rw (now : Int) (key : Nat) (c : List S43) (h : Rw now key c) : ∀ j, j < c.length → VerOK now key c j := by
  intro j hj; have hm := h.2 c[j] (List.getElem_mem hj)
  unfold VerOK
  rw [getD_at c _ j hj]; refine ⟨hm.1, hm.2.1, hm.2.2, fun h0 => ?_⟩; rw [getD_at c _ (j - 1) qa34]
  exact List.pairwise_iff_getElem.1 h.1 (j - 1) j qa34 hj qa34
theorem store_rw (cs : List (List S43)) (now : Int) : IsStore cs now ↔ cs.length = 16 ∧ 0 ≤ now ∧ now ≤ 100000 ∧ ∀ i, i < 16 → Rw now i (cs.getD i []) :=
  ⟨fun h => ⟨h.1, h.2.1, h.2.2.1, fun i hi => rw_of now i _ (h.2.2.2 i hi)⟩, fun h => ⟨h.1, h.2.1, h.2.2.1, fun i hi => of_rw now i _ (h.2.2.2 i hi)⟩⟩
theorem new_store : IsStore (List.replicate 16 []) 0 := by
  refine ⟨qa120, qa34, qa34, fun i hi j hj => ?_⟩; rw [List.getD_eq_getElem?_getD, List.getElem?_replicate] at hj
  simp [hi] at hj
/-- What a chain tells at an hour. -/
def vl (c : List S43) (ts : Int) : Int := match (c.filter (fun v => decide (v.f0 ≤ ts))).getLast? with | some v => v.f1 | none => 0
theorem vl_snoc (c : List S43) (v : S43) (ts : Int) : vl (c ++ [v]) ts = if v.f0 ≤ ts then v.f1 else vl c ts := by
  unfold vl
  rw [List.filter_append]
  by_cases h : v.f0 ≤ ts
  · rw [if_pos h, List.filter_cons_of_pos (by simpa using h)]; simp
  · rw [if_neg h, List.filter_cons_of_neg (by simpa using h)]; simp
theorem vl_app (a b : List S43) (ts : Int) (h : ∃ x ∈ b, x.f0 ≤ ts) : vl (a ++ b) ts = vl b ts := by
  obtain ⟨x, hx, hts⟩ := h
  unfold vl
  rw [List.filter_append, List.getLast?_append]; have hne : b.filter (fun v => decide (v.f0 ≤ ts)) ≠ [] := List.ne_nil_of_mem (List.mem_filter.2 ⟨hx, by simpa using hts⟩); rw [List.getLast?_eq_some_getLast hne]
  rfl
theorem vl_same (c : List S43) (ts us : Int) (h1 : ∀ x ∈ c, x.f0 ≤ ts) (h2 : ∀ x ∈ c, x.f0 ≤ us) : vl c ts = vl c us := by
  unfold vl
  rw [List.filter_congr (q := fun v => decide (v.f0 ≤ us)) (fun x hx => by rw [decide_eq_true (h1 x hx), decide_eq_true (h2 x hx)])]
theorem last_vl (c : List S43) (ts : Int) : ∀ j, j ≤ c.length → lastVal c ts j = vl (c.take j) ts := by
  intro j
  induction j with
  | zero => intro _; rfl
  | succ j ih =>
    intro hj; rw [List.take_add_one, List.getElem?_eq_getElem (show j < c.length by omega)]
    show _ = vl (c.take j ++ [c[j]]) ts
    rw [vl_snoc, ← ih qa34]
    show (if _ then _ else _) = _
    rw [getD_at c _ j qa34]
theorem val_vl (c : List S43) (ts : Int) : bw.val c ts = vl c ts := by
  rw [val_last, last_vl c ts c.length (Nat.le_refl _), List.take_length]
/-! what both read of a right store -/
theorem read_right (cs : List (List S43)) (now : Int) (h : IsStore cs now) (hx : ∀ x ∈ cs, x.length ≤ 1048576) (key : Nat) (ts : Int) (hk : key < 16) (h0 : 0 ≤ ts) (h1 : ts ≤ now) :
    Ev (fun k => impl_ReadAt.f k cs now (key : Int) ts) (vl (cs.getD key []) ts, 0) := by
  obtain ⟨b, e1, e2, hb⟩ := stores_agree cs now hx; obtain ⟨K2, h2⟩ := ev_at e2; rw [hb.2 h] at h2; have g2 := (read_agree cs now (key : Int) ts h.1 qa34 qa34 hx).2; have hd : rd_L4 cs (key : Int) = cs.getD key [] := rfl; rw [hd, val_vl] at g2; refine ev_mk K2 fun k hk' => ?_
  unfold impl_ReadAt.f impl_isKey.f impl_Store_isHour.f
  rw [h2 k hk', impl_in, impl_in, g2]; simp only [Option.bind_some, if_true, decide_eq_true (show (0 : Int) ≤ (key : Int) ∧ (key : Int) ≤ 15 by omega), decide_eq_true (show 0 ≤ ts ∧ ts ≤ now from ⟨h0, h1⟩)]
theorem ok_right (cs : List (List S43)) (now : Int) (h : IsStore cs now) (hx : ∀ x ∈ cs, x.length ≤ 1048576) : Ev (fun k => impl_StoreOK.f k cs now) true := by
  obtain ⟨b, e1, e2, hb⟩ := stores_agree cs now hx; rw [hb.2 h] at e2
  exact e2
end Go.Proofs.Ytfiboooflebdpaa.Pure2
namespace Go.Proofs.Ytfiboooflebdpaa.Pure2
open Go.RowKit Go.Proofs.Ytfiboooflebdpaa.Q Go.Proofs.YtfiboooflebdpaaW.PrintWords Go.Proofs.YtfiboooflebdpaaW.PrintLast
set_option linter.unusedVariables false
set_option linter.unusedSimpArgs false
/-! puts that are right -/
def IsPut (x : S58) : Prop := (0 ≤ x.f0 ∧ x.f0 ≤ 15) ∧ fitsB x.f0 x.f1 = true
def IsPuts (l : List S58) : Prop := l.length ≤ 400 ∧ ∀ j, j < l.length → IsPut (l.getD j z58)
theorem spec_puts (l : List S58) (hl : l.length ≤ 1048576) : ∃ r, Ev (fun k => spec_l06Puts.f k l) r ∧ (r = true ↔ IsPuts l) := by
  obtain ⟨r, hr, he⟩ := count_loop l.length (fun k i => spec_l06Puts.l0 k l i) (fun j r => r = true ↔ l.length ≤ 400 ∧ ∀ j', j ≤ j' → j' < l.length → IsPut (l.getD j' z58))
    ⟨decide ((l.length : Int) ≤ 400), ⟨fun h => ⟨by have := qT h; omega, fun j' h1 h2 => by omega⟩, fun h => decide_eq_true (by have := h.1; omega)⟩, ev_now ⟨0, fun k _ => by simp only [spec_l06Puts.l0]; rw [if_neg qa34]⟩⟩
    (fun j hj r hr he => by
      have hd : rd_T58 l (j : Int) = l.getD j z58 := rfl
      have hh : ∀ k, spec_l06Puts.l0 (k + 1) l (j : Int) = if decide (0 ≤ (l.getD j z58).f0 ∧ (l.getD j z58).f0 ≤ 15) = true then (if fitsB (l.getD j z58).f0 (l.getD j z58).f1 = true then spec_l06Puts.l0 k l ((j + 1 : Nat) : Int) else some false) else some false := by
        intro k
        conv => lhs; simp only [spec_l06Puts.l0]
        rw [if_pos qa34, if_pos qa34, hd, spec_in, spec_fits]; simp only [Option.bind_some, wsucc hj qa34]
      by_cases h1 : 0 ≤ (l.getD j z58).f0 ∧ (l.getD j z58).f0 ≤ 15
      · by_cases h2 : fitsB (l.getD j z58).f0 (l.getD j z58).f1 = true
        · refine ⟨r, hr.trans ⟨fun h => ⟨h.1, fun j' h3 h4 => ?_⟩, fun h => ⟨h.1, fun j' h3 h4 => h.2 j' qa34 h4⟩⟩, ev_step ⟨0, fun k _ => by rw [hh, if_pos (decide_eq_true h1), if_pos h2]⟩ he⟩
          rcases Nat.lt_or_eq_of_le h3 with h5 | rfl
          · exact h.2 j' h5 h4
          · exact ⟨h1, h2⟩
        · exact ⟨false, ⟨fun h => (by cases h), fun h => absurd (h.2 j (Nat.le_refl _) hj).2 h2⟩, ev_now ⟨0, fun k _ => by rw [hh, if_pos (decide_eq_true h1), if_neg h2]⟩⟩
      · exact ⟨false, ⟨fun h => (by cases h), fun h => absurd (h.2 j (Nat.le_refl _) hj).1 h1⟩, ev_now ⟨0, fun k _ => by rw [hh, if_neg (by simpa using h1)]⟩⟩) 0 qa34
  exact ⟨r, ev_same ⟨0, fun k _ => by unfold spec_l06Puts.f; rfl⟩ he, hr.trans ⟨fun h => ⟨h.1, fun j hj => h.2 j qa34 hj⟩, fun h => ⟨h.1, fun j _ hj => h.2 j hj⟩⟩⟩
theorem impl_put (a b : Int) : impl_isPut.f a b = some (decide (0 ≤ a ∧ a ≤ 15) && fitsB a b) := by
  unfold impl_isPut.f impl_isKey.f
  rw [impl_in, impl_fits]
  by_cases h : 0 ≤ a ∧ a ≤ 15
  · simp [h]
  · simp only [Option.bind_some, decide_eq_false h]; rfl
theorem impl_puts (l : List S58) : ∃ r, impl_arePuts.f l = some r ∧ (r = true ↔ IsPuts l) := by
  have hp : ∀ x, impl_arePuts.p x = false ↔ IsPut x := by
    intro x
    unfold impl_arePuts.p impl_arePuts_1.f
    rw [impl_put]; simp only [Option.bind_some, IsPut]
    by_cases h : 0 ≤ x.f0 ∧ x.f0 ≤ 15
    · simp [h]
    · simp only [decide_eq_false h, Bool.false_and, Bool.not_false]
      exact ⟨fun h2 => (by cases h2), fun h2 => absurd h2.1 h⟩
  unfold impl_arePuts.f
  by_cases hl : (l.length : Int) ≤ 400
  · rw [if_pos hl]
    refine ⟨_, rfl, ?_⟩; rw [Bool.not_eq_true', List.any_eq_false]
    constructor
    · intro h
      refine ⟨qa34, fun j hj => ?_⟩; rw [List.getD_eq_getElem?_getD, List.getElem?_eq_getElem hj]
      exact (hp _).1 (by simpa using h _ (List.getElem_mem hj))
    · rintro ⟨_, h⟩ x hx
      obtain ⟨j, hj, rfl⟩ := List.getElem_of_mem hx; have := h j hj; rw [List.getD_eq_getElem?_getD, List.getElem?_eq_getElem hj] at this
      simpa using (hp _).2 this
  · rw [if_neg hl]
    exact ⟨false, rfl, ⟨fun h => (by cases h), fun h => absurd h.1 qa34⟩⟩
/-! draws: a source of choices -/
def SrcOK (m a s : Int) : Prop := 0 ≤ a ∧ a ≤ m ∧ 0 ≤ s ∧ s < 2147483648
def CodeOK (code : List Int) : Prop := code.length ≤ 1048576 ∧ ∀ x ∈ code, 0 ≤ x ∧ x ≤ 255
theorem code_rd (code : List Int) (hc : CodeOK code) (i : Int) (h0 : 0 ≤ i) (h1 : i < (code.length : Int)) : 0 ≤ rd code i ∧ rd code i ≤ 255 := by
  have e : rd code i = code[i.toNat]'qa34 := by
    unfold rd
    rw [List.getD_eq_getElem?_getD, List.getElem?_eq_getElem qa34]; rfl
  rw [e]
  exact hc.2 _ (List.getElem_mem _)
theorem byte_ok (code : List Int) (hc : CodeOK code) (m a s : Int) (hm : m ≤ 1000000000) (h : SrcOK m a s) : ∃ r a' s', spec_l00Src_byte.f code a s = some (r, a', s') ∧ 0 ≤ r ∧ r ≤ 255 ∧ SrcOK (m + 1) a' s' := by
  obtain ⟨h1, h2, h3, h4⟩ := h; have hl := hc.1; have w1 : wrap64 (a + 1) = a + 1 := by unfold wrap64; omega
  have w2 : wrap64 (a + 1 - 1) = a := by unfold wrap64; omega
  unfold spec_l00Src_byte.f
  rw [w1, w2]
  by_cases c1 : a + 1 ≤ (code.length : Int)
  · have hr := code_rd code hc a h1 qa34
    rw [if_pos c1, if_pos h1, if_pos qa34]; generalize rd code a = x at *; have w3 : wrap64 x = x := by unfold wrap64; omega
    have w4 : wrap64 (s * 31) = s * 31 := by unfold wrap64; omega
    have w5 : wrap64 (s * 31 + x) = s * 31 + x := by unfold wrap64; omega
    have w6 : wrap64 (s * 31 + x + 7) = s * 31 + x + 7 := by unfold wrap64; omega
    rw [w3, w4, w5, w6, Int.tmod_eq_emod_of_nonneg qa34]
    exact ⟨_, _, _, rfl, hr.1, hr.2, qa34, qa34, qa34, qa34⟩
  · rw [if_neg c1]
    by_cases c2 : a + 1 > 3000
    · rw [if_pos c2]
      exact ⟨_, _, _, rfl, qa34, qa34, qa34, qa34, h3, h4⟩
    · rw [if_neg c2]
      have w4 : wrap64 (s * 1103515245) = s * 1103515245 := by unfold wrap64; omega
      have w5 : wrap64 (s * 1103515245 + 12345) = s * 1103515245 + 12345 := by unfold wrap64; omega
      rw [w4, w5, Int.tmod_eq_emod_of_nonneg (a := s * 1103515245 + 12345) qa34]; generalize hq : (s * 1103515245 + 12345) % 2147483648 = q; have q0 : 0 ≤ q ∧ q < 2147483648 := by omega
      rw [Int.tdiv_eq_ediv_of_nonneg q0.1]; have w6 : wrap64 (q / 65536) = q / 65536 := by unfold wrap64; omega
      rw [w6, Int.tmod_eq_emod_of_nonneg qa34]
      exact ⟨_, _, _, rfl, qa34, qa34, qa34, qa34, q0.1, q0.2⟩
theorem next_ok (code : List Int) (hc : CodeOK code) (m a s n : Int) (hm : m ≤ 1000000000) (hn : 1 ≤ n ∧ n ≤ 256) (h : SrcOK m a s) : ∃ r a' s', spec_l00Src_next.f code a s n = some (r, a', s') ∧ 0 ≤ r ∧ r < n ∧ SrcOK (m + 1) a' s' := by
  unfold spec_l00Src_next.f
  by_cases c1 : n ≤ 1
  · rw [if_pos c1]
    exact ⟨_, _, _, rfl, qa34, qa34, h.1, by have := h.2.1; omega, h.2.2⟩
  · obtain ⟨r, a', s', e, r0, r1, hs⟩ := byte_ok code hc m a s hm h
    rw [if_neg c1, if_pos hn.2, e]; simp only [Option.bind_some]; rw [if_neg qa34, Int.tmod_eq_emod_of_nonneg r0]; have h1 := Int.emod_nonneg r (show n ≠ 0 by omega); have h2 := Int.emod_lt_of_pos r (show 0 < n by omega)
    exact ⟨_, _, _, rfl, h1, h2, hs⟩
theorem put_ok (code : List Int) (hc : CodeOK code) (m a s : Int) (hm : m ≤ 900000000) (h : SrcOK m a s) : ∃ (p : S58) (a' s' : Int), spec_l00Src_put.f code a s = some (p.f0, p.f1, a', s') ∧ IsPut p ∧ SrcOK (m + 3) a' s' := by
  obtain ⟨r, a1, s1, e1, r0, r1, h1⟩ := next_ok code hc m a s 16 qa34 qa34 h
  unfold spec_l00Src_put.f
  rw [e1]; simp only [Option.bind_some]
  by_cases c1 : Int.tmod r 2 = 1
  · obtain ⟨v, a2, s2, e2, v0, v1, h2⟩ := next_ok code hc (m + 1) a1 s1 9 qa34 qa34 h1
    rw [if_pos c1, e2]; refine ⟨⟨r, v⟩, a2, s2, rfl, ⟨⟨r0, by show r ≤ 15; omega⟩, ?_⟩, h2.1, by have := h2.2.1; omega, h2.2.2⟩
    show fitsB r v = true
    unfold fitsB
    rw [if_pos c1]
    exact decide_eq_true qa34
  · obtain ⟨v, a2, s2, e2, v0, v1, h2⟩ := next_ok code hc (m + 1) a1 s1 20 qa34 qa34 h1
    obtain ⟨q, a3, s3, e3, q0, q1, h3⟩ := next_ok code hc (m + 2) a2 s2 9 qa34 qa34 (by have h := h2; unfold SrcOK at h ⊢; omega); rw [if_neg c1, e2]; simp only [Option.bind_some]; rw [e3]; simp only [Option.bind_some]; have w1 : wrap64 (v - 4) = v - 4 := by unfold wrap64; omega
    rw [Int.tdiv_eq_ediv_of_nonneg q0, w1]; have w2 : wrap64 (q / 8) = q / 8 := by unfold wrap64; omega
    rw [w2, if_pos qa34, if_pos (by simp; omega)]
    have hf : ∀ x : Int, -2147483648 ≤ x → x ≤ 2147483647 → fitsB r x = true := by
      intro x x0 x1
      unfold fitsB
      rw [if_neg c1]
      exact decide_eq_true ⟨x0, x1⟩
    refine ⟨⟨r, rd [v - 4, 2147483647] (q / 8)⟩, a3, s3, rfl, ⟨⟨r0, by show r ≤ 15; omega⟩, ?_⟩, h3.1, by have := h3.2.1; omega, h3.2.2⟩
    show fitsB r (rd [v - 4, 2147483647] (q / 8)) = true
    by_cases c2 : q / 8 = 0
    · rw [c2]; exact hf (v - 4) qa34 qa34
    · have : q / 8 = 1 := by omega
      rw [this]; exact hf 2147483647 qa34 qa34
theorem puts_loop (code : List Int) (hc : CodeOK code) : ∀ (d : Nat) (m a s : Int) (x : List S58), d ≤ 4 → m + 3 * d ≤ 800000000 → x.length + d ≤ 1000 → SrcOK m a s →
    ∃ (l : List S58) (a' s' : Int), Ev (fun k => spec_l00Src_puts.l0 k x (d : Int) code a s) (x ++ l, a', s') ∧ l.length ≤ d ∧ (∀ p ∈ l, IsPut p) ∧ SrcOK (m + 3 * d) a' s' := by
  intro d
  induction d with
  | zero =>
    intro m a s x _ _ _ h
    exact ⟨[], a, s, ev_now ⟨0, fun k _ => by simp only [spec_l00Src_puts.l0]; rw [if_neg qa34, List.append_nil]⟩, qa120, qa120, by unfold SrcOK at h ⊢; omega⟩
  | succ d ih =>
    intro m a s x hd hm hx h; obtain ⟨p, a1, s1, e1, hp, h1⟩ := put_ok code hc m a s qa34 h; obtain ⟨l, a2, s2, e2, hl, hps, h2⟩ := ih (m + 3) a1 s1 (x ++ [p]) qa34 qa34 (by simp; omega) h1; refine ⟨p :: l, a2, s2, ev_step ⟨0, fun k _ => ?_⟩ (by rw [List.append_assoc] at e2; exact e2), by simp; omega, fun q hq => ?_, qa217⟩
    · have w : wrap64 (((d + 1 : Nat) : Int) - 1) = (d : Int) := by unfold wrap64; omega
      conv => lhs; simp only [spec_l00Src_puts.l0]
      rw [if_pos qa34, e1]; simp only [Option.bind_some]; rw [if_pos qa34, w]
    · rcases List.mem_cons.1 hq with rfl | hq
      · exact hp
      · exact hps q hq
theorem puts_ok (code : List Int) (hc : CodeOK code) (m a s : Int) (hm : m ≤ 700000000) (h : SrcOK m a s) :
    ∃ (l : List S58) (a' s' : Int), Ev (fun k => spec_l00Src_puts.f k code a s) (l, a', s') ∧ l.length ≤ 4 ∧ (∀ p ∈ l, IsPut p) ∧ SrcOK (m + 13) a' s' := by
  obtain ⟨r, a1, s1, e1, r0, r1, h1⟩ := next_ok code hc m a s 5 qa34 qa34 h; obtain ⟨n, rfl⟩ : ∃ n : Nat, r = (n : Int) := ⟨r.toNat, qa34⟩; obtain ⟨l, a2, s2, e2, hl, hps, h2⟩ := puts_loop code hc n (m + 1) a1 s1 [] qa34 qa34 (by simp; omega) h1; refine ⟨l, a2, s2, ev_same ⟨0, fun k _ => ?_⟩ e2, qa34, hps, qa217⟩
  unfold spec_l00Src_puts.f
  rw [e1]; rfl
theorem is_puts (l : List S58) (hl : l.length ≤ 400) (h : ∀ p ∈ l, IsPut p) : IsPuts l := ⟨hl, fun j hj => h _ (by rw [List.getD_eq_getElem?_getD, List.getElem?_eq_getElem hj]; exact List.getElem_mem hj)⟩
end Go.Proofs.Ytfiboooflebdpaa.Pure2
namespace Go.Proofs.Ytfiboooflebdpaa.Pure2
open Go.RowKit Go.Proofs.Ytfiboooflebdpaa.Q Go.Proofs.YtfiboooflebdpaaW.PrintWords Go.Proofs.YtfiboooflebdpaaW.PrintLast
set_option linter.unusedVariables false
set_option linter.unusedSimpArgs false
/-! what is written at one hour -/
def putRow (now v : Int) (c : List S43) : List S43 := (if 0 < c.length ∧ (c.getD (c.length - 1) z43).f0 = now then c.take (c.length - 1) else c) ++ [⟨now, v⟩]
def putOne (now : Int) (cs : List (List S43)) (p : S58) : List (List S43) := cs.set p.f0.toNat (putRow now p.f1 (cs.getD p.f0.toNat []))
def putsIn (now : Int) (cs : List (List S43)) (l : List S58) : List (List S43) := l.foldl (putOne now) cs
theorem putRow_len (now v : Int) (c : List S43) : (putRow now v c).length ≤ c.length + 1 := by
  unfold putRow
  rw [List.length_append]
  split
  · rw [List.length_take]; simp only [List.length_cons, List.length_nil]; omega
  · simp only [List.length_cons, List.length_nil]; omega
theorem putOne_len (now : Int) (cs : List (List S43)) (p : S58) : (putOne now cs p).length = cs.length := by unfold putOne; rw [List.length_set]
theorem putOne_rows (now : Int) (cs : List (List S43)) (p : S58) (n : Nat) (hx : ∀ x ∈ cs, x.length ≤ n) : ∀ x ∈ putOne now cs p, x.length ≤ n + 1 := by
  intro x hx'
  unfold putOne at hx'
  rcases List.mem_or_eq_of_mem_set hx' with h | rfl
  · have := hx x h; omega
  · have h1 := putRow_len now p.f1 (cs.getD p.f0.toNat [])
    by_cases h : p.f0.toNat < cs.length
    · have h2 := hx _ (row_mem cs p.f0.toNat h); omega
    · rw [List.getD_eq_getElem?_getD, List.getElem?_eq_none qa34] at h1 ⊢
      simp only [Option.getD_none, List.length_nil] at h1; simp only [Option.getD_none]
      omega
theorem puts_next (l : List S58) (j : Nat) (hj : j < l.length) (now : Int) (cs : List (List S43)) : putsIn now cs (l.drop j) = putsIn now (putOne now cs (l.getD j z58)) (l.drop (j + 1)) := by
  have hg : l.getD j z58 = l[j] := by rw [List.getD_eq_getElem?_getD, List.getElem?_eq_getElem hj]; rfl
  unfold putsIn
  rw [List.drop_eq_getElem_cons hj, List.foldl_cons, hg]
theorem spec_write_loop (l : List S58) (now : Int) (hl : l.length ≤ 400) (hp : ∀ j, j < l.length → 0 ≤ (l.getD j z58).f0 ∧ (l.getD j z58).f0 ≤ 15) : ∀ d j cs, j ≤ l.length → l.length - j = d → cs.length = 16 → (∀ x ∈ cs, x.length ≤ 200000 + j) →
    Ev (fun k => spec_l06Write.l0 k l (j : Int) cs now) (putsIn now cs (l.drop j), now) := by
  intro d
  induction d with
  | zero =>
    intro j cs hj hd hc hx; obtain rfl : j = l.length := by omega
    rw [List.drop_eq_nil_of_le (Nat.le_refl _)]
    exact ev_now ⟨0, fun k _ => by simp only [spec_l06Write.l0]; rw [if_neg qa34]; rfl⟩
  | succ d ih =>
    intro j cs hj hd hc hx; have hjl : j < l.length := by omega
    have hk := hp j hjl; have hrd : rd_T58 l (j : Int) = l.getD j z58 := rfl; have hn := ih (j + 1) (putOne now cs (l.getD j z58)) qa34 qa34 (by rw [putOne_len]; exact hc) (putOne_rows now cs _ _ hx); rw [puts_next l j hjl]; refine ev_step ⟨0, fun k _ => ?_⟩ hn
    unfold putOne putRow
    generalize l.getD j z58 = p at *; have hrow : rd_L4 cs p.f0 = cs.getD p.f0.toNat [] := rfl; have hm := hx _ (row_mem cs p.f0.toNat qa34)
    conv => lhs; simp only [spec_l06Write.l0]
    rw [if_pos qa34, if_pos qa34, hrd, if_pos qa34, if_pos qa34, hrow, wsucc hjl qa34]; generalize cs.getD p.f0.toNat [] = c at *
    by_cases h0 : 0 < c.length
    · have hw : wrap64 ((c.length : Int) - 1) = ((c.length - 1 : Nat) : Int) := by unfold wrap64; omega
      have hv : rd_T43 c ((c.length - 1 : Nat) : Int) = c.getD (c.length - 1) z43 := rfl; rw [if_pos qa34, hw, if_pos qa34, if_pos qa34, hv]
      by_cases ht : (c.getD (c.length - 1) z43).f0 = now
      · rw [if_pos ht, if_pos qa34, if_pos ⟨h0, ht⟩]
        simp only [Option.bind_some, Int.toNat_natCast, List.nil_append, List.length_nil, List.length_take, List.length_cons]; rw [if_pos qa34, if_pos qa34]
      · rw [if_neg ht, if_neg (fun h => ht h.2)]
        simp only [Option.bind_some, List.nil_append, List.length_nil, List.length_cons]; rw [if_pos qa34, if_pos qa34]
    · rw [if_neg qa34, if_neg (fun h => h0 h.1)]
      simp only [Option.bind_some, List.nil_append, List.length_nil, List.length_cons]; rw [if_pos qa34, if_pos qa34]
theorem rows_le (cs : List (List S43)) (now : Int) (h : IsStore cs now) : ∀ x ∈ cs, x.length ≤ 100000 := by
  intro x hx; obtain ⟨i, hi, rfl⟩ := List.getElem_of_mem hx; have h16 : i < 16 := by have := h.1; omega
  have hg : cs.getD i [] = cs[i] := by rw [List.getD_eq_getElem?_getD, List.getElem?_eq_getElem hi]; rfl
  have hv := h.2.2.2 i h16; rw [hg] at hv
  have key : ∀ j, j < cs[i].length → ((j : Int) + 1) ≤ (cs[i].getD j z43).f0 := by
    intro j
    induction j with
    | zero => intro hj; have := (hv 0 hj).1; omega
    | succ j ih => intro hj; have h1 := ih qa34; have h2 := (hv (j + 1) hj).2.2.2 qa34; rw [Nat.add_sub_cancel] at h2; omega
  by_cases hb : cs[i].length ≤ 100000
  · exact hb
  · have h1 := key 100000 qa34; have h2 := (hv 100000 qa34).2.1; have h3 := h.2.2.1; omega
theorem putsIn_small (now : Int) : ∀ (l : List S58) (cs : List (List S43)) (n : Nat), (∀ x ∈ cs, x.length ≤ n) → (putsIn now cs l).length = cs.length ∧ ∀ x ∈ putsIn now cs l, x.length ≤ n + l.length := by
  intro l
  induction l with
  | nil => intro cs n hx; exact ⟨rfl, hx⟩
  | cons p l ih =>
    intro cs n hx; have h := ih (putOne now cs p) (n + 1) (putOne_rows now cs p n hx); refine ⟨h.1.trans (putOne_len now cs p), fun x hx' => ?_⟩; have := h.2 x hx'; rw [List.length_cons]
    omega
/-! what puts at one hour make of a chain -/
theorem getD_mem {α : Type} (l : List α) (z : α) (j : Nat) (h : j < l.length) : l.getD j z ∈ l := by rw [List.getD_eq_getElem?_getD, List.getElem?_eq_getElem h]; exact List.getElem_mem h
def wrote (l : List S58) (k : Nat) (a : Option Int) : Option Int := l.foldl (fun a p => if p.f0 = (k : Int) then some p.f1 else a) a
def tl (h : Int) (c : List S43) : Option Int → List S43
  | none => c
  | some v => c ++ [⟨h, v⟩]
theorem putRow_tl (h v : Int) (c : List S43) (hc : ∀ x ∈ c, x.f0 < h) (a : Option Int) : putRow h v (tl h c a) = tl h c (some v) := by
  cases a with
  | none =>
    show putRow h v c = c ++ [⟨h, v⟩]
    unfold putRow
    rw [if_neg]; rintro ⟨h0, h1⟩; have := hc _ (getD_mem c z43 (c.length - 1) qa34)
    omega
  | some u =>
    show putRow h v (c ++ [⟨h, u⟩]) = c ++ [⟨h, v⟩]
    unfold putRow
    have e : (c ++ [(⟨h, u⟩ : S43)]).length - 1 = c.length := by simp
    rw [e, if_pos ⟨qa120, by rw [List.getD_eq_getElem?_getD]; simp⟩]
    simp
theorem set_row (cs : List (List S43)) (i k : Nat) (x : List S43) (hi : i < cs.length) : (cs.set i x).getD k [] = if i = k then x else cs.getD k [] := by
  rw [List.getD_eq_getElem?_getD, List.getD_eq_getElem?_getD]
  by_cases h : i = k
  · subst h; rw [if_pos rfl, List.getElem?_set_self hi]; rfl
  · rw [if_neg h, List.getElem?_set_ne h]
theorem putsIn_row (h : Int) (cs0 : List (List S43)) (hlt : ∀ k, k < 16 → ∀ x ∈ cs0.getD k [], x.f0 < h) : ∀ (l : List S58) (cs : List (List S43)) (a : Nat → Option Int), (∀ p ∈ l, IsPut p) → cs.length = 16 → (∀ k, k < 16 → cs.getD k [] = tl h (cs0.getD k []) (a k)) →
    ∀ k, k < 16 → (putsIn h cs l).getD k [] = tl h (cs0.getD k []) (wrote l k (a k)) := by
  intro l
  induction l with
  | nil => intro cs a _ _ hr k hk; exact hr k hk
  | cons p l ih =>
    intro cs a hp hl hr k hk; have h0 := (hp p (List.mem_cons_self ..)).1; have hi : p.f0.toNat < 16 := by omega
    refine (ih (putOne h cs p) (fun k => if p.f0 = (k : Int) then some p.f1 else a k) (fun q hq => hp q (List.mem_cons_of_mem _ hq)) (by rw [putOne_len]; exact hl) (fun k hk => ?_) k hk)
    unfold putOne
    rw [set_row cs _ k _ qa34]
    by_cases e : p.f0.toNat = k
    · rw [if_pos e, if_pos qa34, e, hr k hk]
      exact putRow_tl h p.f1 _ (hlt k hk) (a k)
    · rw [if_neg e, if_neg qa34]
      exact hr k hk
theorem wrote_fits (k : Nat) : ∀ (l : List S58) (a : Option Int), (∀ p ∈ l, IsPut p) → (∀ v, a = some v → fitsB k v = true) → ∀ v, wrote l k a = some v → fitsB k v = true := by
  intro l
  induction l with
  | nil => intro a _ ha v hv; exact ha v hv
  | cons p l ih =>
    intro a hp ha v hv; refine ih (if p.f0 = (k : Int) then some p.f1 else a) (fun q hq => hp q (List.mem_cons_of_mem _ hq)) (fun u hu => ?_) v hv
    by_cases e : p.f0 = (k : Int)
    · rw [if_pos e] at hu
      have := (hp p (List.mem_cons_self ..)).2; rw [e] at this
      cases hu
      exact this
    · rw [if_neg e] at hu
      exact ha u hu
theorem rw_tl (now : Int) (key : Nat) (c : List S43) (h : Rw now key c) (h0 : 0 ≤ now) (a : Option Int) (ha : ∀ v, a = some v → fitsB key v = true) : Rw (now + 1) key (tl (now + 1) c a) := by
  cases a with
  | none => exact ⟨h.1, fun v hv => by have := h.2 v hv; exact ⟨this.1, qa34, this.2.2⟩⟩
  | some u =>
    refine ⟨List.pairwise_append.2 ⟨h.1, List.pairwise_singleton .., fun x hx y hy => ?_⟩, fun v hv => ?_⟩
    · rcases List.mem_singleton.1 hy with rfl
      have := (h.2 x hx).2.1
      show x.f0 < now + 1
      omega
    · rcases List.mem_append.1 hv with hv | hv
      · have := h.2 v hv; exact ⟨this.1, qa34, this.2.2⟩
      · rcases List.mem_singleton.1 hv with rfl
        exact ⟨by show 1 ≤ now + 1; omega, by show now + 1 ≤ now + 1; omega, ha u rfl⟩
theorem rows_lt (cs : List (List S43)) (now : Int) (h : IsStore cs now) : ∀ k, k < 16 → ∀ x ∈ cs.getD k [], x.f0 < now + 1 := fun k hk x hx => by
  have := (((store_rw cs now).1 h).2.2.2 k hk).2 x hx
  omega
theorem puts_row (cs : List (List S43)) (now : Int) (h : IsStore cs now) (l : List S58) (hp : ∀ p ∈ l, IsPut p) (k : Nat) (hk : k < 16) : (putsIn (now + 1) cs l).getD k [] = tl (now + 1) (cs.getD k []) (wrote l k none) :=
  putsIn_row (now + 1) cs (rows_lt cs now h) l cs (fun _ => none) hp h.1 (fun _ _ => rfl) k hk
theorem puts_store (cs : List (List S43)) (now : Int) (h : IsStore cs now) (hn : now < 100000) (l : List S58) (hp : ∀ p ∈ l, IsPut p) : IsStore (putsIn (now + 1) cs l) (now + 1) := by
  have hr := (store_rw cs now).1 h; refine (store_rw _ _).2 ⟨?_, by have := h.2.1; omega, qa34, fun i hi => ?_⟩
  · rw [(putsIn_small (now + 1) l cs 100000 (rows_le cs now h)).1]; exact h.1
  · rw [puts_row cs now h l hp i hi]
    exact rw_tl now i _ (hr.2.2.2 i hi) h.2.1 _ (wrote_fits i l none hp (fun v hv => by cases hv))
theorem store_small (cs : List (List S43)) (now : Int) (h : IsStore cs now) : ∀ x ∈ cs, x.length ≤ 1048576 := fun x hx => by have := rows_le cs now h x hx; omega
theorem vl_tl (h : Int) (c : List S43) (ts : Int) (a : Option Int) : vl (tl h c a) ts = match a with | some v => if h ≤ ts then v else vl c ts | none => vl c ts := by
  cases a with
  | none => rfl
  | some v => exact vl_snoc c ⟨h, v⟩ ts
/-- What is written by both. -/
theorem own_write (cs : List (List S43)) (now : Int) (h : IsStore cs now) (hn : now < 100000) (l : List S58) (hl : l.length ≤ 400) (hp : ∀ p ∈ l, IsPut p) :
    Ev (fun k => spec_l06Write.f k cs now l) (if l = [] then (cs, now) else (putsIn (now + 1) cs l, now + 1)) := by
  by_cases h0 : l = []
  · rw [if_pos h0]
    exact ev_mk 0 fun k hk => by unfold spec_l06Write.f; rw [h0]; rfl
  · rw [if_neg h0]
    have hl0 : l.length ≠ 0 := fun e => h0 (List.length_eq_zero_iff.1 e)
    have hw : wrap64 (now + 1) = now + 1 := by have := h.2.1; unfold wrap64; omega
    have hpp := is_puts l hl hp; obtain ⟨K1, h1⟩ := ev_at (spec_own cs now (by rw [h.1]; omega) (store_small cs now h)); obtain ⟨K2, h2⟩ := ev_at (spec_write_loop l (now + 1) hl (fun j hj => (hpp.2 j hj).1) l.length 0 cs qa34 qa34 h.1 (fun x hx' => by have := rows_le cs now h x hx'; omega)); refine ev_mk (K1 + K2) fun k hk => ?_
    unfold spec_l06Write.f
    rw [if_neg qa34, h1 k qa34]; simp only [Option.bind_some]; rw [hw]
    exact h2 k qa34
end Go.Proofs.Ytfiboooflebdpaa.Pure2
namespace Go.Proofs.Ytfiboooflebdpaa.Pure2
open Go.RowKit Go.Proofs.Ytfiboooflebdpaa.Q Go.Proofs.YtfiboooflebdpaaW.PrintWords Go.Proofs.YtfiboooflebdpaaW.PrintLast
set_option linter.unusedVariables false
set_option linter.unusedSimpArgs false
/-! a drawn store is right -/
theorem gone_at (c : List S43) (low : Int) : ∀ (m g : Nat), c.length - g = m → g ≤ c.length → (gone c low g = g ∨ gone c low g < c.length ∧ (c.getD (gone c low g) z43).f0 ≤ low) ∧ ¬ (gone c low g + 1 < c.length ∧ (c.getD (gone c low g + 1) z43).f0 ≤ low) := by
  intro m
  induction m with
  | zero => intro g hm hg; rw [gone_stop c low g qa34]; exact ⟨.inl rfl, qa34⟩
  | succ m ih =>
    intro g hm hg
    by_cases h : g + 1 < c.length ∧ (c.getD (g + 1) z43).f0 ≤ low
    · rw [gone_step c low g h]
      obtain ⟨h1, h2⟩ := ih (g + 1) qa34 qa34; refine ⟨.inr ?_, h2⟩
      rcases h1 with h1 | h1
      · rw [h1]; exact h
      · exact h1
    · rw [gone_stop c low g h]; exact ⟨.inl rfl, h⟩
theorem fgt_vl (low ts : Int) (c : List S43) (h : low ≤ ts) : vl (fgt low c) ts = vl c ts := by
  unfold fgt
  obtain ⟨h1, _⟩ := gone_at c low c.length 0 qa34 qa34; generalize gone c low 0 = g at *
  rcases h1 with rfl | ⟨h1, h2⟩
  · rw [List.drop_zero]
  · conv => rhs; rw [← List.take_append_drop g c]
    refine (vl_app _ _ ts ⟨c[g], ?_, ?_⟩).symm
    · rw [List.drop_eq_getElem_cons h1]; exact List.mem_cons_self ..
    · rw [getD_at c _ g h1] at h2; omega
theorem fgt_next (low : Int) (c : List S43) (h : 1 < (fgt low c).length) : low < ((fgt low c).getD 1 z43).f0 := by
  unfold fgt at h ⊢
  obtain ⟨_, h2⟩ := gone_at c low c.length 0 qa34 qa34; generalize gone c low 0 = g at *; rw [List.length_drop] at h; rw [List.getD_eq_getElem?_getD, List.getElem?_drop, ← List.getD_eq_getElem?_getD]; have h3 : ¬ (c.getD (g + 1) z43).f0 ≤ low := fun h3 => h2 ⟨qa34, h3⟩
  omega
theorem fgt_rw (now low : Int) (key : Nat) (c : List S43) (h : Rw now key c) : Rw now key (fgt low c) := by
  unfold fgt
  exact ⟨h.1.sublist (List.drop_sublist _ _), fun v hv => h.2 v (List.mem_of_mem_drop hv)⟩
theorem fgt_row (cs : List (List S43)) (low : Int) (i : Nat) (hi : i < cs.length) : (cs.map (fgt low)).getD i [] = fgt low (cs.getD i []) := by
  rw [List.getD_eq_getElem?_getD, List.getElem?_map, List.getElem?_eq_getElem hi, getD_at cs _ i hi]; rfl
theorem fgt_store (cs : List (List S43)) (now low : Int) (h : IsStore cs now) : IsStore (cs.map (fgt low)) now := by
  have hr := (store_rw cs now).1 h; refine (store_rw _ _).2 ⟨by rw [List.length_map]; exact h.1, h.2.1, h.2.2.1, fun i hi => ?_⟩; rw [fgt_row cs low i (by rw [h.1]; exact hi)]
  exact fgt_rw now low i _ (hr.2.2.2 i hi)
theorem store_loop (code : List Int) (hc : CodeOK code) : ∀ (d : Nat) (m a s : Int) (cs : List (List S43)) (now : Int), d ≤ 20 → now + d ≤ 20 → m + 30 * d ≤ 600000000 → SrcOK m a s → IsStore cs now →
    ∃ (cs' : List (List S43)) (now' a' s' : Int), Ev (fun k => spec_l00Src_store.l0 k (d : Int) code a s cs now) (cs', now', a', s') ∧ IsStore cs' now' ∧ now' ≤ 20 := by
  intro d
  induction d with
  | zero =>
    intro m a s cs now _ hn _ h hs; obtain ⟨K, e⟩ := ev_at (spec_own cs now (by rw [hs.1]; omega) (store_small cs now hs))
    exact ⟨cs, now, a, s, ev_now ⟨K, fun k hk => by simp only [spec_l00Src_store.l0]; rw [if_neg qa34, e k hk]; rfl⟩, hs, qa34⟩
  | succ d ih =>
    intro m a s cs now hd hn hm h hs; have w : wrap64 (((d + 1 : Nat) : Int) - 1) = (d : Int) := by unfold wrap64; omega
    obtain ⟨l, a1, s1, e1, hl, hp, h1⟩ := puts_ok code hc m a s qa34 h; obtain ⟨K1, e1⟩ := ev_at e1; obtain ⟨K2, e2⟩ := ev_at (own_write cs now hs qa34 l qa34 hp)
    obtain ⟨cs2, n2, he, hs2, hn2, hn3⟩ : ∃ cs2 n2, (if l = [] then (cs, now) else (putsIn (now + 1) cs l, now + 1)) = (cs2, n2) ∧ IsStore cs2 n2 ∧ n2 ≤ now + 1 ∧ now ≤ n2 := by
      by_cases h0 : l = []
      · exact ⟨cs, now, if_pos h0, hs, qa34, qa34⟩
      · exact ⟨_, _, if_neg h0, puts_store cs now hs qa34 l hp, qa34, qa34⟩
    rw [he] at e2; obtain ⟨r, a2, s2, e3, r0, r1, h2⟩ := next_ok code hc (m + 13) a1 s1 6 qa34 qa34 h1; have e3' : spec_l00Src_chance.f code a1 s1 6 = some (r == wrap64 (6 - 1), a2, s2) := by unfold spec_l00Src_chance.f; rw [e3]; rfl
    have n0 := hs2.2.1
    by_cases cc : (r == wrap64 (6 - 1)) = true
    · have wn : wrap64 (n2 + 1) = n2 + 1 := by unfold wrap64; omega
      obtain ⟨low, a3, s3, e4, l0, l1, h3⟩ := next_ok code hc (m + 14) a2 s2 (n2 + 1) qa34 qa34 qa217; obtain ⟨K5, e5⟩ := ev_at (spec_forget cs2 n2 low hs2.1 (store_small cs2 n2 hs2)); obtain ⟨cs', now', a', s', e6, hs', hn'⟩ := ih (m + 15) a3 s3 (cs2.map (fgt low)) n2 qa34 qa34 qa34 (by unfold SrcOK at h3 ⊢; omega) (fgt_store cs2 n2 low hs2); refine ⟨cs', now', a', s', ev_step ⟨K1 + K2 + K5, fun k hk => ?_⟩ e6, hs', hn'⟩
      conv => lhs; simp only [spec_l00Src_store.l0]
      rw [if_pos qa34, e1 k qa34]; simp only [Option.bind_some]; rw [e2 k qa34]; simp only [Option.bind_some]; rw [e3']; simp only [Option.bind_some]; rw [if_pos cc, wn, e4]; simp only [Option.bind_some]; rw [e5 k qa34]; simp only [Option.bind_some]; rw [w]
    · obtain ⟨cs', now', a', s', e6, hs', hn'⟩ := ih (m + 14) a2 s2 cs2 n2 qa34 qa34 qa34 qa217 hs2
      refine ⟨cs', now', a', s', ev_step ⟨K1 + K2, fun k hk => ?_⟩ e6, hs', hn'⟩
      conv => lhs; simp only [spec_l00Src_store.l0]
      rw [if_pos qa34, e1 k qa34]; simp only [Option.bind_some]; rw [e2 k qa34]; simp only [Option.bind_some]; rw [e3']; simp only [Option.bind_some]; rw [if_neg cc, w]
theorem src_start (code : List Int) (hc : CodeOK code) : spec_l00Source.f code = some (code, 0, (code.length : Int) % 1000) ∧ SrcOK 0 0 ((code.length : Int) % 1000) := ⟨rfl, by unfold SrcOK; omega⟩
theorem new_store_f : spec_NewStore.f = some (List.replicate 16 [], 0) := by unfold spec_NewStore.f; exact if_pos qa69
theorem size_f (code : List Int) (hc : CodeOK code) (a s : Int) : ∃ q, spec_l00Src_size.f code a s 10 = some (q, a, s) ∧ 1 ≤ q ∧ q ≤ 10 := by
  have hl := hc.1; have w1 : wrap64 ((code.length : Int) / 12) = (code.length : Int) / 12 := by unfold wrap64; omega
  have w2 : wrap64 (1 + (code.length : Int) / 12) = 1 + (code.length : Int) / 12 := by unfold wrap64; omega
  unfold spec_l00Src_size.f
  rw [w1, w2]; refine ⟨_, rfl, ?_, ?_⟩
  · unfold mn; split <;> omega
  · unfold mn; split <;> omega
theorem store_f (code : List Int) (hc : CodeOK code) (a s : Int) (h : SrcOK 0 a s) : ∃ (cs : List (List S43)) (now a' s' : Int), Ev (fun k => spec_l00Src_store.f k code a s) (cs, now, a', s') ∧ IsStore cs now ∧ now ≤ 20 := by
  obtain ⟨q, hz, q0, q1⟩ := size_f code hc a s; have w3 : wrap64 (q + 4) = q + 4 := by unfold wrap64; omega
  obtain ⟨r, a1, s1, e1, r0, r1, h1⟩ := next_ok code hc 0 a s (q + 4) qa34 qa34 h; obtain ⟨n, rfl⟩ : ∃ n : Nat, r = (n : Int) := ⟨r.toNat, qa34⟩; obtain ⟨cs, now, a2, s2, e2, hs, hn⟩ := store_loop code hc n 1 a1 s1 (List.replicate 16 []) 0 qa34 qa34 qa34 h1 new_store; refine ⟨cs, now, a2, s2, ev_same ⟨0, fun k hk => ?_⟩ e2, hs, hn⟩
  unfold spec_l00Src_store.f
  rw [new_store_f, Option.bind_some, hz, Option.bind_some]
  show (spec_l00Src_next.f code a s (wrap64 (q + 4))).bind _ = _
  rw [w3, e1, Option.bind_some]
theorem store_of (code : List Int) (hc : CodeOK code) : ∃ (cs : List (List S43)) (now : Int), Ev (fun k => spec_StoreOf.f k code) (cs, now) ∧ IsStore cs now ∧ now ≤ 20 := by
  obtain ⟨e0, h0⟩ := src_start code hc; obtain ⟨cs, now, a', s', e, hs, hn⟩ := store_f code hc _ _ h0; obtain ⟨K, e⟩ := ev_at e; refine ⟨cs, now, ev_mk K fun k hk => ?_, hs, hn⟩
  unfold spec_StoreOf.f
  rw [e0, Option.bind_some, e k hk, Option.bind_some]
end Go.Proofs.Ytfiboooflebdpaa.Pure2
namespace Go.Proofs.Ytfiboooflebdpaa.Q
open Go.RowKit Go.Proofs.YtfiboooflebdpaaW.PrintWords Go.Proofs.YtfiboooflebdpaaW.PrintLast Go.Proofs.YtfiboooflebdpaaW.PrintMore
attribute [local go_sem] max2_int min2_int max_two min_two max_three min_three max_four min_four
set_option linter.unusedVariables false
set_option linter.unusedSimpArgs false

def laws_at.f (l0 : List Int) (a1 : Int) (a2 : Int) : Option (Int) := if a2 ≤ 1 then (some 0) else (if (l0.length : Int) = 0 then (if a2 = 0 then (none) else (some (Int.tmod (wrap64 (a1 * 7)) a2))) else (if 0 ≤ (Int.tmod a1 (l0.length : Int)) then (if (Int.tmod a1 (l0.length : Int)) < (l0.length : Int) then (if 0 ≤ (Int.tmod (wrap64 (a1 + 1)) (l0.length : Int)) then (if (Int.tmod (wrap64 (a1 + 1)) (l0.length : Int)) < (l0.length : Int) then (if a2 = 0 then (none) else (some (Int.tmod (wrap64 ((wrap64 ((wrap64 ((wrap64 (rd l0 (Int.tmod a1 (l0.length : Int)))) * 31)) + (wrap64 (rd l0 (Int.tmod (wrap64 (a1 + 1)) (l0.length : Int)))))) + (wrap64 (Int.tdiv a1 (l0.length : Int))))) a2))) else (none)) else (none)) else (none)) else (none)))
set_option maxHeartbeats 8000000 in
set_option maxRecDepth 100000 in
theorem laws_at.calls (A0 : Option Addr) (c0 : Nat) (l0 : List Int) (a1 : Int) (a2 : Int) (r : Int) (w : World) (hr0 : Kd.C (Kd.int .u8) w A0 l0.length l0) (hc0 : l0.length ≤ c0) (h : laws_at.f l0 a1 a2 = some r) :
  Calls Try.prog 19 #[.slice A0 l0.length c0, .int .i64 a1, .int .i64 a2] w fun e w' => e = .returned (.int .i64 r) ∧ Drawn0 w w' := by
 have HR0 := qO hr0; have HC0 := qO hc0; clear hr0 hc0; have H : (if a2 ≤ 1 then (some 0) else (if (l0.length : Int) = 0 then (if a2 = 0 then (none) else (some (Int.tmod (wrap64 (a1 * 7)) a2))) else (if 0 ≤ (Int.tmod a1 (l0.length : Int)) then (if (Int.tmod a1 (l0.length : Int)) < (l0.length : Int) then (if 0 ≤ (Int.tmod (wrap64 (a1 + 1)) (l0.length : Int)) then (if (Int.tmod (wrap64 (a1 + 1)) (l0.length : Int)) < (l0.length : Int) then (if a2 = 0 then (none) else (some (Int.tmod (wrap64 ((wrap64 ((wrap64 ((wrap64 (rd l0 (Int.tmod a1 (l0.length : Int)))) * 31)) + (wrap64 (rd l0 (Int.tmod (wrap64 (a1 + 1)) (l0.length : Int)))))) + (wrap64 (Int.tdiv a1 (l0.length : Int))))) a2))) else (none)) else (none)) else (none)) else (none)))) = some r := h; clear h
 by_cases c4 : a2 ≤ 1
 ·rw [if_pos c4] at H
  have c4b0 : decide (a2 ≤ 1) = true := decide_eq_true c4; clear c4; obtain rfl := Option.some.inj H
  go_enter Try.func19, Try.ntmps19
  go_wp2
  repeat (go_quiet (fail); try go_wp2)
  go_ret
  exact ⟨qa18, qa68⟩
 ·rw [if_neg c4] at H
  have c4b0 : decide (a2 ≤ 1) = false := decide_eq_false c4; clear c4
  by_cases c5 : (l0.length : Int) = 0
  ·rw [if_pos c5] at H
   have c5b0 : ((l0.length : Int) == 0) = true := beq_iff_eq.mpr c5; have c5b1 : ((l0.length : Int) != 0) = false := bne_eq_false_iff_eq.mpr c5; clear c5
   by_cases c6 : a2 = 0
   ·rw [if_pos c6] at H
    exact absurd H qa120
   ·rw [if_neg c6] at H
    have c6b0 : (a2 == 0) = false := beq_eq_false_iff_ne.mpr c6; have c6b1 : (a2 != 0) = true := bne_iff_ne.mpr c6; obtain rfl := Option.some.inj H
    go_enter Try.func19, Try.ntmps19
    go_wp2
    repeat (go_quiet (fail); try go_wp2)
    go_ret
    exact ⟨qa18, qa68⟩
  ·rw [if_neg c5] at H
   have c5b0 : ((l0.length : Int) == 0) = false := beq_eq_false_iff_ne.mpr c5; have c5b1 : ((l0.length : Int) != 0) = true := bne_iff_ne.mpr c5; have c5b2 : ¬ (l0 = []) := fun h_ => c5 (by rw [h_]; rfl)
   obtain ⟨ji7, hji7⟩ : ∃ j_ : Int, (Int.tmod a1 (l0.length : Int)) = j_ := ⟨_, rfl⟩; replace H : (if 0 ≤ (ji7) then (if (ji7) < (l0.length : Int) then (if 0 ≤ (Int.tmod (wrap64 (a1 + 1)) (l0.length : Int)) then (if (Int.tmod (wrap64 (a1 + 1)) (l0.length : Int)) < (l0.length : Int) then (if a2 = 0 then (none) else (some (Int.tmod (wrap64 ((wrap64 ((wrap64 ((wrap64 (rd l0 (ji7))) * 31)) + (wrap64 (rd l0 (Int.tmod (wrap64 (a1 + 1)) (l0.length : Int)))))) + (wrap64 (Int.tdiv a1 (l0.length : Int))))) a2))) else (none)) else (none)) else (none)) else (none)) = some r := by first | (rw [hji7] at H; exact H) | (simp only [hji7] at H ⊢; exact H)
   by_cases c8 : 0 ≤ (ji7)
   ·rw [if_pos c8] at H
    have c8b0 : decide (0 ≤ (ji7)) = true := decide_eq_true c8; clear c8
    by_cases c9 : (ji7) < (l0.length : Int)
    ·rw [if_pos c9] at H
     have c9b0 : decide ((ji7) < (l0.length : Int)) = true := decide_eq_true c9; clear c9; obtain ⟨ji10, hji10⟩ : ∃ j_ : Int, (Int.tmod (wrap64 (a1 + 1)) (l0.length : Int)) = j_ := ⟨_, rfl⟩; replace H : (if 0 ≤ (ji10) then (if (ji10) < (l0.length : Int) then (if a2 = 0 then (none) else (some (Int.tmod (wrap64 ((wrap64 ((wrap64 ((wrap64 (rd l0 (ji7))) * 31)) + (wrap64 (rd l0 (ji10))))) + (wrap64 (Int.tdiv a1 (l0.length : Int))))) a2))) else (none)) else (none)) = some r := by first | (rw [hji10] at H; exact H) | (simp only [hji10] at H ⊢; exact H)
     by_cases c11 : 0 ≤ (ji10)
     ·rw [if_pos c11] at H
      have c11b0 : decide (0 ≤ (ji10)) = true := decide_eq_true c11; clear c11
      by_cases c12 : (ji10) < (l0.length : Int)
      ·rw [if_pos c12] at H
       have c12b0 : decide ((ji10) < (l0.length : Int)) = true := decide_eq_true c12; clear c12
       by_cases c13 : a2 = 0
       ·rw [if_pos c13] at H
        exact absurd H qa120
       ·rw [if_neg c13] at H
        have c13b0 : (a2 == 0) = false := beq_eq_false_iff_ne.mpr c13; have c13b1 : (a2 != 0) = true := bne_iff_ne.mpr c13; obtain rfl := Option.some.inj H; have p101 : 0 ≤ ((ji7) : Int) := qT qa2; have q101 : (ji7) < (l0.length : Int) := qT qa2; obtain ⟨ad101, e101, hx101_0⟩ := Kd.at_int HR0.out (ji7) p101 q101
        cases e101
        replace p101 := eq_true p101; replace q101 := eq_true q101; have p102 : 0 ≤ ((ji10) : Int) := qT qa2; have q102 : (ji10) < (l0.length : Int) := qT qa2; obtain ⟨ad102, e102, hx102_0⟩ := Kd.at_int HR0.out (ji10) p102 q102; obtain rfl : ad101 = ad102 := (by injection e102); replace p102 := eq_true p102; replace q102 := eq_true q102
        go_enter Try.func19, Try.ntmps19
        go_wp2
        repeat (go_quiet (fail); try go_wp2)
        go_ret
        exact ⟨by first | rfl | (simp; done) | (simp only [← hji7, ← hji10] <;> (first | rfl | simp)) | (simp [*]; done), qa68⟩
      ·rw [if_neg c12] at H
       exact absurd H qa120
     ·rw [if_neg c11] at H
      exact absurd H qa120
    ·rw [if_neg c9] at H
     exact absurd H qa120
   ·rw [if_neg c8] at H
    exact absurd H qa120

end Go.Proofs.Ytfiboooflebdpaa.Q
namespace Go.Proofs.Ytfiboooflebdpaa.Pure2
open Go.RowKit Go.Proofs.Ytfiboooflebdpaa.Q Go.Proofs.YtfiboooflebdpaaW.PrintWords Go.Proofs.YtfiboooflebdpaaW.PrintLast
set_option linter.unusedVariables false
set_option linter.unusedSimpArgs false
/-! choices out of bytes; how much a right store holds -/
theorem at_ok (code : List Int) (hc : CodeOK code) (n : Int) (h1 : 1 ≤ n) (h2 : n ≤ 1000000) : ∃ r, laws_at.f code 0 n = some r ∧ 0 ≤ r ∧ r < n := by
  unfold laws_at.f
  by_cases c1 : n ≤ 1
  · rw [if_pos c1]; exact ⟨0, rfl, qa34, qa34⟩
  · rw [if_neg c1]
    have pos : ∀ x : Int, 0 ≤ x → 0 ≤ Int.tmod x n ∧ Int.tmod x n < n := fun x hx => by
      rw [Int.tmod_eq_emod_of_nonneg hx]
      exact ⟨Int.emod_nonneg x qa34, Int.emod_lt_of_pos x qa34⟩
    by_cases c2 : (code.length : Int) = 0
    · have w : wrap64 (0 * 7) = 0 := by unfold wrap64; omega
      rw [if_pos c2, if_neg qa34, w]
      exact ⟨_, rfl, pos 0 qa34⟩
    · have hl := hc.1
      have w1 : wrap64 (0 + 1) = 1 := by unfold wrap64; omega
      have t0 : Int.tmod 0 (code.length : Int) = 0 := Int.zero_tmod _; have t1 : Int.tdiv 0 (code.length : Int) = 0 := Int.zero_tdiv _; rw [if_neg c2, w1, t0, t1, Int.tmod_eq_emod_of_nonneg (a := 1) qa34]; have e0 := Int.emod_nonneg 1 c2; have e1 := Int.emod_lt_of_pos 1 (show 0 < (code.length : Int) by omega); generalize (1 : Int) % (code.length : Int) = i at *; have r0 := code_rd code hc 0 qa34 qa34; have r1 := code_rd code hc i e0 e1; rw [if_pos qa34, if_pos qa34, if_pos e0, if_pos e1, if_neg qa34]; generalize rd code 0 = x at *; generalize rd code i = y at *; have w2 : wrap64 x = x := by unfold wrap64; omega
      have w3 : wrap64 y = y := by unfold wrap64; omega
      have w4 : wrap64 (x * 31) = x * 31 := by unfold wrap64; omega
      have w5 : wrap64 (x * 31 + y) = x * 31 + y := by unfold wrap64; omega
      have w6 : wrap64 0 = 0 := by unfold wrap64; omega
      have w7 : wrap64 (x * 31 + y + 0) = x * 31 + y := by unfold wrap64; omega
      rw [w2, w3, w4, w5, w6, w7]
      exact ⟨_, rfl, pos _ qa34⟩
theorem code_of (l : List Int) (h : l.length ≤ 9223372036854775807 ∧ ∀ x ∈ l, (Lit.int .u8 x).wf = true) (hl : l.length ≤ 1048576) : CodeOK l := ⟨hl, fun x hx => by
  have := h.2 x hx; simp only [Lit.wf, Bool.and_eq_true, decide_eq_true_eq] at this; have a : IntKind.u8.min = 0 := by kernel_rfl
  have b : IntKind.u8.max = 255 := by kernel_rfl
  rw [a, b] at this
  omega⟩
end Go.Proofs.Ytfiboooflebdpaa.Pure2
namespace Go.Proofs.Ytfiboooflebdpaa.Pure2
open Go.RowKit Go.Proofs.Ytfiboooflebdpaa.Q Go.Proofs.YtfiboooflebdpaaW.PrintWords Go.Proofs.YtfiboooflebdpaaW.PrintLast
set_option linter.unusedVariables false
set_option linter.unusedSimpArgs false
/-! what both write into a right store -/
theorem puts_of (code : List Int) (hc : CodeOK code) : ∃ l : List S58, Ev (fun k => spec_PutsOf.f k code) l ∧ l.length ≤ 4 ∧ ∀ p ∈ l, IsPut p := by
  obtain ⟨e0, h0⟩ := src_start code hc; obtain ⟨l, a', s', e, hl, hp, _⟩ := puts_ok code hc 0 _ _ qa34 h0; obtain ⟨K, e⟩ := ev_at e; refine ⟨l, ev_mk K fun k hk => ?_, hl, hp⟩
  unfold spec_PutsOf.f
  rw [e0, Option.bind_some, e k hk, Option.bind_some]
def wr (cs : List (List S43)) (now : Int) (l : List S58) : List (List S43) := if l = [] then cs else putsIn (now + 1) cs l
def wn (now : Int) (l : List S58) : Int := if l = [] then now else now + 1
theorem wr_store (cs : List (List S43)) (now : Int) (h : IsStore cs now) (hn : now < 100000) (l : List S58) (hp : ∀ p ∈ l, IsPut p) : IsStore (wr cs now l) (wn now l) := by
  unfold wr wn
  by_cases h0 : l = []
  · rw [if_pos h0, if_pos h0]; exact h
  · rw [if_neg h0, if_neg h0]; exact puts_store cs now h hn l hp
theorem wr_row (cs : List (List S43)) (now : Int) (h : IsStore cs now) (l : List S58) (hp : ∀ p ∈ l, IsPut p) (k : Nat) (hk : k < 16) : (wr cs now l).getD k [] = tl (wn now l) (cs.getD k []) (wrote l k none) := by
  unfold wr wn
  by_cases h0 : l = []
  · rw [if_pos h0, if_pos h0, h0]; rfl
  · rw [if_neg h0, if_neg h0]; exact puts_row cs now h l hp k hk
theorem same_ints (l : List Int) (hl : l.length ≤ 1048576) : Ev (fun k => laws_sameInts.f k l l) true := by
  obtain ⟨r, hr, he⟩ := count_loop l.length (fun k i => laws_sameInts.l0 k l l i) (fun _ r => r = true) ⟨true, rfl, ev_now ⟨0, fun k _ => by simp only [laws_sameInts.l0]; rw [if_neg qa34]⟩⟩
    (fun j hj r hr he => ⟨r, hr, ev_step ⟨0, fun k _ => by simp only [laws_sameInts.l0]; rw [if_pos qa34, if_pos qa34, if_pos qa34]; simp only [if_true]; rw [wsucc hj qa34]⟩ he⟩) 0 qa34
  subst hr
  exact ev_same ⟨0, fun k _ => by unfold laws_sameInts.f; rw [if_pos rfl]; rfl⟩ he
theorem impl_write_loop (l : List S58) (now : Int) (hl : l.length ≤ 400) (hp : ∀ j, j < l.length → 0 ≤ (l.getD j z58).f0 ∧ (l.getD j z58).f0 ≤ 15) : ∀ d j cs, j ≤ l.length → l.length - j = d → cs.length = 16 → (∀ x ∈ cs, x.length ≤ 200000 + j) →
    Ev (fun k => impl_Store_writeAll.l0 k l (l.length : Int) (j : Int) cs now) (putsIn now cs (l.drop j), now, now, 0) := by
  intro d
  induction d with
  | zero =>
    intro j cs hj hd hc hx; obtain rfl : j = l.length := by omega
    rw [List.drop_eq_nil_of_le (Nat.le_refl _)]
    exact ev_now ⟨0, fun k _ => by simp only [impl_Store_writeAll.l0]; rw [if_neg qa34]; rfl⟩
  | succ d ih =>
    intro j cs hj hd hc hx; have hjl : j < l.length := by omega
    have hk := hp j hjl; have hrd : rd_T58 l (j : Int) = l.getD j z58 := rfl; have hn := ih (j + 1) (putOne now cs (l.getD j z58)) qa34 qa34 (by rw [putOne_len]; exact hc) (putOne_rows now cs _ _ hx); rw [puts_next l j hjl]; refine ev_step ⟨0, fun k _ => ?_⟩ hn
    unfold putOne putRow
    generalize l.getD j z58 = p at *; have hrow : rd_L4 cs p.f0 = cs.getD p.f0.toNat [] := rfl; have hm := hx _ (row_mem cs p.f0.toNat qa34)
    conv => lhs; simp only [impl_Store_writeAll.l0]
    rw [if_pos qa34, if_pos qa34, if_pos qa34, hrd, if_pos qa34, if_pos qa34, hrow, wsucc hjl qa34]; generalize cs.getD p.f0.toNat [] = c at *
    by_cases h0 : 0 < c.length
    · have hw : wrap64 ((c.length : Int) - 1) = ((c.length - 1 : Nat) : Int) := by unfold wrap64; omega
      have hv : rd_T43 c ((c.length - 1 : Nat) : Int) = c.getD (c.length - 1) z43 := rfl; rw [hw, if_pos qa34, if_pos qa34, if_pos qa34, hv]
      by_cases ht : (c.getD (c.length - 1) z43).f0 = now
      · rw [if_pos ht, if_pos qa34, if_pos qa34, if_pos ⟨h0, ht⟩, Int.toNat_natCast]
      · rw [if_neg ht, if_pos qa34, if_neg (fun h => ht h.2)]
    · have hw : wrap64 ((c.length : Int) - 1) = -1 := by unfold wrap64; omega
      rw [hw, if_neg qa34, if_pos qa34, if_neg (fun h => h0 h.1)]
theorem write_impl_right (cs : List (List S43)) (now : Int) (h : IsStore cs now) (hn : now < 100000) (l : List S58) (hl : l.length ≤ 400) (hp : ∀ p ∈ l, IsPut p) :
    Ev (fun k => impl_WriteAll.f k cs now l) (wr cs now l, wn now l, wn now l, 0) := by
  have hpp := is_puts l hl hp; have hx := store_small cs now h; have hw : wrap64 (now + 1) = now + 1 := by have := h.2.1; unfold wrap64; omega
  obtain ⟨K2, e2⟩ := ev_at (ok_right cs now h hx); obtain ⟨c', e4, hc'⟩ := impl_puts l; rw [hc'.2 hpp] at e4; obtain ⟨K7, e7⟩ := ev_at (impl_copy cs now (by rw [h.1]; omega) hx)
  have hP' : impl_Put_74.f l = some true := by
    have hP : impl_Put_74.f l = some (decide ((l.length : Int) ≤ 4096)) := rfl; rw [hP, decide_eq_true qa34]
  by_cases h0 : l = []
  · refine ev_mk (K2 + K7) fun k hk => ?_
    unfold impl_WriteAll.f impl_Store_writeAll.f
    rw [hP', Option.bind_some, if_pos rfl, e2 k qa34, Option.bind_some, if_pos rfl, e4, Option.bind_some, if_pos rfl, e7 k qa34, Option.bind_some, if_neg qa34, if_pos (by rw [h0]; rfl), Option.bind_some]
    unfold wr wn
    rw [if_pos h0, if_pos h0]
  · obtain ⟨K8, e8⟩ := ev_at (impl_write_loop l (now + 1) hl (fun j hj => (hpp.2 j hj).1) l.length 0 cs qa34 qa34 h.1 (fun x hx' => by have := rows_le cs now h x hx'; omega))
    have hl0 : l.length ≠ 0 := fun e => h0 (List.length_eq_zero_iff.1 e)
    refine ev_mk (K2 + K7 + K8) fun k hk => ?_
    have e8' := e8 k qa34; rw [List.drop_zero] at e8'
    unfold impl_WriteAll.f impl_Store_writeAll.f
    rw [hP', Option.bind_some, if_pos rfl, e2 k qa34, Option.bind_some, if_pos rfl, e4, Option.bind_some, if_pos rfl, e7 k qa34, Option.bind_some, if_neg qa34, if_neg qa34]
    show ((impl_Store_writeAll.l0 k l (l.length : Int) 0 cs (wrap64 (now + 1))).bind _) = _
    rw [hw, show impl_Store_writeAll.l0 k l (l.length : Int) 0 cs (now + 1) = some (putsIn (now + 1) cs l, now + 1, now + 1, 0) from e8', Option.bind_some]
    unfold wr wn
    rw [if_neg h0, if_neg h0]
end Go.Proofs.Ytfiboooflebdpaa.Pure2
namespace Go.Proofs.Ytfiboooflebdpaa.Pure2
open Go.RowKit Go.Proofs.Ytfiboooflebdpaa.Q Go.Proofs.YtfiboooflebdpaaW.PrintWords Go.Proofs.YtfiboooflebdpaaW.PrintLast
set_option linter.unusedVariables false
set_option linter.unusedSimpArgs false
theorem spec_right (cs : List (List S43)) (now : Int) (h : IsStore cs now) : Ev (fun k => spec_StoreOK.f k cs now) true := by
  obtain ⟨b, e1, e2, hb⟩ := stores_agree cs now (store_small cs now h); rw [hb.2 h] at e1
  exact e1
theorem write_spec_right (cs : List (List S43)) (now : Int) (h : IsStore cs now) (hn : now < 100000) (l : List S58) (hl : l.length ≤ 400) (hp : ∀ p ∈ l, IsPut p) :
    Ev (fun k => spec_WriteAll.f k cs now l) (wr cs now l, wn now l, wn now l, 0) := by
  have hpp := is_puts l hl hp; have hs2 := wr_store cs now h hn l hp; obtain ⟨K1, e1⟩ := ev_at (spec_right cs now h); obtain ⟨c, e3, hc⟩ := spec_puts l qa34; rw [hc.2 hpp] at e3; obtain ⟨K3, e3⟩ := ev_at e3; obtain ⟨K4, e5⟩ := ev_at (own_write cs now h hn l hl hp); obtain ⟨K6, e6⟩ := ev_at (spec_own (wr cs now l) (wn now l) (by rw [hs2.1]; omega) (store_small _ _ hs2))
  have he : (if l = [] then (cs, now) else (putsIn (now + 1) cs l, now + 1)) = (wr cs now l, wn now l) := by
    unfold wr wn
    by_cases h0 : l = []
    · rw [if_pos h0, if_pos h0, if_pos h0]
    · rw [if_neg h0, if_neg h0, if_neg h0]
  rw [he] at e5; refine ev_mk (K1 + K3 + K4 + K6) fun k hk => ?_
  unfold spec_WriteAll.f
  rw [if_neg qa34, e1 k qa34, Option.bind_some, if_pos rfl, e3 k qa34, Option.bind_some, if_pos rfl, if_neg qa34, e5 k qa34, Option.bind_some, e6 k qa34, Option.bind_some]
/-- Whether a chain's last version is behind an hour. -/
def lastAfter (c : List S43) (ts : Int) : Bool := if 0 < c.length then decide ((c.getD (c.length - 1) z43).f0 > ts) else false
theorem changed_f (cs : List (List S43)) (now : Int) (h : IsStore cs now) (key : Nat) (hk : key < 16) (ts : Int) : impl_Store_changedSince.f cs now (key : Int) ts = some (lastAfter (cs.getD key []) ts) := by
  have hl := h.1; have hd : rd_L4 cs (key : Int) = cs.getD key [] := rfl; have hm := store_small cs now h _ (row_mem cs key qa34)
  unfold impl_Store_changedSince.f lastAfter
  rw [if_pos qa34, if_pos qa34, hd]; generalize cs.getD key [] = c at *
  by_cases h0 : 0 < c.length
  · have hw : wrap64 ((c.length : Int) - 1) = ((c.length - 1 : Nat) : Int) := by unfold wrap64; omega
    rw [if_pos qa34, hw, if_pos qa34, if_pos qa34, if_pos h0]
    rfl
  · rw [if_neg qa34, if_neg h0]
theorem changed_right (cs : List (List S43)) (now : Int) (h : IsStore cs now) (key : Nat) (hk : key < 16) (ts : Int) (h0 : 0 ≤ ts) (h1 : ts ≤ now) : Ev (fun k => impl_ChangedSince.f k cs now (key : Int) ts) (lastAfter (cs.getD key []) ts, 0) := by
  obtain ⟨K2, e2⟩ := ev_at (ok_right cs now h (store_small cs now h)); refine ev_mk K2 fun k hk' => ?_
  unfold impl_ChangedSince.f impl_isKey.f impl_Store_isHour.f
  rw [e2 k hk', impl_in, impl_in, changed_f cs now h key hk ts]; simp only [Option.bind_some, if_true, decide_eq_true (show (0 : Int) ≤ (key : Int) ∧ (key : Int) ≤ 15 by omega), decide_eq_true (show 0 ≤ ts ∧ ts ≤ now from ⟨h0, h1⟩)]
theorem lastAfter_tl (now h : Int) (c : List S43) (hc : ∀ x ∈ c, x.f0 ≤ now) (a : Option Int) (ha : a.isSome = true → now < h) : lastAfter (tl h c a) now = a.isSome := by
  cases a with
  | none =>
    show lastAfter c now = false
    unfold lastAfter
    by_cases h0 : 0 < c.length
    · rw [if_pos h0]
      have := hc _ (getD_mem c z43 (c.length - 1) qa34)
      exact decide_eq_false qa34
    · rw [if_neg h0]
  | some v =>
    have := ha rfl
    show lastAfter (c ++ [⟨h, v⟩]) now = true
    unfold lastAfter
    have e : (c ++ [(⟨h, v⟩ : S43)]).length - 1 = c.length := by simp
    have e2 : (c ++ [(⟨h, v⟩ : S43)]).getD c.length z43 = ⟨h, v⟩ := by rw [List.getD_eq_getElem?_getD]; simp
    rw [e, e2, if_pos qa120]
    exact decide_eq_true this
theorem wrote_take (l : List S58) (k j : Nat) (hj : j < l.length) : wrote (l.take (j + 1)) k none = if (l.getD j z58).f0 = (k : Int) then some (l.getD j z58).f1 else wrote (l.take j) k none := by
  rw [List.take_add_one, List.getElem?_eq_getElem hj, getD_at l _ j hj]
  show wrote (l.take j ++ [l[j]]) k none = _
  unfold wrote
  rw [List.foldl_append]
  rfl
/-- The keys that changed, told by both. -/
theorem keys_right (cs : List (List S43)) (now : Int) (h : IsStore cs now) (ts : Int) (h0 : 0 ≤ ts) (h1 : ts ≤ now) : ∃ r : List Int, Ev (fun k => spec_KeysSince.f k cs now ts) (r, 0) ∧ Ev (fun k => impl_KeysSince.f k cs now ts) (r, 0) ∧ r.length ≤ 16 := by
  have same : ∀ j : Nat, spec_l06Changed.f cs now (j : Int) ts = impl_Store_changedSince.f cs now (j : Int) ts := fun _ => rfl
  have key : ∀ (d j : Nat) (ys : List Int), j ≤ 16 → 16 - j = d → ys.length ≤ j → ∃ r : List Int, Ev (fun k => spec_KeysSince.l0 k ts ys (j : Int) cs now) (r, 0) ∧ Ev (fun k => impl_KeysSince.l0 k ts ys (j : Int) cs now) (r, 0) ∧ r.length ≤ 16 := by
    intro d
    induction d with
    | zero =>
      intro j ys hj hd hy; obtain rfl : j = 16 := by omega
      exact ⟨ys, ev_now ⟨0, fun k _ => by simp only [spec_KeysSince.l0]; rw [if_neg qa34]⟩, ev_now ⟨0, fun k _ => by simp only [impl_KeysSince.l0]; rw [if_neg qa34]⟩, hy⟩
    | succ d ih =>
      intro j ys hj hd hy; have g2 := changed_f cs now h j qa34 ts; have g1 := (same j).trans g2
      cases hc : lastAfter (cs.getD j []) ts with
      | true =>
        rw [hc] at g1 g2; obtain ⟨r, e1, e2, hr⟩ := ih (j + 1) (ys ++ [(j : Int)]) qa34 qa34 (by simp; omega); refine ⟨r, ev_step ⟨0, fun k _ => ?_⟩ e1, ev_step ⟨0, fun k _ => ?_⟩ e2, hr⟩
        · simp only [spec_KeysSince.l0]; rw [if_pos qa34, g1]; simp only [Option.bind_some, if_true]; rw [if_pos qa34, wsucc (n := 16) qa34 qa34]
        · simp only [impl_KeysSince.l0]; rw [if_pos qa34, g2]; simp only [Option.bind_some, if_true]; rw [if_pos qa34, wsucc (n := 16) qa34 qa34]
      | false =>
        rw [hc] at g1 g2; obtain ⟨r, e1, e2, hr⟩ := ih (j + 1) ys qa34 qa34 qa34; refine ⟨r, ev_step ⟨0, fun k _ => ?_⟩ e1, ev_step ⟨0, fun k _ => ?_⟩ e2, hr⟩
        · simp only [spec_KeysSince.l0]; rw [if_pos qa34, g1]; simp only [Option.bind_some]; rw [if_neg qa120, wsucc (n := 16) qa34 qa34]
        · simp only [impl_KeysSince.l0]; rw [if_pos qa34, g2]; simp only [Option.bind_some]; rw [if_neg qa120, wsucc (n := 16) qa34 qa34]
  obtain ⟨K1, e1⟩ := ev_at (spec_right cs now h); obtain ⟨K2, e2⟩ := ev_at (ok_right cs now h (store_small cs now h)); obtain ⟨r, f1, f2, hr⟩ := key 16 0 [] qa34 qa34 qa120; obtain ⟨K3, h3⟩ := ev_at f1; obtain ⟨K4, h4⟩ := ev_at f2; refine ⟨r, ev_mk (K1 + K3) fun k hk => ?_, ev_mk (K2 + K4) fun k hk => ?_, hr⟩
  · unfold spec_KeysSince.f spec_l06Ask.f; rw [e1 k qa34, spec_in, spec_in]
    simp only [Option.bind_some, if_true, decide_eq_true (show 0 ≤ ts ∧ ts ≤ now from ⟨h0, h1⟩), show decide ((0 : Int) ≤ 0 ∧ (0 : Int) ≤ 15) = true by decide]
    exact h3 k qa34
  · unfold impl_KeysSince.f impl_Store_isHour.f; rw [e2 k qa34, impl_in]
    simp only [Option.bind_some, if_true, decide_eq_true (show 0 ≤ ts ∧ ts ≤ now from ⟨h0, h1⟩)]
    exact h4 k qa34
theorem same_right (cs ds : List (List S43)) (na nb : Int) (ha : IsStore cs na) (hb : IsStore ds nb) (hxa : ∀ x ∈ cs, x.length ≤ 1048576) (hxb : ∀ x ∈ ds, x.length ≤ 1048576) (he : ∀ i, i < 16 → vl (cs.getD i []) na = vl (ds.getD i []) nb) :
    Ev (fun k => impl_SameAt.f k cs na ds nb) (true, 0) := by
  have key : ∀ (d j : Nat), j ≤ 16 → 16 - j = d → Ev (fun k => impl_sameNow.l0 k (j : Int) cs na ds nb) true := by
    intro d
    induction d with
    | zero =>
      intro j hj hd; obtain rfl : j = 16 := by omega
      exact ev_now ⟨0, fun k _ => by simp only [impl_sameNow.l0]; rw [if_neg qa34]⟩
    | succ d ih =>
      intro j hj hd; have g2 := (read_agree cs na (j : Int) na ha.1 qa34 qa34 hxa).2; have f2 := (read_agree ds nb (j : Int) nb hb.1 qa34 qa34 hxb).2
      have hv : bw.val (rd_L4 cs (j : Int)) na = bw.val (rd_L4 ds (j : Int)) nb := by
        have hd1 : rd_L4 cs (j : Int) = cs.getD j [] := rfl; have hd2 : rd_L4 ds (j : Int) = ds.getD j [] := rfl; rw [hd1, hd2, val_vl, val_vl]
        exact he j qa34
      refine ev_step ⟨0, fun k _ => ?_⟩ (ih (j + 1) qa34 qa34); simp only [impl_sameNow.l0]; rw [if_pos qa34, g2]; simp only [Option.bind_some]; rw [f2]; simp only [Option.bind_some]; rw [if_pos hv, wsucc (n := 16) qa34 qa34]
  obtain ⟨K1, h1⟩ := ev_at (ok_right cs na ha hxa); obtain ⟨K2, h2⟩ := ev_at (ok_right ds nb hb hxb); obtain ⟨K3, h3⟩ := ev_at (key 16 0 qa34 qa34); refine ev_mk (K1 + K2 + K3) fun k hk => ?_
  have h3' : impl_sameNow.l0 k 0 cs na ds nb = some true := h3 k qa34
  unfold impl_SameAt.f impl_sameNow.f
  rw [h1 k qa34]; simp only [Option.bind_some, if_true]; rw [h2 k qa34]; simp only [Option.bind_some, if_true]; rw [h3']; rfl
/-! one store is the same as itself, told by the laws -/
theorem same_store (cs : List (List S43)) (now : Int) (hl : cs.length = 16) (hx : ∀ x ∈ cs, x.length ≤ 1048576) : Ev (fun k => laws_sameStore.f k cs now cs now) true := by
  have key : ∀ (d j : Nat), j ≤ 16 → 16 - j = d → Ev (fun k => laws_sameStore.l0 k (j : Int) cs now cs now) true := by
    intro d
    induction d with
    | zero =>
      intro j hj hd; obtain rfl : j = 16 := by omega
      exact ev_now ⟨0, fun k _ => by simp only [laws_sameStore.l0]; rw [if_neg qa34]⟩
    | succ d ih =>
      intro j hj hd; have hn := ih (j + 1) qa34 qa34; have hd' : rd_L4 cs (j : Int) = cs.getD j [] := rfl; have hm := hx _ (row_mem cs j qa34)
      have inner : ∀ (e i : Nat), i ≤ (cs.getD j []).length → (cs.getD j []).length - i = e → Ev (fun k => laws_sameStore.l1 k (j : Int) (i : Int) cs now cs now) true := by
        intro e
        induction e with
        | zero =>
          intro i hi he; refine ev_step ⟨0, fun k _ => ?_⟩ hn; simp only [laws_sameStore.l1]; rw [if_pos qa34, if_pos qa34, hd', if_neg qa34, wsucc (n := 16) qa34 qa34]
        | succ e ih2 =>
          intro i hi he; refine ev_step ⟨0, fun k _ => ?_⟩ (ih2 (i + 1) qa34 qa34)
          conv => lhs; simp only [laws_sameStore.l1]
          rw [if_pos qa34, if_pos qa34, hd', if_pos qa34, if_pos qa34, if_pos qa34, if_pos qa34, if_neg qa120, wsucc (n := (cs.getD j []).length) qa34 qa34]
      refine ev_step ⟨0, fun k _ => ?_⟩ (inner _ 0 qa34 rfl)
      conv => lhs; simp only [laws_sameStore.l0]
      rw [if_pos qa34, if_pos qa34, if_pos qa34]; simp only [if_true]
      rfl
  refine ev_step (f := fun k => laws_sameStore.l0 k 0 cs now cs now) ⟨0, fun k _ => ?_⟩ (key 16 0 qa34 qa34)
  unfold laws_sameStore.f
  rw [if_pos rfl]; simp only [laws_sameStore.j0, bne_self_eq_false]; rw [if_neg qa120]
end Go.Proofs.Ytfiboooflebdpaa.Pure2
namespace Go.Proofs.Ytfiboooflebdpaa.Pure2
open Go.RowKit Go.Proofs.Ytfiboooflebdpaa.Q Go.Proofs.YtfiboooflebdpaaW.PrintWords Go.Proofs.YtfiboooflebdpaaW.PrintLast
set_option linter.unusedVariables false
set_option linter.unusedSimpArgs false
theorem store_inner (cs : List (List S43)) (now : Int) (h : IsStore cs now) (hn : now < 100000) (l : List S58) (hl : l.length ≤ 400) (hp : ∀ p ∈ l, IsPut p) (i : Nat) (hi : i < 16) (v1 v2 v3 : Int)
    (g1 : v1 = (wrote l i none).getD v3) (g2 : v2 = v3) (R : Ev (fun k => laws_FnStore.l0 k l (wn now l) ((i + 1 : Nat) : Int) cs now (wr cs now l) (wn now l)) true) :
    ∀ (d j : Nat), j ≤ l.length → l.length - j = d → Ev (fun k => laws_FnStore.l1 k l (wn now l) (i : Int) v1 0 v2 0 v3 0 ((wrote (l.take j) i none).getD v3) (wrote (l.take j) i none).isSome (j : Int) cs now (wr cs now l) (wn now l)) true := by
  have hs := wr_store cs now h hn l hp
  have hw : now ≤ wn now l := by unfold wn; split <;> omega
  have hi1 : ∀ x ∈ cs.getD i [], x.f0 ≤ now := fun x hx => by have := rows_lt cs now h i hi x hx; omega
  have hc := changed_right (wr cs now l) (wn now l) hs i hi now h.2.1 hw
  have hsm : (wrote l i none).isSome = true → now < wn now l := by
    intro hh
    unfold wn
    by_cases h0 : l = []
    · rw [h0] at hh; exact absurd (show false = true from hh) qa69
    · rw [if_neg h0]; omega
  rw [wr_row cs now h l hp i hi, lastAfter_tl now (wn now l) _ hi1 _ hsm] at hc
  obtain ⟨K, hc⟩ := ev_at hc
  intro d
  induction d with
  | zero =>
    intro j hj hd
    obtain rfl : j = l.length := by omega
    refine ev_step ⟨K, fun k hk => ?_⟩ R
    conv => lhs; simp only [laws_FnStore.l1]
    rw [if_neg qa34, hc k hk, Option.bind_some, List.take_length]
    simp only [if_true]
    rw [if_pos g1, if_pos g2, if_neg qa120, wsucc (n := 16) hi qa34]
  | succ d ih =>
    intro j hj hd
    have hrd : rd_T58 l (j : Int) = l.getD j z58 := rfl
    have e := ih (j + 1) qa34 qa34
    rw [wrote_take l i j qa34] at e
    refine ev_step ⟨0, fun k _ => ?_⟩ e
    conv => lhs; simp only [laws_FnStore.l1]
    rw [if_pos qa34, if_pos qa34, hrd, wsucc (n := l.length) qa34 qa34]
    by_cases c : (l.getD j z58).f0 = (i : Int)
    · rw [if_pos c, if_pos c]; rfl
    · rw [if_neg c, if_neg c]
theorem store_keys (cs : List (List S43)) (now : Int) (h : IsStore cs now) (hn : now < 100000) (l : List S58) (hl : l.length ≤ 400) (hp : ∀ p ∈ l, IsPut p) :
    ∀ (d j : Nat), j ≤ 16 → 16 - j = d → Ev (fun k => laws_FnStore.l0 k l (wn now l) (j : Int) cs now (wr cs now l) (wn now l)) true := by
  have hs := wr_store cs now h hn l hp
  have h0 := h.2.1
  have hw : now ≤ wn now l := by unfold wn; split <;> omega
  have hpos : (decide ((l.length : Int) > 0) == decide (wn now l > now)) = true := by
    unfold wn
    by_cases e : l = []
    · rw [if_pos e, e]; simp
    · have : 0 < l.length := List.length_pos_iff.2 e
      rw [if_neg e, decide_eq_true qa34, decide_eq_true qa34]; rfl
  intro d
  induction d with
  | zero =>
    intro j hj hd
    obtain rfl : j = 16 := by omega
    obtain ⟨r, e2, e3, hr⟩ := keys_right (wr cs now l) (wn now l) hs now h0 hw
    obtain ⟨K1, e1⟩ := ev_at (same_right cs cs now now h h (store_small cs now h) (store_small cs now h) (fun _ _ => rfl))
    obtain ⟨K2, e2⟩ := ev_at e2
    obtain ⟨K3, e3⟩ := ev_at e3
    obtain ⟨K4, e4⟩ := ev_at (same_ints r qa34)
    refine ev_now ⟨K1 + K2 + K3 + K4, fun k hk => ?_⟩
    simp only [laws_FnStore.l0]
    rw [if_neg qa34, e1 k qa34, Option.bind_some, e3 k qa34, Option.bind_some, e2 k qa34, Option.bind_some, if_pos rfl, if_pos rfl, if_pos hpos, if_pos rfl, e4 k qa34, Option.bind_some]
  | succ d ih =>
    intro j hj hd
    have hj16 : j < 16 := by omega
    have hi1 : ∀ x ∈ cs.getD j [], x.f0 ≤ now := fun x hx => by have := rows_lt cs now h j hj16 x hx; omega
    have e1 := read_right (wr cs now l) (wn now l) hs (store_small _ _ hs) j (wn now l) hj16 qa34 qa34
    have e2 := read_right (wr cs now l) (wn now l) hs (store_small _ _ hs) j now hj16 h0 hw
    have e3 := read_right cs now h (store_small cs now h) j now hj16 h0 qa34
    rw [wr_row cs now h l hp j hj16, vl_tl] at e1 e2
    have g1 : (match wrote l j none with | some v => if wn now l ≤ wn now l then v else vl (cs.getD j []) (wn now l) | none => vl (cs.getD j []) (wn now l)) = (wrote l j none).getD (vl (cs.getD j []) now) := by
      cases wrote l j none with
      | none => exact vl_same _ _ _ (fun x hx => by have := hi1 x hx; omega) hi1
      | some v => exact if_pos (Int.le_refl _)
    have g2 : (match wrote l j none with | some v => if wn now l ≤ now then v else vl (cs.getD j []) now | none => vl (cs.getD j []) now) = vl (cs.getD j []) now := by
      cases hc : wrote l j none with
      | none => rfl
      | some v =>
        refine if_neg ?_
        have : l ≠ [] := fun e => by rw [e] at hc; cases hc
        unfold wn
        rw [if_neg this]
        omega
    obtain ⟨K1, e1⟩ := ev_at e1
    obtain ⟨K2, e2⟩ := ev_at e2
    obtain ⟨K3, e3⟩ := ev_at e3
    refine ev_step ⟨K1 + K2 + K3, fun k hk => ?_⟩ (store_inner cs now h hn l hl hp j hj16 _ _ _ g1 g2 (ih (j + 1) qa34 qa34) l.length 0 qa34 qa34)
    conv => lhs; simp only [laws_FnStore.l0]
    rw [if_pos qa34, e1 k qa34, Option.bind_some, e2 k qa34, Option.bind_some, e3 k qa34, Option.bind_some]
    rfl
theorem FnStore : laws_FnStore.Pure2 := by
  intro y0 y1 hy0 hy1
  refine Ev.rounds (r := true) ?_
  have skip : Ev (fun k => laws_FnStore.j0 k y0 y1 true) true := ev_now ⟨0, fun k _ => by simp only [laws_FnStore.j0]; exact if_pos trivial⟩
  by_cases c0 : (y0.length : Int) > 1048576
  · exact ev_same ⟨0, fun k _ => by unfold laws_FnStore.f; rw [if_pos c0]⟩ skip
  by_cases c1 : (y1.length : Int) > 1048576
  · exact ev_same ⟨0, fun k _ => by unfold laws_FnStore.f; rw [if_neg c0, decide_eq_true c1]⟩ skip
  refine ev_same (f := fun k => laws_FnStore.j0 k y0 y1 false) ⟨0, fun k _ => by unfold laws_FnStore.f; rw [if_neg c0, decide_eq_false c1]⟩ ?_
  obtain ⟨cs, now, e1, h, hn⟩ := store_of y0 (code_of y0 hy0 qa34)
  obtain ⟨l, e2, hl, hp⟩ := puts_of y1 (code_of y1 hy1 qa34)
  have hs := wr_store cs now h qa34 l hp
  have e3 := write_spec_right cs now h qa34 l qa34 hp
  have e4 := write_impl_right cs now h qa34 l qa34 hp
  obtain ⟨K1, e1⟩ := ev_at e1
  obtain ⟨K2, e2⟩ := ev_at e2
  obtain ⟨K3, e3⟩ := ev_at e3
  obtain ⟨K4, e4⟩ := ev_at e4
  obtain ⟨K5, e5⟩ := ev_at (same_store _ (wn now l) hs.1 (store_small _ _ hs))
  obtain ⟨K6, e6⟩ := ev_at (ok_right _ _ hs (store_small _ _ hs))
  obtain ⟨K7, e7⟩ := ev_at (ok_right _ _ h (store_small _ _ h))
  have e9 : Ev (fun k => laws_FnStore.j1 k l (wn now l) false cs now (wr cs now l) (wn now l)) true := by
    refine ev_step ⟨0, fun k _ => ?_⟩ (store_keys cs now h qa34 l qa34 hp 16 0 qa34 qa34)
    simp only [laws_FnStore.j1]
    rw [if_neg qa120]; rfl
  refine ev_step ⟨K1 + K2 + K3 + K4 + K5 + K6 + K7, fun k hk => ?_⟩ e9
  conv => lhs; simp only [laws_FnStore.j0]
  rw [if_neg qa120, e1 k qa34, Option.bind_some, e2 k qa34, Option.bind_some, e4 k qa34, Option.bind_some, e3 k qa34, Option.bind_some, if_pos rfl, e5 k qa34, Option.bind_some, if_pos rfl, if_pos rfl, e6 k qa34, Option.bind_some, if_pos rfl, e7 k qa34, Option.bind_some]
  rfl
end Go.Proofs.Ytfiboooflebdpaa.Pure2
