/- Texts of the claim on FnLex, gathered by a program of this session: what the program's functions compute (proved by walks), and the plain part. -/
import Derived.Test.YtonofmbpjjckjaaGreatDoorKFnLexb
import Derived.Test.YtonofmbpjjckjaaGreatDoorOpens
import Derived.KernelRfl
namespace Go.Proofs.YtonofmbpjjckjaaGreatDoor.Q
open Go.RowKit Go.Proofs.YtonofmbpjjckjaaGreatDoorW.PrintWords Go.Proofs.YtonofmbpjjckjaaGreatDoorW.PrintLast Go.Proofs.YtonofmbpjjckjaaGreatDoorW.PrintMore
attribute [local go_sem] max2_int min2_int max_two min_two max_three min_three max_four min_four   -- for this text's walks alone
set_option linter.unusedVariables false
set_option linter.unusedSimpArgs false

/-! ### impl_lex: function 26 -/
def impl_lex.l0 : Nat → ByteArray → List (S29) → Option ((List (S29)) × Int)
  | 0, _, _ => none
  | k + 1, x0, x4 => if x0.toList = ([] : List UInt8) then (some (x4, 0)) else ((impl_tokenAt.f k x0).bind fun bt105 => (if bt105.2.2.2.2 = true then (if (x4.length : Int) = 4000 then (some (([] : List (S29)), 6)) else (if x4.length < 4398046511104 then (if 0 ≤ bt105.2.2.2.1 then (if bt105.2.2.2.1 ≤ (x0.size : Int) then ((impl_passed.f k (x0.extract (bt105.2.2.2.1 : Int).toNat x0.size)).bind fun t114 => (if 0 ≤ t114 then (if t114 ≤ ((x0.extract (bt105.2.2.2.1 : Int).toNat x0.size).size : Int) then (impl_lex.l0 k ((x0.extract (bt105.2.2.2.1 : Int).toNat x0.size).extract (t114 : Int).toNat (x0.extract (bt105.2.2.2.1 : Int).toNat x0.size).size) (x4 ++ [(⟨bt105.1, bt105.2.1, bt105.2.2.1⟩ : S29)])) else (none)) else (none))) else (none)) else (none)) else (none))) else (some (([] : List (S29)), 3))))
def impl_lex.f (k : Nat) (a0 : ByteArray) : Option ((List (S29)) × Int) := (impl_passed.f k a0).bind fun t104 => (if 0 ≤ t104 then (if t104 ≤ (a0.size : Int) then (impl_lex.l0 k (a0.extract (t104 : Int).toNat a0.size) (([] : List (S29)))) else (none)) else (none))
def impl_lex.T10 : Bool × List (List Nat × List Nat) := (true, [([], []), ([], []), ([1], [1]), ([0, 2], [0, 2]), ([], []), ([], []), ([4, 5], [4, 5]), ([3, 3, 0, 1, 2, 3], [0, 3]), ([6, 7, 0, 1, 2, 3, 4, 5, 6, 7], [4, 6])])
def impl_lex.B10 : List Nat := [0, 0, 2, 7, 0, 0, 48, 15, 255]
theorem impl_lex.tab10 : rtab .any (opsOf Tryz.f26 10) = impl_lex.T10 := by kernel_rfl
theorem impl_lex.bits10 : waitsOk impl_lex.T10.2 impl_lex.B10 = true := by kernel_rfl
def impl_lex.y0 : Array Bool := #[false, false, false, false, false, false, false, false, false]
def impl_lex.y1 : Array Bool := #[true, false, false, false, false, false, false, false, false]
def impl_lex.y2 : Array Bool := #[true, false, false, false, true, false, false, false, false]
def impl_lex.y3 : Array Bool := #[true, false, false, false, true, true, false, false, false]
def impl_lex.y4 : Array Bool := #[true, false, false, false, true, true, true, false, false]
def impl_lex.y5 : Array Bool := #[true, true, false, false, true, true, true, false, false]
def impl_lex.y6 : Array Bool := #[true, true, true, false, true, true, true, false, false]
def impl_lex.y7 : Array Bool := #[true, true, true, true, true, true, true, false, false]
def impl_lex.y8 : Array Bool := #[true, true, true, true, true, true, true, true, false]
def impl_lex.y9 : Array Bool := #[true, true, true, true, true, true, true, true, true]
set_option maxHeartbeats 8000000 in
set_option maxRecDepth 100000 in
theorem impl_lex.calls (k : Nat) (a0 : ByteArray) (r1 : List (S29)) (r2 : Int) (w : World) (h : impl_lex.f k a0 = some (r1, r2)) (htab : Tb w) :
    Calls Tryz.prog 26 #[.string a0] w fun e w' => ∃ v0_ : Value, e = .returned (.tuple #[v0_, .int .i64 r2]) ∧ Kd.R k29 29 w' w.heap.size (fun _ => True) v0_ r1 ∧ Below w.heap.size w w' := by
  have HTAB := Aside0.mk htab
  clear htab
  have hu29 := Tryz.underlying29
  have HB := Aside0.mk (Below.refl w.heap.size w)
  have H : ((impl_passed.f k a0).bind fun t104 => (if 0 ≤ t104 then (if t104 ≤ (a0.size : Int) then (impl_lex.l0 k (a0.extract (t104 : Int).toNat a0.size) (([] : List (S29)))) else (none)) else (none))) = some (r1, r2) := h
  clear h
  obtain ⟨y101, hy101⟩ : ∃ y_ : List (S29), y_ = (([] : List (S29))) := ⟨_, rfl⟩
  replace H : ((impl_passed.f k a0).bind fun t104 => (if 0 ≤ t104 then (if t104 ≤ (a0.size : Int) then (impl_lex.l0 k (a0.extract (t104 : Int).toNat a0.size) y101) else (none)) else (none))) = some (r1, r2) := by first | (rw [hy101]; with_reducible exact H) | (have H2_ := (Option.bind_some _ _).symm.trans H; rw [hy101]; with_reducible exact H2_) | (have H2_ := (Option.bind_some _ _).symm.trans H; with_reducible exact H2_) | with_reducible exact H | (rw [hy101]; exact H) | exact H
  have Ny101 := Aside0.mk hy101
  clear hy101
  replace H := Option.bind_eq_some_iff.mp H
  obtain ⟨t104, A20, H⟩ := H
  replace H : (if 0 ≤ t104 then (if t104 ≤ (a0.size : Int) then (impl_lex.l0 k (a0.extract (t104 : Int).toNat a0.size) y101) else (none)) else (none)) = some (r1, r2) := H
  have A2 := Aside0.mk A20
  clear A20
  by_cases c3 : 0 ≤ t104
  · rw [if_pos c3] at H
    have c3b0 := eq_true c3
    have c3b1 : decide (0 ≤ t104) = true := decide_eq_true c3
    clear c3
    by_cases c4 : t104 ≤ (a0.size : Int)
    · rw [if_pos c4] at H
      have c4b0 := eq_true c4
      have c4b1 : decide (t104 ≤ (a0.size : Int)) = true := decide_eq_true c4
      clear c4
      have H' := Aside0.mk H
      clear H
      go_enter Tryz.func26, Tryz.ntmps26
      go_wp2_with (first | ((with_reducible refine gate_dst (N := 8) rfl ?_); refine Kd.R_lit k29 _ 29 ?hg (N := 8) ?hd (xs := ([] : List (S29))) (inner := []) (ok := fun _ => True) (okp := fun _ => True) ?hr ?hp (fun _ hk => hk) trivial (Below.refl _ _) (Nat.le_refl _) (by simp) ?_; (case hd => rfl); (case hg => rfl); (case hr => first | (go_simp; done) | (go_simp; rfl)); (case hp => exact (Reps.none _ _)); intro v102 w5 ho6 hb hg_ hnew_; clear hg_ hnew_; (first | rw [← Ny101.out] at ho6 | (simp only [Int.reduceToNat] at ho6; rw [← Ny101.out] at ho6)); have n0_ := Aside0.mk (Kd.R_lower ho6 (below_size (by repeat (first | (with_reducible first | exact HB.out | apply below_alloc | apply pw_below_drewN | apply below_drew1) | exact HB.out)))); have n1_ := Aside0.mk (below_step (by repeat (first | (with_reducible first | exact HB.out | apply below_alloc | apply pw_below_drewN | apply below_drew1) | exact HB.out)) hb); clear HB; have HO103 := n0_; have HB := n1_; clear n0_ n1_; clear hb ho6) | ((with_reducible refine gate_callee (f := 42) rfl ?_); refine goesL_ (some 11) rfl rfl Tryz.func42 (by kernel_rfl) rfl #[.string a0] rfl (by (try simp only [List.map_toArray, List.map_cons, List.map_nil]); first | done | rfl | (simp only [List.length_drop, List.length_take]; rfl)) ?_; (with_reducible refine (impl_passed.calls k a0 t104 _ A2.out).mono ?_); rintro e w' ⟨rfl, ⟨nd, rfl⟩⟩; refine ⟨_, rfl, ?_⟩))
      go_loopg [0, 4] k (fun kq v0 v4 w' => ∃ (x0_1 : ByteArray) (x4_1 : List (S29)), v0 = .string x0_1 ∧ Aside0 (impl_lex.l0 kq x0_1 x4_1 = some (r1, r2)) ∧ Aside0 (kq ≤ k) ∧ Aside0 (Kd.R k29 29 w' w.heap.size (fun _ => True) v4 x4_1) ∧ Aside0 (Below w.heap.size w w'))
      case atStart => exact ⟨(a0.extract (t104 : Int).toNat a0.size), (y101), (by first | rfl | (simp; done) | (simp [*]; done)), H', ⟨Nat.le_refl _⟩, ⟨by (with_reducible repeat (first | apply Kd.R_alloc | apply Kd.R_drewN | apply Kd.R_drew)); exact HO103.out⟩, ⟨by repeat (first | (with_reducible first | exact HB.out | apply below_alloc | apply pw_below_drewN | apply below_drew1) | exact HB.out)⟩⟩
      case round =>
        clear H'
        try clear c2
        try clear p2
        try clear c3
        try clear c3b0
        try clear c3b1
        try clear c4
        try clear c4b0
        try clear c4b1
        obtain ⟨x0_1, x4_1, rfl, HA, HK1, HO_4, HB⟩ := hrel
        cases gk with
        | zero => exact absurd HA.out (by simp [impl_lex.l0])
        | succ k1 =>
          have H := HA.out
          clear HA
          simp only [impl_lex.l0] at H
          by_cases c7 : x0_1.toList = ([] : List UInt8)
          · rw [if_pos c7] at H
            have c7b0 : (x0_1.toList == ([] : List UInt8)) = true := beq_iff_eq.mpr c7
            have c7b1 : (x0_1.toList != ([] : List UInt8)) = false := bne_eq_false_iff_eq.mpr c7
            clear c7
            simp only [Option.some.injEq, Prod.mk.injEq] at H
            obtain ⟨rfl, rfl⟩ := H
            go_wp2
            go_ret2
            exact ⟨_, by first | rfl | (simp [errW_none, errW_some] <;> rfl) | (simp [*, errW_none, errW_some] <;> rfl), by (with_reducible repeat (first | apply Kd.R_alloc | apply Kd.R_drewN | apply Kd.R_drew)); exact HO_4.out, by repeat (first | (with_reducible first | exact HB.out | apply below_alloc | apply pw_below_drewN | apply below_drew1) | exact HB.out)⟩
          · rw [if_neg c7] at H
            have c7b0 : (x0_1.toList == ([] : List UInt8)) = false := beq_eq_false_iff_ne.mpr c7
            have c7b1 : (x0_1.toList != ([] : List UInt8)) = true := bne_iff_ne.mpr c7
            replace H := Option.bind_eq_some_iff.mp H
            obtain ⟨⟨t105, t106, t107, t108, t109⟩, A80, H⟩ := H
            replace H : (if t109 = true then (if (x4_1.length : Int) = 4000 then (some (([] : List (S29)), 6)) else (if x4_1.length < 4398046511104 then (if 0 ≤ t108 then (if t108 ≤ (x0_1.size : Int) then ((impl_passed.f k1 (x0_1.extract (t108 : Int).toNat x0_1.size)).bind fun t114 => (if 0 ≤ t114 then (if t114 ≤ ((x0_1.extract (t108 : Int).toNat x0_1.size).size : Int) then (impl_lex.l0 k1 ((x0_1.extract (t108 : Int).toNat x0_1.size).extract (t114 : Int).toNat (x0_1.extract (t108 : Int).toNat x0_1.size).size) (x4_1 ++ [(⟨t105, t106, t107⟩ : S29)])) else (none)) else (none))) else (none)) else (none)) else (none))) else (some (([] : List (S29)), 3))) = some (r1, r2) := H
            have A8 := Aside0.mk A80
            clear A80
            by_cases c9 : t109 = true
            · subst c9
              have H1 : (if (x4_1.length : Int) = 4000 then (some (([] : List (S29)), 6)) else (if x4_1.length < 4398046511104 then (if 0 ≤ t108 then (if t108 ≤ (x0_1.size : Int) then ((impl_passed.f k1 (x0_1.extract (t108 : Int).toNat x0_1.size)).bind fun t114 => (if 0 ≤ t114 then (if t114 ≤ ((x0_1.extract (t108 : Int).toNat x0_1.size).size : Int) then (impl_lex.l0 k1 ((x0_1.extract (t108 : Int).toNat x0_1.size).extract (t114 : Int).toNat (x0_1.extract (t108 : Int).toNat x0_1.size).size) (x4_1 ++ [(⟨t105, t106, t107⟩ : S29)])) else (none)) else (none))) else (none)) else (none)) else (none))) = some (r1, r2) := by rw [if_pos rfl] at H; exact H
              clear H
              have H := H1
              clear H1
              by_cases c10 : (x4_1.length : Int) = 4000
              · rw [if_pos c10] at H
                have c10b0 : ((x4_1.length : Int) == 4000) = true := beq_iff_eq.mpr c10
                have c10b1 : ((x4_1.length : Int) != 4000) = false := bne_eq_false_iff_eq.mpr c10
                clear c10
                simp only [Option.some.injEq, Prod.mk.injEq] at H
                obtain ⟨rfl, rfl⟩ := H
                go_wp2_with (first | ((with_reducible refine gate_callee (f := 43) rfl ?_); refine goesL_ (some 21) rfl rfl Tryz.func43 (by kernel_rfl) rfl #[.string x0_1] rfl (by (try simp only [List.map_toArray, List.map_cons, List.map_nil]); first | done | rfl | (simp only [List.length_drop, List.length_take]; rfl)) ?_; (with_reducible refine (impl_tokenAt.calls k1 x0_1 t105 t106 t107 t108 true _ A8.out (by first | exact tb_below HTAB.out HB.out | exact tb_below HTAB.out (below_step HB.out HX.out) | (refine tb_below HTAB.out ?_; repeat (first | (with_reducible first | exact HB.out | apply below_alloc | apply pw_below_drewN | apply below_drew1  | refine below_set ?_ GE110.out) | exact HB.out)))).mono ?_); rintro e w11 ⟨rfl, hb⟩; refine ⟨_, rfl, ?_⟩; have n0_ := Aside0.mk (Kd.R_below (by (with_reducible repeat (first | apply Kd.R_alloc | apply Kd.R_drewN | apply Kd.R_drew)); exact HO_4.out) hb); have n1_ := Aside0.mk (below_step (by repeat (first | (with_reducible first | exact HB.out | apply below_alloc | apply pw_below_drewN | apply below_drew1) | exact HB.out)) hb); clear HO_4; clear HB; have HO_4 := n0_; have HB := n1_; clear n0_ n1_; (try clear hb); (try clear hb2); (try clear hk); (try clear hi)) | ((with_reducible refine gate_dst (N := 5) rfl ?_); refine box_event ?hg (N := 5) ?hd (cs := #[.int .i64 0, .int .i64 0, .string (⟨#[]⟩ : ByteArray)]) (t := 29) ?hr ?_; (case hd => rfl); (case hg => rfl); (case hr => first | (go_simp; done) | (go_simp; rfl)); intro gb110 hg w12 hbox hb; have n0_ := Aside0.mk (Kd.R_below (Kd.R_elderB (by (with_reducible repeat (first | apply Kd.R_alloc | apply Kd.R_drewN | apply Kd.R_drew)); exact HO_4.out) gb110 (Nat.le_of_eq hg.symm)) hb); have n1_ := Aside0.mk (below_step (by repeat (first | (with_reducible first | exact HB.out | apply below_alloc | apply pw_below_drewN | apply below_drew1) | exact HB.out)) hb); have n2_ := Aside0.mk (hbox); have n3_ := Aside0.mk ((by rw [hg]; exact (below_size (by repeat (first | (with_reducible first | exact HB.out | apply below_alloc | apply pw_below_drewN | apply below_drew1) | exact HB.out))) : w.heap.size ≤ gb110)); have n4_ := Aside0.mk ((by rw [hg]; exact (below_size (by repeat (first | (with_reducible first | exact HB.out | apply below_alloc | apply pw_below_drewN | apply below_drew1) | exact HB.out))) : w.heap.size ≤ gb110)); clear HO_4; clear HB; have HO_4 := n0_; have HB := n1_; have BK110 := n2_; have GW110 := n3_; have GE110 := n4_; clear n0_ n1_ n2_ n3_ n4_; clear hb hbox hg; have hcz13_0 : w12.cell? ⟨gb110, 0, none⟩ = some (.int .i64 0) := (blk_cell BK110.out 0).trans rfl; have hcz13_1 : w12.cell? ⟨gb110, 1, none⟩ = some (.int .i64 0) := (blk_cell BK110.out 1).trans rfl; have hcz13_2 : w12.cell? ⟨gb110, 2, none⟩ = some (.string (⟨#[]⟩ : ByteArray)) := (blk_cell BK110.out 2).trans rfl; have hfz13_0 := blk_frozen BK110.out 0; have hfz13_1 := blk_frozen BK110.out 1; have hfz13_2 := blk_frozen BK110.out 2; obtain ⟨Ao14, co14, eo14⟩ := Kd.R_slice HO_4.out; subst eo14))
                go_ret2
                exact ⟨_, by first | rfl | (simp [errW_none, errW_some] <;> rfl) | (simp [*, errW_none, errW_some] <;> rfl), by first | exact Kd.R_nil _ _ _ _ _ | exact Kd.N_nil _ _ _ _ _ | exact Kd.V_nil _ _ _ _ _ | exact Kd.Q_nil _ _ _ _ _ | exact Kd.S_nil _ _ _ _ _, by repeat (first | (with_reducible first | exact HB.out | apply below_alloc | apply pw_below_drewN | apply below_drew1 | refine below_set ?_ GE110.out) | exact HB.out)⟩
              · rw [if_neg c10] at H
                have c10b0 : ((x4_1.length : Int) == 4000) = false := beq_eq_false_iff_ne.mpr c10
                have c10b1 : ((x4_1.length : Int) != 4000) = true := bne_iff_ne.mpr c10
                by_cases c15 : x4_1.length < 4398046511104
                · rw [if_pos c15] at H
                  have LMc15 := Aside0.mk c15
                  clear c15
                  obtain ⟨y111, hy111⟩ : ∃ y_ : List (S29), y_ = (x4_1 ++ [(⟨t105, t106, t107⟩ : S29)]) := ⟨_, rfl⟩
                  replace H : (if 0 ≤ t108 then (if t108 ≤ (x0_1.size : Int) then ((impl_passed.f k1 (x0_1.extract (t108 : Int).toNat x0_1.size)).bind fun t114 => (if 0 ≤ t114 then (if t114 ≤ ((x0_1.extract (t108 : Int).toNat x0_1.size).size : Int) then (impl_lex.l0 k1 ((x0_1.extract (t108 : Int).toNat x0_1.size).extract (t114 : Int).toNat (x0_1.extract (t108 : Int).toNat x0_1.size).size) y111) else (none)) else (none))) else (none)) else (none)) = some (r1, r2) := by first | (rw [hy111]; with_reducible exact H) | (have H2_ := (Option.bind_some _ _).symm.trans H; rw [hy111]; with_reducible exact H2_) | (have H2_ := (Option.bind_some _ _).symm.trans H; with_reducible exact H2_) | with_reducible exact H | (rw [hy111]; exact H) | exact H
                  have Ny111 := Aside0.mk hy111
                  clear hy111
                  by_cases c16 : 0 ≤ t108
                  · rw [if_pos c16] at H
                    have c16b0 := eq_true c16
                    have c16b1 : decide (0 ≤ t108) = true := decide_eq_true c16
                    clear c16
                    by_cases c17 : t108 ≤ (x0_1.size : Int)
                    · rw [if_pos c17] at H
                      have c17b0 := eq_true c17
                      have c17b1 : decide (t108 ≤ (x0_1.size : Int)) = true := decide_eq_true c17
                      clear c17
                      replace H := Option.bind_eq_some_iff.mp H
                      obtain ⟨t114, A180, H⟩ := H
                      replace H : (if 0 ≤ t114 then (if t114 ≤ ((x0_1.extract (t108 : Int).toNat x0_1.size).size : Int) then (impl_lex.l0 k1 ((x0_1.extract (t108 : Int).toNat x0_1.size).extract (t114 : Int).toNat (x0_1.extract (t108 : Int).toNat x0_1.size).size) y111) else (none)) else (none)) = some (r1, r2) := H
                      have A18 := Aside0.mk A180
                      clear A180
                      by_cases c19 : 0 ≤ t114
                      · rw [if_pos c19] at H
                        have c19b0 := eq_true c19
                        have c19b1 : decide (0 ≤ t114) = true := decide_eq_true c19
                        clear c19
                        by_cases c20 : t114 ≤ ((x0_1.extract (t108 : Int).toNat x0_1.size).size : Int)
                        · rw [if_pos c20] at H
                          have c20b0 := eq_true c20
                          have c20b1 : decide (t114 ≤ ((x0_1.extract (t108 : Int).toNat x0_1.size).size : Int)) = true := decide_eq_true c20
                          clear c20
                          have H' := Aside0.mk H
                          clear H
                          try go_wp2_with (first | ((with_reducible refine gate_callee (f := 43) rfl ?_); refine goesL_ (some 21) rfl rfl Tryz.func43 (by kernel_rfl) rfl #[.string x0_1] rfl (by (try simp only [List.map_toArray, List.map_cons, List.map_nil]); first | done | rfl | (simp only [List.length_drop, List.length_take]; rfl)) ?_; (with_reducible refine (impl_tokenAt.calls k1 x0_1 t105 t106 t107 t108 true _ A8.out (by first | exact tb_below HTAB.out HB.out | exact tb_below HTAB.out (below_step HB.out HX.out) | (refine tb_below HTAB.out ?_; repeat (first | (with_reducible first | exact HB.out | apply below_alloc | apply pw_below_drewN | apply below_drew1  | refine below_set ?_ GE110.out) | exact HB.out)))).mono ?_); rintro e w21 ⟨rfl, hb⟩; refine ⟨_, rfl, ?_⟩; have n0_ := Aside0.mk (Kd.R_below (by (with_reducible repeat (first | apply Kd.R_alloc | apply Kd.R_drewN | apply Kd.R_drew)); exact HO_4.out) hb); have n1_ := Aside0.mk (below_step (by repeat (first | (with_reducible first | exact HB.out | apply below_alloc | apply pw_below_drewN | apply below_drew1) | exact HB.out)) hb); clear HO_4; clear HB; have HO_4 := n0_; have HB := n1_; clear n0_ n1_; (try clear hb); (try clear hb2); (try clear hk); (try clear hi)) | ((with_reducible refine gate_dst (N := 5) rfl ?_); refine box_event ?hg (N := 5) ?hd (cs := #[.int .i64 0, .int .i64 0, .string (⟨#[]⟩ : ByteArray)]) (t := 29) ?hr ?_; (case hd => rfl); (case hg => rfl); (case hr => first | (go_simp; done) | (go_simp; rfl)); intro gb110 hg w22 hbox hb; have n0_ := Aside0.mk (Kd.R_below (Kd.R_elderB (by (with_reducible repeat (first | apply Kd.R_alloc | apply Kd.R_drewN | apply Kd.R_drew)); exact HO_4.out) gb110 (Nat.le_of_eq hg.symm)) hb); have n1_ := Aside0.mk (below_step (by repeat (first | (with_reducible first | exact HB.out | apply below_alloc | apply pw_below_drewN | apply below_drew1) | exact HB.out)) hb); have n2_ := Aside0.mk (hbox); have n3_ := Aside0.mk ((by rw [hg]; exact (below_size (by repeat (first | (with_reducible first | exact HB.out | apply below_alloc | apply pw_below_drewN | apply below_drew1) | exact HB.out))) : w.heap.size ≤ gb110)); have n4_ := Aside0.mk ((by rw [hg]; exact (below_size (by repeat (first | (with_reducible first | exact HB.out | apply below_alloc | apply pw_below_drewN | apply below_drew1) | exact HB.out))) : w.heap.size ≤ gb110)); clear HO_4; clear HB; have HO_4 := n0_; have HB := n1_; have BK110 := n2_; have GW110 := n3_; have GE110 := n4_; clear n0_ n1_ n2_ n3_ n4_; clear hb hbox hg; have hcz23_0 : w22.cell? ⟨gb110, 0, none⟩ = some (.int .i64 0) := (blk_cell BK110.out 0).trans rfl; have hcz23_1 : w22.cell? ⟨gb110, 1, none⟩ = some (.int .i64 0) := (blk_cell BK110.out 1).trans rfl; have hcz23_2 : w22.cell? ⟨gb110, 2, none⟩ = some (.string (⟨#[]⟩ : ByteArray)) := (blk_cell BK110.out 2).trans rfl; have hfz23_0 := blk_frozen BK110.out 0; have hfz23_1 := blk_frozen BK110.out 1; have hfz23_2 := blk_frozen BK110.out 2; obtain ⟨Ao24, co24, eo24⟩ := Kd.R_slice HO_4.out; subst eo24))
                          have n0_ : Aside0 (Kd.R k29 29 (((w22.setCell ⟨gb110, 0, none⟩ (.int .i64 t105)).setCell ⟨gb110, 1, none⟩ (.int .i64 t106)).setCell ⟨gb110, 2, none⟩ (.string t107)) w.heap.size (fun k_ => k_ ≠ gb110) (.slice Ao24 x4_1.length co24) x4_1) := ⟨by (with_reducible repeat (first | apply Kd.R_alloc | apply Kd.R_drewN | apply Kd.R_drew)); exact Kd.R_mono (Kd.R_far (p := ⟨gb110, 2, none⟩) (Kd.R_far (p := ⟨gb110, 1, none⟩) (Kd.R_far (p := ⟨gb110, 0, none⟩) (Kd.R_mono HO_4.out (fun k_ hk => (⟨hk, hk.2⟩ : _ ∧ k_ ≠ gb110))) (fun _ hk => hk.2) (.int .i64 t105)) (fun _ hk => hk.2) (.int .i64 t106)) (fun _ hk => hk.2) (.string t107)) (fun _ hk => hk.1.2)⟩
                          have n1_ : Aside0 ((((w22.setCell ⟨gb110, 0, none⟩ (.int .i64 t105)).setCell ⟨gb110, 1, none⟩ (.int .i64 t106)).setCell ⟨gb110, 2, none⟩ (.string t107)).heap[gb110]? = some (.cells #[.int .i64 t105, .int .i64 t106, .string t107] 29 (0, 0))) := ⟨by (with_reducible repeat (first | refine blk_drewN ?_ _ | refine blk_drew ?_ | refine blk_alloc ?_ _)); refine blk_put (cs := #[.int .i64 t105, .int .i64 t106, .string (⟨#[]⟩ : ByteArray)]) ?_ 2 _ rfl; (with_reducible repeat (first | refine blk_drewN ?_ _ | refine blk_drew ?_ | refine blk_alloc ?_ _)); refine blk_put (cs := #[.int .i64 t105, .int .i64 0, .string (⟨#[]⟩ : ByteArray)]) ?_ 1 _ rfl; (with_reducible repeat (first | refine blk_drewN ?_ _ | refine blk_drew ?_ | refine blk_alloc ?_ _)); refine blk_put (cs := #[.int .i64 0, .int .i64 0, .string (⟨#[]⟩ : ByteArray)]) ?_ 0 _ rfl; (with_reducible repeat (first | refine blk_drewN ?_ _ | refine blk_drew ?_ | refine blk_alloc ?_ _)); exact BK110.out⟩
                          have n2_ : Aside0 (Below w.heap.size w (((w22.setCell ⟨gb110, 0, none⟩ (.int .i64 t105)).setCell ⟨gb110, 1, none⟩ (.int .i64 t106)).setCell ⟨gb110, 2, none⟩ (.string t107))) := ⟨by repeat (first | (with_reducible first | exact HB.out | apply below_alloc | apply pw_below_drewN | apply below_drew1 | refine below_set ?_ GE110.out) | exact HB.out)⟩
                          (try clear HO_4)
                          (try clear BK110)
                          (try clear HB)
                          generalize (((w22.setCell ⟨gb110, 0, none⟩ (.int .i64 t105)).setCell ⟨gb110, 1, none⟩ (.int .i64 t106)).setCell ⟨gb110, 2, none⟩ (.string t107)) = w25 at n0_ n1_ n2_ ⊢
                          have HO_4 := n0_
                          have BK110 := n1_
                          have HB := n2_
                          clear n0_ n1_ n2_
                          have n0_ := Aside0.mk (Kd.R_drew HO_4.out)
                          have n1_ := Aside0.mk (blk_drew BK110.out)
                          have n2_ := Aside0.mk (below_drew1 HB.out)
                          clear HO_4
                          clear BK110
                          clear HB
                          have HO_4 := n0_
                          have BK110 := n1_
                          have HB := n2_
                          clear n0_ n1_ n2_
                          refine start_ (n := 9) (S := fun w' => w'.cell? ⟨gb110, 0, none⟩ = some (.int .i64 t105) ∧ w'.cell? ⟨gb110, 1, none⟩ = some (.int .i64 t106) ∧ w'.cell? ⟨gb110, 2, none⟩ = some (.string t107)) (ds := []) impl_lex.y0 (by kernel_rfl) rfl rfl ⟨(blk_cell BK110.out 0).trans rfl, (blk_cell BK110.out 1).trans rfl, (blk_cell BK110.out 2).trans rfl⟩ (fun hHeld => ?_); refine with_tabW impl_lex.tab10 impl_lex.bits10 (fun HT_ HW_ => ?_)
                          generalize w25.drew = w26 at HO_4 BK110 HB hHeld ⊢
                          refine pure_ (i := 0) (N := some 32) (v := ?_) (a' := ?_) impl_lex.y1 rfl rfl (any_of HT_.out (by kernel_rfl)) (fun _ _ _ h => h) (Or.inl ⟨by rfl, ?_⟩) ?_ ?_
                          rotate_left
                          · intro w'
                            go_simp
                            with_reducible rfl
                          rotate_left
                          · simp only [Act.put, List.setIfInBounds_toArray, List.set_cons_zero, List.set_cons_succ, i64_w, i32_w]
                            rfl
                          refine pure_ (i := 4) (N := some 36) (v := ?_) (a' := ?_) impl_lex.y2 rfl rfl (any_of HT_.out (by kernel_rfl)) (fun _ _ _ h => h) (Or.inl ⟨by rfl, ?_⟩) ?_ ?_
                          rotate_left
                          · intro w'
                            go_simp
                            with_reducible rfl
                          rotate_left
                          · simp only [Act.put, List.setIfInBounds_toArray, List.set_cons_zero, List.set_cons_succ, i64_w, i32_w]
                            rfl
                          refine pure_ (i := 5) (N := some 37) (v := ?_) (a' := ?_) impl_lex.y3 rfl rfl (any_of HT_.out (by kernel_rfl)) (fun _ _ _ h => h) (Or.inl ⟨by rfl, ?_⟩) ?_ ?_
                          rotate_left
                          · intro w'
                            go_simp
                            with_reducible rfl
                          rotate_left
                          · simp only [Act.put, List.setIfInBounds_toArray, List.set_cons_zero, List.set_cons_succ, i64_w, i32_w]
                            rfl
                          refine pure_ (i := 6) (N := some 38) (v := ?_) (a' := ?_) impl_lex.y4 rfl rfl (any_of HT_.out (by kernel_rfl)) (fun _ _ _ h => h) (Or.inl ⟨by rfl, ?_⟩) ?_ ?_
                          rotate_left
                          · intro w'
                            go_simp
                            with_reducible rfl
                          rotate_left
                          · simp only [Act.put, List.setIfInBounds_toArray, List.set_cons_zero, List.set_cons_succ, i64_w, i32_w]
                            rfl
                          refine take_ (i := 1) (N := some 33) (v := ?_) (a' := ?_) impl_lex.y5 rfl rfl (take_ofW HT_.out HW_.out (by kernel_rfl)) (fun _ _ _ h => h) (Or.inl ⟨by rfl, ?_⟩) hHeld ?_ ?_
                          rotate_left
                          · rintro w' ⟨s0, s1, s2⟩
                            go_simp
                            with_reducible rfl
                          rotate_left
                          · simp only [Act.put, List.setIfInBounds_toArray, List.set_cons_zero, List.set_cons_succ, i64_w, i32_w]
                            rfl
                          refine one_ (i := 2) (N := some 34) impl_lex.y6 rfl rfl (one_of HT_.out (by kernel_rfl)) (by decide) (fun K hK => ?_)
                          refine value_ (w1 := ?_) (v := ?_) (by rfl) rfl ?_ ?_
                          rotate_left 2
                          · go_simp
                            constructor
                            · rfl
                            · rfl
                          refine hK.out _ _ ⟨(blk_cell (blk_alloc BK110.out _) 0).trans rfl, (blk_cell (blk_alloc BK110.out _) 1).trans rfl, (blk_cell (blk_alloc BK110.out _) 2).trans rfl⟩ (fun hHeld => ?_)
                          clear hK K
                          refine norm_ (a' := ?_) ?_ ?_
                          rotate_left
                          · show Act.put _ (some 34) _ = _
                            simp only [Act.put, List.setIfInBounds_toArray, List.set_cons_zero, List.set_cons_succ, i64_w, i32_w]
                            rfl
                          refine one_ (i := 3) (N := some 35) impl_lex.y7 rfl rfl (one_of HT_.out (by kernel_rfl)) (by decide) (fun K hK => ?_)
                          refine Kd.R_append_step k29 (w0 := w) w.heap.size (by rfl) (.tmp 32) (.tmp 34) 23 29 (.agg #[(.int .i64 0), (.int .i64 0), (.string ⟨#[]⟩)]) 32 rfl Tryz.underlying23 info29 rfl (by decide) (by omega) (.slice Ao24 x4_1.length co24) x4_1 (⟨t105, t106, t107⟩ : S29) [.int .i64 t105, .int .i64 t106, .string t107] (fun k_ => k_ ≠ gb110) (fun _ => False) rfl rfl ?aP (fun _ hk => hk.elim) ?aF ?aO ?aB ?aS ?aL ?_
                          (case aP => exact k29_mkM _ _ _ (⟨t105, t106, t107⟩ : S29))
                          (case aB => exact (by repeat (first | (with_reducible first | exact HB.out | apply below_alloc | apply pw_below_drewN | apply below_drew1 | refine below_set ?_ GE110.out) | exact HB.out)))
                          (case aF => exact (fun k_ hk => Kd.freshB (g := gb110) (o := .cells #[.int .i64 t105, .int .i64 t106, .string t107] 29 (0, 0)) (by (with_reducible repeat (first | refine blk_drewN ?_ _ | refine blk_drew ?_ | refine blk_alloc ?_ _)); exact BK110.out) k_ hk))
                          (case aO => exact (by (with_reducible repeat (first | apply Kd.R_alloc | apply Kd.R_drewN | apply Kd.R_drew)); exact HO_4.out))
                          (case aS => exact (below_size (by repeat (first | (with_reducible first | exact HB.out | apply below_alloc | apply pw_below_drewN | apply below_drew1 | refine below_set ?_ GE110.out) | exact HB.out))))
                          (case aL => have := LMc15.out; omega)
                          intro v112 w27 ho hb hg hat
                          rw [← Ny111.out] at ho
                          have n0_ := Aside0.mk (blk_grown (g := gb110) (o := .cells #[.int .i64 t105, .int .i64 t106, .string t107] 29 (0, 0)) (by (with_reducible repeat (first | refine blk_drewN ?_ _ | refine blk_drew ?_ | refine blk_alloc ?_ _)); exact BK110.out) hg (Kd.R_away HO_4.out (fun _ hk => hk)))
                          have n1_ := Aside0.mk (hb)
                          have n2_ := Aside0.mk (ho)
                          clear BK110
                          clear HB
                          clear HO_4
                          have BK110 := n0_
                          have HB := n1_
                          have HO113 := n2_
                          clear n0_ n1_ n2_
                          clear ho hb hg hat
                          refine hK.out _ _ ⟨(blk_cell BK110.out 0).trans rfl, (blk_cell BK110.out 1).trans rfl, (blk_cell BK110.out 2).trans rfl⟩ (fun hHeld => ?_)
                          clear hK K
                          refine norm_ (a' := ?_) ?_ ?_
                          rotate_left
                          · show Act.put _ (some 35) _ = _
                            simp only [Act.put, List.setIfInBounds_toArray, List.set_cons_zero, List.set_cons_succ, i64_w, i32_w]
                            rfl
                          refine pure_ (i := 7) (N := some 4) (v := ?_) (a' := ?_) impl_lex.y8 rfl rfl (any_of HT_.out (by kernel_rfl)) (fun _ _ _ h => h) (Or.inl ⟨by rfl, ?_⟩) ?_ ?_
                          rotate_left
                          · intro w'
                            go_simp
                            with_reducible rfl
                          rotate_left
                          · simp only [Act.put, List.setIfInBounds_toArray, List.set_cons_zero, List.set_cons_succ, i64_w, i32_w]
                            rfl
                          refine pure_ (i := 8) (N := some 0) (v := ?_) (a' := ?_) impl_lex.y9 rfl rfl (any_of HT_.out (by kernel_rfl)) (fun _ _ _ h => h) (Or.inl ⟨by rfl, ?_⟩) ?_ ?_
                          rotate_left
                          · intro w'
                            go_simp
                            with_reducible rfl
                          rotate_left
                          · simp only [Act.put, List.setIfInBounds_toArray, List.set_cons_zero, List.set_cons_succ, i64_w, i32_w]
                            rfl
                          refine done_ (done_of HT_.out (by kernel_rfl)) ?_
                          generalize hq_ : x0_1.extract (t108 : Int).toNat x0_1.size = xq_ at A18 c20b0 c20b1 H' ⊢
                          clear hq_
                          try go_wp2_with (first | ((with_reducible refine gate_callee (f := 42) rfl ?_); refine goesL_ (some 17) rfl rfl Tryz.func42 (by kernel_rfl) rfl #[.string xq_] rfl (by (try simp only [List.map_toArray, List.map_cons, List.map_nil]); first | done | rfl | (simp only [List.length_drop, List.length_take]; rfl)) ?_; (with_reducible refine (impl_passed.calls k1 xq_ t114 _ A18.out).mono ?_); rintro e w' ⟨rfl, ⟨nd, rfl⟩⟩; refine ⟨_, rfl, ?_⟩))
                          go_roundg k1
                          case measure => have := HK1.out; omega
                          case rel => exact ⟨(xq_.extract (t114 : Int).toNat xq_.size), (y111), (by first | rfl | (simp; done) | (simp [*]; done)), H', ⟨by have := HK1.out; omega⟩, ⟨by (with_reducible repeat (first | apply Kd.R_alloc | apply Kd.R_drewN | apply Kd.R_drew)); exact Kd.R_mono HO113.out (fun _ hk => trivial)⟩, ⟨by repeat (first | (with_reducible first | exact HB.out | apply below_alloc | apply pw_below_drewN | apply below_drew1 | refine below_set ?_ GE110.out) | exact HB.out)⟩⟩
                        · rw [if_neg c20] at H
                          exact absurd H (by simp)
                      · rw [if_neg c19] at H
                        exact absurd H (by simp)
                    · rw [if_neg c17] at H
                      exact absurd H (by simp)
                  · rw [if_neg c16] at H
                    exact absurd H (by simp)
                · rw [if_neg c15] at H
                  exact absurd H (by simp)
            · replace c9 := Bool.eq_false_iff.mpr c9
              subst c9
              have H1 : (some (([] : List (S29)), 3)) = some (r1, r2) := by rw [if_neg (show ¬ (false = true) by decide)] at H; exact H
              clear H
              have H := H1
              clear H1
              simp only [Option.some.injEq, Prod.mk.injEq] at H
              obtain ⟨rfl, rfl⟩ := H
              go_wp2_with (first | ((with_reducible refine gate_callee (f := 43) rfl ?_); refine goesL_ (some 21) rfl rfl Tryz.func43 (by kernel_rfl) rfl #[.string x0_1] rfl (by (try simp only [List.map_toArray, List.map_cons, List.map_nil]); first | done | rfl | (simp only [List.length_drop, List.length_take]; rfl)) ?_; (with_reducible refine (impl_tokenAt.calls k1 x0_1 t105 t106 t107 t108 false _ A8.out (by first | exact tb_below HTAB.out HB.out | exact tb_below HTAB.out (below_step HB.out HX.out) | (refine tb_below HTAB.out ?_; repeat (first | (with_reducible first | exact HB.out | apply below_alloc | apply pw_below_drewN | apply below_drew1  | refine below_set ?_ GE110.out) | exact HB.out)))).mono ?_); rintro e w28 ⟨rfl, hb⟩; refine ⟨_, rfl, ?_⟩; have n0_ := Aside0.mk (Kd.R_below (by (with_reducible repeat (first | apply Kd.R_alloc | apply Kd.R_drewN | apply Kd.R_drew)); exact HO_4.out) hb); have n1_ := Aside0.mk (below_step (by repeat (first | (with_reducible first | exact HB.out | apply below_alloc | apply pw_below_drewN | apply below_drew1) | exact HB.out)) hb); clear HO_4; clear HB; have HO_4 := n0_; have HB := n1_; clear n0_ n1_; (try clear hb); (try clear hb2); (try clear hk); (try clear hi)) | ((with_reducible refine gate_dst (N := 5) rfl ?_); refine box_event ?hg (N := 5) ?hd (cs := #[.int .i64 0, .int .i64 0, .string (⟨#[]⟩ : ByteArray)]) (t := 29) ?hr ?_; (case hd => rfl); (case hg => rfl); (case hr => first | (go_simp; done) | (go_simp; rfl)); intro gb110 hg w29 hbox hb; have n0_ := Aside0.mk (Kd.R_below (Kd.R_elderB (by (with_reducible repeat (first | apply Kd.R_alloc | apply Kd.R_drewN | apply Kd.R_drew)); exact HO_4.out) gb110 (Nat.le_of_eq hg.symm)) hb); have n1_ := Aside0.mk (below_step (by repeat (first | (with_reducible first | exact HB.out | apply below_alloc | apply pw_below_drewN | apply below_drew1) | exact HB.out)) hb); have n2_ := Aside0.mk (hbox); have n3_ := Aside0.mk ((by rw [hg]; exact (below_size (by repeat (first | (with_reducible first | exact HB.out | apply below_alloc | apply pw_below_drewN | apply below_drew1) | exact HB.out))) : w.heap.size ≤ gb110)); have n4_ := Aside0.mk ((by rw [hg]; exact (below_size (by repeat (first | (with_reducible first | exact HB.out | apply below_alloc | apply pw_below_drewN | apply below_drew1) | exact HB.out))) : w.heap.size ≤ gb110)); clear HO_4; clear HB; have HO_4 := n0_; have HB := n1_; have BK110 := n2_; have GW110 := n3_; have GE110 := n4_; clear n0_ n1_ n2_ n3_ n4_; clear hb hbox hg; have hcz30_0 : w29.cell? ⟨gb110, 0, none⟩ = some (.int .i64 0) := (blk_cell BK110.out 0).trans rfl; have hcz30_1 : w29.cell? ⟨gb110, 1, none⟩ = some (.int .i64 0) := (blk_cell BK110.out 1).trans rfl; have hcz30_2 : w29.cell? ⟨gb110, 2, none⟩ = some (.string (⟨#[]⟩ : ByteArray)) := (blk_cell BK110.out 2).trans rfl; have hfz30_0 := blk_frozen BK110.out 0; have hfz30_1 := blk_frozen BK110.out 1; have hfz30_2 := blk_frozen BK110.out 2))
              go_ret2
              exact ⟨_, by first | rfl | (simp [errW_none, errW_some] <;> rfl) | (simp [*, errW_none, errW_some] <;> rfl), by first | exact Kd.R_nil _ _ _ _ _ | exact Kd.N_nil _ _ _ _ _ | exact Kd.V_nil _ _ _ _ _ | exact Kd.Q_nil _ _ _ _ _ | exact Kd.S_nil _ _ _ _ _, by repeat (first | (with_reducible first | exact HB.out | apply below_alloc | apply pw_below_drewN | apply below_drew1 | refine below_set ?_ GE110.out) | exact HB.out)⟩
    · rw [if_neg c4] at H
      exact absurd H (by simp)
  · rw [if_neg c3] at H
    exact absurd H (by simp)

end Go.Proofs.YtonofmbpjjckjaaGreatDoor.Q
namespace Go.Proofs.YtonofmbpjjckjaaGreatDoor.Q
open Go.RowKit Go.Proofs.YtonofmbpjjckjaaGreatDoorW.PrintWords Go.Proofs.YtonofmbpjjckjaaGreatDoorW.PrintLast Go.Proofs.YtonofmbpjjckjaaGreatDoorW.PrintMore
attribute [local go_sem] max2_int min2_int max_two min_two max_three min_three max_four min_four   -- for this text's walks alone
set_option linter.unusedVariables false
set_option linter.unusedSimpArgs false

/-! ### impl_Lex: function 10 -/
def impl_Lex.f (k : Nat) (a0 : ByteArray) : Option ((List (S29)) × Int) := (impl_isText.f (([a0] : List ByteArray))).bind fun t104 => (if t104 = true then ((impl_lex.f k a0).bind fun bt105 => (some (bt105.1, bt105.2))) else (some (([] : List (S29)), 2)))
set_option maxHeartbeats 8000000 in
set_option maxRecDepth 100000 in
theorem impl_Lex.calls (k : Nat) (a0 : ByteArray) (r1 : List (S29)) (r2 : Int) (w : World) (h : impl_Lex.f k a0 = some (r1, r2)) (htab : Tb w) :
    Calls Tryz.prog 10 #[.string a0] w fun e w' => ∃ v0_ : Value, e = .returned (.tuple #[v0_, .int .i64 r2]) ∧ Kd.R k29 29 w' w.heap.size (fun _ => True) v0_ r1 ∧ Below w.heap.size w w' := by
  have HTAB := Aside0.mk htab
  clear htab
  have HB := Aside0.mk (Below.refl w.heap.size w)
  have H : ((impl_isText.f (([a0] : List ByteArray))).bind fun t104 => (if t104 = true then ((impl_lex.f k a0).bind fun bt105 => (some (bt105.1, bt105.2))) else (some (([] : List (S29)), 2)))) = some (r1, r2) := h
  clear h
  obtain ⟨y101, hy101⟩ : ∃ y_ : List ByteArray, y_ = (([a0] : List ByteArray)) := ⟨_, rfl⟩
  replace H : ((impl_isText.f y101).bind fun t104 => (if t104 = true then ((impl_lex.f k a0).bind fun bt105 => (some (bt105.1, bt105.2))) else (some (([] : List (S29)), 2)))) = some (r1, r2) := by first | (rw [hy101]; with_reducible exact H) | (have H2_ := (Option.bind_some _ _).symm.trans H; rw [hy101]; with_reducible exact H2_) | (have H2_ := (Option.bind_some _ _).symm.trans H; with_reducible exact H2_) | with_reducible exact H | (rw [hy101]; exact H) | exact H
  have Ny101 := Aside0.mk hy101
  clear hy101
  replace H := Option.bind_eq_some_iff.mp H
  obtain ⟨t104, A20, H⟩ := H
  replace H : (if t104 = true then ((impl_lex.f k a0).bind fun bt105 => (some (bt105.1, bt105.2))) else (some (([] : List (S29)), 2))) = some (r1, r2) := H
  have A2 := Aside0.mk A20
  clear A20
  by_cases c3 : t104 = true
  · subst c3
    have H1 : ((impl_lex.f k a0).bind fun bt105 => (some (bt105.1, bt105.2))) = some (r1, r2) := by rw [if_pos rfl] at H; exact H
    clear H
    have H := H1
    clear H1
    replace H := Option.bind_eq_some_iff.mp H
    obtain ⟨⟨t105, t106⟩, A40, H⟩ := H
    replace H : (some (t105, t106)) = some (r1, r2) := H
    have A4 := Aside0.mk A40
    clear A40
    simp only [Option.some.injEq, Prod.mk.injEq] at H
    obtain ⟨rfl, rfl⟩ := H
    go_enter Tryz.func10, Tryz.ntmps10
    go_wp2_with (first | ((with_reducible refine gate_dst (N := 5) rfl ?_); refine Kd.R_lit Kd.string _ 9 ?hg (N := 5) ?hd (xs := ([a0] : List ByteArray)) (inner := [.string a0]) (ok := fun _ => True) (okp := fun _ => True) ?hr ?hp (fun _ hk => hk) trivial (Below.refl _ _) (Nat.le_refl _) (by simp) ?_; (case hd => rfl); (case hg => rfl); (case hr => first | (go_simp; done) | (go_simp; rfl)); (case hp => exact (Reps.one (show Kd.M Kd.string _ _ _ a0 [.string a0] from rfl) (Reps.none _ _))); intro v102 w5 ho6 hb hg_ hnew_; clear hg_ hnew_; (first | rw [← Ny101.out] at ho6 | (simp only [Int.reduceToNat] at ho6; rw [← Ny101.out] at ho6)); have n0_ := Aside0.mk (Kd.R_lower ho6 (below_size (by repeat (first | (with_reducible first | exact HB.out | apply below_alloc | apply pw_below_drewN | apply below_drew1) | exact HB.out)))); have n1_ := Aside0.mk (below_step (by repeat (first | (with_reducible first | exact HB.out | apply below_alloc | apply pw_below_drewN | apply below_drew1) | exact HB.out)) hb); clear HB; have HO103 := n0_; have HB := n1_; clear n0_ n1_; clear hb ho6; obtain ⟨Ao7, co7, eo7⟩ := Kd.R_slice HO103.out; subst eo7) | ((with_reducible refine gate_callee (f := 25) rfl ?_); refine goesL_ (some 6) rfl rfl Tryz.func25 (by kernel_rfl) rfl #[.slice Ao7 y101.length co7] rfl (by (try simp only [List.map_toArray, List.map_cons, List.map_nil]); first | done | rfl | (simp only [List.length_drop, List.length_take]; rfl)) ?_; (with_reducible refine (impl_isText.calls _ _ y101 true _ ?side1 ?side2 A2.out).mono ?_); (case side1 => repeat (first | exact (Kd.R_reads' HO103.out).2.2 | (with_reducible refine Kd.C_alloc ?_ _) | (with_reducible refine Kd.C_drewN ?_ _) | (with_reducible refine Kd.C_drew ?_))); (case side2 => exact (Kd.R_reads' HO103.out).2.1); rintro e w8 ⟨rfl, hb⟩; refine ⟨_, rfl, ?_⟩; have n0_ := Aside0.mk (Kd.R_below (by (with_reducible repeat (first | apply Kd.R_alloc | apply Kd.R_drewN | apply Kd.R_drew)); exact HO103.out) hb); have n1_ := Aside0.mk (below_step (by repeat (first | (with_reducible first | exact HB.out | apply below_alloc | apply pw_below_drewN | apply below_drew1) | exact HB.out)) hb); clear HO103; clear HB; have HO103 := n0_; have HB := n1_; clear n0_ n1_; (try clear hb); (try clear hb2); (try clear hk); (try clear hi)) | ((with_reducible refine gate_callee (f := 26) rfl ?_); refine goesL_ (some 9) rfl rfl Tryz.func26 (by kernel_rfl) rfl #[.string a0] rfl (by (try simp only [List.map_toArray, List.map_cons, List.map_nil]); first | done | rfl | (simp only [List.length_drop, List.length_take]; rfl)) ?_; (with_reducible refine (impl_lex.calls k a0 t105 t106 _ A4.out (by first | exact tb_below HTAB.out HB.out | exact tb_below HTAB.out (below_step HB.out HX.out) | (refine tb_below HTAB.out ?_; repeat (first | (with_reducible first | exact HB.out | apply below_alloc | apply pw_below_drewN | apply below_drew1 ) | exact HB.out)))).mono ?_); rintro e w9 ⟨v107, rfl, ho0, hb⟩; refine ⟨_, rfl, ?_⟩; have n0_ := Aside0.mk (Kd.R_below (by (with_reducible repeat (first | apply Kd.R_alloc | apply Kd.R_drewN | apply Kd.R_drew)); exact HO103.out) hb); have n1_ := Aside0.mk (Kd.R_lower ho0 (below_size (by repeat (first | (with_reducible first | exact HB.out | apply below_alloc | apply pw_below_drewN | apply below_drew1) | exact HB.out)))); have n2_ := Aside0.mk (below_step (by repeat (first | (with_reducible first | exact HB.out | apply below_alloc | apply pw_below_drewN | apply below_drew1) | exact HB.out)) hb); clear HO103; clear HB; have HO103 := n0_; have HO108 := n1_; have HB := n2_; clear n0_ n1_ n2_; (try clear hb); (try clear hb2); (try clear hk); (try clear hi); (try clear ho0)))
    go_ret2
    exact ⟨_, by first | rfl | (simp [errW_none, errW_some] <;> rfl) | (simp [*, errW_none, errW_some] <;> rfl), by (with_reducible repeat (first | apply Kd.R_alloc | apply Kd.R_drewN | apply Kd.R_drew)); exact HO108.out, by repeat (first | (with_reducible first | exact HB.out | apply below_alloc | apply pw_below_drewN | apply below_drew1) | exact HB.out)⟩
  · replace c3 := Bool.eq_false_iff.mpr c3
    subst c3
    have H1 : (some (([] : List (S29)), 2)) = some (r1, r2) := by rw [if_neg (show ¬ (false = true) by decide)] at H; exact H
    clear H
    have H := H1
    clear H1
    simp only [Option.some.injEq, Prod.mk.injEq] at H
    obtain ⟨rfl, rfl⟩ := H
    go_enter Tryz.func10, Tryz.ntmps10
    go_wp2_with (first | ((with_reducible refine gate_dst (N := 5) rfl ?_); refine Kd.R_lit Kd.string _ 9 ?hg (N := 5) ?hd (xs := ([a0] : List ByteArray)) (inner := [.string a0]) (ok := fun _ => True) (okp := fun _ => True) ?hr ?hp (fun _ hk => hk) trivial (Below.refl _ _) (Nat.le_refl _) (by simp) ?_; (case hd => rfl); (case hg => rfl); (case hr => first | (go_simp; done) | (go_simp; rfl)); (case hp => exact (Reps.one (show Kd.M Kd.string _ _ _ a0 [.string a0] from rfl) (Reps.none _ _))); intro v102 w10 ho11 hb hg_ hnew_; clear hg_ hnew_; (first | rw [← Ny101.out] at ho11 | (simp only [Int.reduceToNat] at ho11; rw [← Ny101.out] at ho11)); have n0_ := Aside0.mk (Kd.R_lower ho11 (below_size (by repeat (first | (with_reducible first | exact HB.out | apply below_alloc | apply pw_below_drewN | apply below_drew1) | exact HB.out)))); have n1_ := Aside0.mk (below_step (by repeat (first | (with_reducible first | exact HB.out | apply below_alloc | apply pw_below_drewN | apply below_drew1) | exact HB.out)) hb); clear HB; have HO103 := n0_; have HB := n1_; clear n0_ n1_; clear hb ho11; obtain ⟨Ao12, co12, eo12⟩ := Kd.R_slice HO103.out; subst eo12) | ((with_reducible refine gate_callee (f := 25) rfl ?_); refine goesL_ (some 6) rfl rfl Tryz.func25 (by kernel_rfl) rfl #[.slice Ao12 y101.length co12] rfl (by (try simp only [List.map_toArray, List.map_cons, List.map_nil]); first | done | rfl | (simp only [List.length_drop, List.length_take]; rfl)) ?_; (with_reducible refine (impl_isText.calls _ _ y101 false _ ?side1 ?side2 A2.out).mono ?_); (case side1 => repeat (first | exact (Kd.R_reads' HO103.out).2.2 | (with_reducible refine Kd.C_alloc ?_ _) | (with_reducible refine Kd.C_drewN ?_ _) | (with_reducible refine Kd.C_drew ?_))); (case side2 => exact (Kd.R_reads' HO103.out).2.1); rintro e w13 ⟨rfl, hb⟩; refine ⟨_, rfl, ?_⟩; have n0_ := Aside0.mk (Kd.R_below (by (with_reducible repeat (first | apply Kd.R_alloc | apply Kd.R_drewN | apply Kd.R_drew)); exact HO103.out) hb); have n1_ := Aside0.mk (below_step (by repeat (first | (with_reducible first | exact HB.out | apply below_alloc | apply pw_below_drewN | apply below_drew1) | exact HB.out)) hb); clear HO103; clear HB; have HO103 := n0_; have HB := n1_; clear n0_ n1_; (try clear hb); (try clear hb2); (try clear hk); (try clear hi)))
    go_ret2
    exact ⟨_, by first | rfl | (simp [errW_none, errW_some] <;> rfl) | (simp [*, errW_none, errW_some] <;> rfl), by first | exact Kd.R_nil _ _ _ _ _ | exact Kd.N_nil _ _ _ _ _ | exact Kd.V_nil _ _ _ _ _ | exact Kd.Q_nil _ _ _ _ _ | exact Kd.S_nil _ _ _ _ _, by repeat (first | (with_reducible first | exact HB.out | apply below_alloc | apply pw_below_drewN | apply below_drew1) | exact HB.out)⟩

end Go.Proofs.YtonofmbpjjckjaaGreatDoor.Q
namespace Go.Proofs.YtonofmbpjjckjaaGreatDoor.Q
open Go.RowKit Go.Proofs.YtonofmbpjjckjaaGreatDoorW.PrintWords Go.Proofs.YtonofmbpjjckjaaGreatDoorW.PrintLast Go.Proofs.YtonofmbpjjckjaaGreatDoorW.PrintMore
attribute [local go_sem] max2_int min2_int max_two min_two max_three min_three max_four min_four   -- for this text's walks alone
set_option linter.unusedVariables false
set_option linter.unusedSimpArgs false

attribute [local go_sem high] eqA29
/-! ### laws_FnLex: function 3 -/
mutual
def laws_FnLex.j0 : Nat → List Int → List Int → Bool → Option (Bool)
  | 0, _, _, _ => none
  | k + 1, x0, x1, x28 => if x28 = true then (some true) else ((spec_TokensOf.f k x0).bind fun t101 => ((impl_JoinTokens.f k t101).bind fun bt104 => ((spec_JoinTokens.f k t101).bind fun bt106 => (laws_FnLex.l0 k x1 t101 bt104.1 bt104.2 bt106.1 (⟨#[32, 35, 32, 98, 101, 103, 105, 110, 10]⟩ : ByteArray) 0))))
def laws_FnLex.l0 : Nat → List Int → List (S29) → ByteArray → Int → ByteArray → ByteArray → Int → Option (Bool)
  | 0, _, _, _, _, _, _, _ => none
  | k + 1, x1, x5, x6, x7, x8, x10, x11 => if x11 < (x5.length : Int) then (if 0 ≤ x11 then ((impl_TokenText.f k ((rd_T29 x5 x11).f0) ((rd_T29 x5 x11).f1) ((rd_T29 x5 x11).f2)).bind fun bt109 => (if bt109.2 = 0 then (if (bt109.1.size : Int) = 0 then (none) else ((impl_TokenOK.f k ((rd_T29 x5 x11).f0) ((rd_T29 x5 x11).f1) ((rd_T29 x5 x11).f2)).bind fun t112 => (if t112 = true then ((some (([(⟨#[32]⟩ : ByteArray), (⟨#[44]⟩ : ByteArray), (⟨#[10]⟩ : ByteArray), (⟨#[32, 44, 32, 35, 32, 120, 10]⟩ : ByteArray)] : List ByteArray) : List ByteArray)).bind fun y113 => ((laws_at.f x1 x11 4).bind fun t116 => (if 0 ≤ t116 then (if t116 < (y113.length : Int) then (if bt109.1.size + (rdOf ByteArray.empty y113 t116).size ≤ 9223372036854775807 then (if x10.size + (bt109.1 ++ (rdOf ByteArray.empty y113 t116)).size ≤ 9223372036854775807 then (laws_FnLex.l0 k x1 x5 x6 x7 x8 (x10 ++ (bt109.1 ++ (rdOf ByteArray.empty y113 t116))) (wrap64 (x11 + 1))) else (none)) else (none)) else (none)) else (none)))) else (none)))) else (none))) else (none)) else ((impl_Lex.f k x6).bind fun bt118 => ((impl_Lex.f k x10).bind fun bt122 => (if x7 = 0 then (if x6.toList = x8.toList then (if bt118.2 = 0 then (if bt122.2 = 0 then (if (bt118.1.length : Int) = (x5.length : Int) then (laws_FnLex.j2 k x5 x6 bt118.1 bt122.1 ((bt122.1.length : Int) != (x5.length : Int))) else (laws_FnLex.j2 k x5 x6 bt118.1 bt122.1 true)) else (laws_FnLex.j2 k x5 x6 bt118.1 bt122.1 true)) else (laws_FnLex.j2 k x5 x6 bt118.1 bt122.1 true)) else (laws_FnLex.j2 k x5 x6 bt118.1 bt122.1 true)) else (laws_FnLex.j2 k x5 x6 bt118.1 bt122.1 true))))
def laws_FnLex.j2 : Nat → List (S29) → ByteArray → List (S29) → List (S29) → Bool → Option (Bool)
  | 0, _, _, _, _, _ => none
  | k + 1, x5, x6, x14, x16, x118 => if x118 = true then (none) else (laws_FnLex.l1 k x5 x6 x14 x16 0)
def laws_FnLex.l1 : Nat → List (S29) → ByteArray → List (S29) → List (S29) → Int → Option (Bool)
  | 0, _, _, _, _, _ => none
  | k + 1, x5, x6, x14, x16, x18 => if x18 < (x5.length : Int) then (if 0 ≤ x18 then (if x18 < (x14.length : Int) then (if (!(((rd_T29 x14 x18).f0) == ((rd_T29 x5 x18).f0)) || (!(((rd_T29 x14 x18).f1) == ((rd_T29 x5 x18).f1)) || (!((((rd_T29 x14 x18).f2).toList) == (((rd_T29 x5 x18).f2).toList))))) = true then (none) else (if x18 < (x16.length : Int) then (if (!(((rd_T29 x16 x18).f0) == ((rd_T29 x5 x18).f0)) || (!(((rd_T29 x16 x18).f1) == ((rd_T29 x5 x18).f1)) || (!((((rd_T29 x16 x18).f2).toList) == (((rd_T29 x5 x18).f2).toList))))) = true then (none) else (laws_FnLex.l1 k x5 x6 x14 x16 (wrap64 (x18 + 1)))) else (none))) else (none)) else (none)) else (if x6.size + 2 ≤ 9223372036854775807 then ((impl_Lex.f k (x6 ++ (⟨#[32, 37]⟩ : ByteArray))).bind fun bt130 => (if bt130.2 = 3 then ((impl_IsInt.f 2147483647).bind fun t134 => (if t134 = true then ((impl_IsInt.f 2147483648).bind fun t135 => (some (!t135))) else (none))) else (none))) else (none))
end
def laws_FnLex.f (k : Nat) (l0 : List Int) (l1 : List Int) : Option (Bool) := if (l0.length : Int) > 1048576 then (laws_FnLex.j0 k l0 l1 true) else (laws_FnLex.j0 k l0 l1 (decide ((l1.length : Int) > 1048576)))
set_option maxHeartbeats 8000000 in
set_option maxRecDepth 100000 in
theorem laws_FnLex.calls (k : Nat) (A0 : Option Addr) (c0 : Nat) (l0 : List Int) (A1 : Option Addr) (c1 : Nat) (l1 : List Int) (r : Bool) (w : World) (hr0 : Kd.C (Kd.int .u8) w A0 l0.length l0) (hc0 : l0.length ≤ c0) (hr1 : Kd.C (Kd.int .u8) w A1 l1.length l1) (hc1 : l1.length ≤ c1) (h : laws_FnLex.f k l0 l1 = some r) (htab : Tb w) :
    Calls Tryz.prog 3 #[.slice A0 l0.length c0, .slice A1 l1.length c1] w fun e w' => e = .returned (.bool r) ∧ Below w.heap.size w w' := by
  have HTAB := Aside0.mk htab
  clear htab
  have hu29 := Tryz.underlying29
  have HR0 := Aside0.mk hr0
  have HC0 := Aside0.mk hc0
  clear hr0 hc0
  have HR1 := Aside0.mk hr1
  have HC1 := Aside0.mk hc1
  clear hr1 hc1
  have HB := Aside0.mk (Below.refl w.heap.size w)
  have H : (if (l0.length : Int) > 1048576 then (laws_FnLex.j0 k l0 l1 true) else (laws_FnLex.j0 k l0 l1 (decide ((l1.length : Int) > 1048576)))) = some r := h
  clear h
  have HC3 := Aside0.mk H
  clear H
  go_enter Tryz.func3, Tryz.ntmps3
  go_upto_region 1 with (fail)
  repeat (go_quiet (fail); go_upto_region 1 with (fail))
  go_cut [28] (fun v28 wc => ∃ (kq : Nat) (x28_2 : Bool), v28 = .bool x28_2 ∧ Aside0 (laws_FnLex.j0 kq l0 l1 x28_2 = some r) ∧ Aside0 (kq ≤ k) ∧ Aside0 (Below w.heap.size w wc))
  case first =>
    have H := HC3.out
    clear HC3
    by_cases c4 : (l0.length : Int) > 1048576
    · rw [if_pos c4] at H
      have c4b0 : decide (1048576 < (l0.length : Int)) = true := decide_eq_true c4
      have c4b1 : decide (1048576 < l0.length) = true := decide_eq_true (by omega)
      clear c4
      (first | rw [c4b0] | (simp only [i64_w, i32_w]; rw [c4b0]) | skip)
      have H' := Aside0.mk H
      clear H
      go_wp2
      repeat (go_quiet (fail); try go_wp2)
      go_meet
      case rel => exact ⟨_, (true), (by first | rfl | (simp; done) | (simp [*]; done)), H', ⟨by first | omega | exact Nat.le_refl _⟩, ⟨by repeat (first | (with_reducible first | exact HB.out | apply below_alloc | apply pw_below_drewN | apply below_drew1) | exact HB.out)⟩⟩
    · rw [if_neg c4] at H
      have c4b0 : decide (1048576 < (l0.length : Int)) = false := decide_eq_false c4
      have c4b1 : decide (1048576 < l0.length) = false := decide_eq_false (by omega)
      clear c4
      (first | rw [c4b0] | (simp only [i64_w, i32_w]; rw [c4b0]) | skip)
      have H' := Aside0.mk H
      clear H
      go_wp2
      repeat (go_quiet (fail); try go_wp2)
      go_meet
      case rel => exact ⟨_, (decide ((l1.length : Int) > 1048576)), (by first | rfl | (simp; done) | (simp [*]; done)), H', ⟨by first | omega | exact Nat.le_refl _⟩, ⟨by repeat (first | (with_reducible first | exact HB.out | apply below_alloc | apply pw_below_drewN | apply below_drew1) | exact HB.out)⟩⟩
  case rest =>
    clear HC3
    try clear c1
    try clear p2
    try clear c3
    try clear c4
    try clear c4b0
    try clear c4b1
    obtain ⟨kq, x28_2, rfl, HA, HJ2, HB⟩ := hcut
    cases kq with
    | zero => exact absurd HA.out (by simp [laws_FnLex.j0])
    | succ kj2 =>
      have H := HA.out
      clear HA
      simp only [laws_FnLex.j0] at H
      by_cases c5 : x28_2 = true
      · subst c5
        have H1 : (some true) = some r := by rw [if_pos rfl] at H; exact H
        clear H
        have H := H1
        clear H1
        obtain rfl := Option.some.inj H
        go_wp2
        repeat (go_quiet (fail); try go_wp2)
        go_ret
        exact ⟨by first | rfl | (simp [errW_none, errW_some] <;> rfl) | (simp [*, errW_none, errW_some] <;> rfl), by repeat (first | (with_reducible first | exact HB.out | apply below_alloc | apply pw_below_drewN | apply below_drew1) | exact HB.out)⟩
      · replace c5 := Bool.eq_false_iff.mpr c5
        subst c5
        have H1 : ((spec_TokensOf.f kj2 l0).bind fun t101 => ((impl_JoinTokens.f kj2 t101).bind fun bt104 => ((spec_JoinTokens.f kj2 t101).bind fun bt106 => (laws_FnLex.l0 kj2 l1 t101 bt104.1 bt104.2 bt106.1 (⟨#[32, 35, 32, 98, 101, 103, 105, 110, 10]⟩ : ByteArray) 0)))) = some r := by rw [if_neg (show ¬ (false = true) by decide)] at H; exact H
        clear H
        have H := H1
        clear H1
        replace H := Option.bind_eq_some_iff.mp H
        obtain ⟨t101, A60, H⟩ := H
        replace H : ((impl_JoinTokens.f kj2 t101).bind fun bt104 => ((spec_JoinTokens.f kj2 t101).bind fun bt106 => (laws_FnLex.l0 kj2 l1 t101 bt104.1 bt104.2 bt106.1 (⟨#[32, 35, 32, 98, 101, 103, 105, 110, 10]⟩ : ByteArray) 0))) = some r := H
        have A6 := Aside0.mk A60
        clear A60
        replace H := Option.bind_eq_some_iff.mp H
        obtain ⟨⟨t104, t105⟩, A70, H⟩ := H
        replace H : ((spec_JoinTokens.f kj2 t101).bind fun bt106 => (laws_FnLex.l0 kj2 l1 t101 t104 t105 bt106.1 (⟨#[32, 35, 32, 98, 101, 103, 105, 110, 10]⟩ : ByteArray) 0)) = some r := H
        have A7 := Aside0.mk A70
        clear A70
        replace H := Option.bind_eq_some_iff.mp H
        obtain ⟨⟨t106, t107⟩, A80, H⟩ := H
        replace H : (laws_FnLex.l0 kj2 l1 t101 t104 t105 t106 (⟨#[32, 35, 32, 98, 101, 103, 105, 110, 10]⟩ : ByteArray) 0) = some r := H
        have A8 := Aside0.mk A80
        clear A80
        have H' := Aside0.mk H
        clear H
        go_wp2_with (first | (go_at_call 4; (with_reducible refine (spec_TokensOf.calls kj2 _ _ l0 t101 _ ?side1 ?side2 A6.out).mono ?_); (case side1 => repeat (first | exact (Kd.C_below HR0.out HB.out) | (with_reducible refine Kd.C_alloc ?_ _) | (with_reducible refine Kd.C_drewN ?_ _) | (with_reducible refine Kd.C_drew ?_))); (case side2 => exact HC0.out); rintro e w9 ⟨v102, rfl, ho0, hb⟩; have n0_ := Aside0.mk (Kd.R_lower ho0 (below_size (by repeat (first | (with_reducible first | exact HB.out | apply below_alloc | apply pw_below_drewN | apply below_drew1) | exact HB.out)))); have n1_ := Aside0.mk (below_step (by repeat (first | (with_reducible first | exact HB.out | apply below_alloc | apply pw_below_drewN | apply below_drew1) | exact HB.out)) hb); clear HB; have HO103 := n0_; have HB := n1_; clear n0_ n1_; (try clear hb); (try clear hb2); (try clear hk); (try clear hi); (try clear ho0); obtain ⟨Ao10, co10, eo10⟩ := Kd.R_slice HO103.out; subst eo10) | (go_at_call 5; (with_reducible refine (impl_JoinTokens.calls kj2 _ _ t101 t104 t105 _ ?side1 ?side2 A7.out (by first | exact tb_below HTAB.out HB.out | exact tb_below HTAB.out (below_step HB.out HX.out) | (refine tb_below HTAB.out ?_; repeat (first | (with_reducible first | exact HB.out | apply below_alloc | apply pw_below_drewN | apply below_drew1 ) | exact HB.out)))).mono ?_); (case side1 => repeat (first | exact (Kd.R_reads' HO103.out).2.2 | (with_reducible refine Kd.C_alloc ?_ _) | (with_reducible refine Kd.C_drewN ?_ _) | (with_reducible refine Kd.C_drew ?_))); (case side2 => exact (Kd.R_reads' HO103.out).2.1); rintro e w11 ⟨rfl, hb⟩; have n0_ := Aside0.mk (Kd.R_below (by (with_reducible repeat (first | apply Kd.R_alloc | apply Kd.R_drewN | apply Kd.R_drew)); exact HO103.out) hb); have n1_ := Aside0.mk (below_step (by repeat (first | (with_reducible first | exact HB.out | apply below_alloc | apply pw_below_drewN | apply below_drew1) | exact HB.out)) hb); clear HO103; clear HB; have HO103 := n0_; have HB := n1_; clear n0_ n1_; (try clear hb); (try clear hb2); (try clear hk); (try clear hi)) | (go_at_call 6; (with_reducible refine (spec_JoinTokens.calls kj2 _ _ t101 t106 t107 _ ?side1 ?side2 A8.out).mono ?_); (case side1 => repeat (first | exact (Kd.R_reads' HO103.out).2.2 | (with_reducible refine Kd.C_alloc ?_ _) | (with_reducible refine Kd.C_drewN ?_ _) | (with_reducible refine Kd.C_drew ?_))); (case side2 => exact (Kd.R_reads' HO103.out).2.1); rintro e w12 ⟨rfl, hb⟩; have n0_ := Aside0.mk (Kd.R_below (by (with_reducible repeat (first | apply Kd.R_alloc | apply Kd.R_drewN | apply Kd.R_drew)); exact HO103.out) hb); have n1_ := Aside0.mk (below_step (by repeat (first | (with_reducible first | exact HB.out | apply below_alloc | apply pw_below_drewN | apply below_drew1) | exact HB.out)) hb); clear HO103; clear HB; have HO103 := n0_; have HB := n1_; clear n0_ n1_; (try clear hb); (try clear hb2); (try clear hk); (try clear hi)))
        repeat (go_quiet (first | (go_at_call 4; (with_reducible refine (spec_TokensOf.calls kj2 _ _ l0 t101 _ ?side1 ?side2 A6.out).mono ?_); (case side1 => repeat (first | exact (Kd.C_below HR0.out HB.out) | (with_reducible refine Kd.C_alloc ?_ _) | (with_reducible refine Kd.C_drewN ?_ _) | (with_reducible refine Kd.C_drew ?_))); (case side2 => exact HC0.out); rintro e w9 ⟨v102, rfl, ho0, hb⟩; have n0_ := Aside0.mk (Kd.R_lower ho0 (below_size (by repeat (first | (with_reducible first | exact HB.out | apply below_alloc | apply pw_below_drewN | apply below_drew1) | exact HB.out)))); have n1_ := Aside0.mk (below_step (by repeat (first | (with_reducible first | exact HB.out | apply below_alloc | apply pw_below_drewN | apply below_drew1) | exact HB.out)) hb); clear HB; have HO103 := n0_; have HB := n1_; clear n0_ n1_; (try clear hb); (try clear hb2); (try clear hk); (try clear hi); (try clear ho0); obtain ⟨Ao10, co10, eo10⟩ := Kd.R_slice HO103.out; subst eo10) | (go_at_call 5; (with_reducible refine (impl_JoinTokens.calls kj2 _ _ t101 t104 t105 _ ?side1 ?side2 A7.out (by first | exact tb_below HTAB.out HB.out | exact tb_below HTAB.out (below_step HB.out HX.out) | (refine tb_below HTAB.out ?_; repeat (first | (with_reducible first | exact HB.out | apply below_alloc | apply pw_below_drewN | apply below_drew1 ) | exact HB.out)))).mono ?_); (case side1 => repeat (first | exact (Kd.R_reads' HO103.out).2.2 | (with_reducible refine Kd.C_alloc ?_ _) | (with_reducible refine Kd.C_drewN ?_ _) | (with_reducible refine Kd.C_drew ?_))); (case side2 => exact (Kd.R_reads' HO103.out).2.1); rintro e w11 ⟨rfl, hb⟩; have n0_ := Aside0.mk (Kd.R_below (by (with_reducible repeat (first | apply Kd.R_alloc | apply Kd.R_drewN | apply Kd.R_drew)); exact HO103.out) hb); have n1_ := Aside0.mk (below_step (by repeat (first | (with_reducible first | exact HB.out | apply below_alloc | apply pw_below_drewN | apply below_drew1) | exact HB.out)) hb); clear HO103; clear HB; have HO103 := n0_; have HB := n1_; clear n0_ n1_; (try clear hb); (try clear hb2); (try clear hk); (try clear hi)) | (go_at_call 6; (with_reducible refine (spec_JoinTokens.calls kj2 _ _ t101 t106 t107 _ ?side1 ?side2 A8.out).mono ?_); (case side1 => repeat (first | exact (Kd.R_reads' HO103.out).2.2 | (with_reducible refine Kd.C_alloc ?_ _) | (with_reducible refine Kd.C_drewN ?_ _) | (with_reducible refine Kd.C_drew ?_))); (case side2 => exact (Kd.R_reads' HO103.out).2.1); rintro e w12 ⟨rfl, hb⟩; have n0_ := Aside0.mk (Kd.R_below (by (with_reducible repeat (first | apply Kd.R_alloc | apply Kd.R_drewN | apply Kd.R_drew)); exact HO103.out) hb); have n1_ := Aside0.mk (below_step (by repeat (first | (with_reducible first | exact HB.out | apply below_alloc | apply pw_below_drewN | apply below_drew1) | exact HB.out)) hb); clear HO103; clear HB; have HO103 := n0_; have HB := n1_; clear n0_ n1_; (try clear hb); (try clear hb2); (try clear hk); (try clear hi))); try go_wp2_with (first | (go_at_call 4; (with_reducible refine (spec_TokensOf.calls kj2 _ _ l0 t101 _ ?side1 ?side2 A6.out).mono ?_); (case side1 => repeat (first | exact (Kd.C_below HR0.out HB.out) | (with_reducible refine Kd.C_alloc ?_ _) | (with_reducible refine Kd.C_drewN ?_ _) | (with_reducible refine Kd.C_drew ?_))); (case side2 => exact HC0.out); rintro e w9 ⟨v102, rfl, ho0, hb⟩; have n0_ := Aside0.mk (Kd.R_lower ho0 (below_size (by repeat (first | (with_reducible first | exact HB.out | apply below_alloc | apply pw_below_drewN | apply below_drew1) | exact HB.out)))); have n1_ := Aside0.mk (below_step (by repeat (first | (with_reducible first | exact HB.out | apply below_alloc | apply pw_below_drewN | apply below_drew1) | exact HB.out)) hb); clear HB; have HO103 := n0_; have HB := n1_; clear n0_ n1_; (try clear hb); (try clear hb2); (try clear hk); (try clear hi); (try clear ho0); obtain ⟨Ao10, co10, eo10⟩ := Kd.R_slice HO103.out; subst eo10) | (go_at_call 5; (with_reducible refine (impl_JoinTokens.calls kj2 _ _ t101 t104 t105 _ ?side1 ?side2 A7.out (by first | exact tb_below HTAB.out HB.out | exact tb_below HTAB.out (below_step HB.out HX.out) | (refine tb_below HTAB.out ?_; repeat (first | (with_reducible first | exact HB.out | apply below_alloc | apply pw_below_drewN | apply below_drew1 ) | exact HB.out)))).mono ?_); (case side1 => repeat (first | exact (Kd.R_reads' HO103.out).2.2 | (with_reducible refine Kd.C_alloc ?_ _) | (with_reducible refine Kd.C_drewN ?_ _) | (with_reducible refine Kd.C_drew ?_))); (case side2 => exact (Kd.R_reads' HO103.out).2.1); rintro e w11 ⟨rfl, hb⟩; have n0_ := Aside0.mk (Kd.R_below (by (with_reducible repeat (first | apply Kd.R_alloc | apply Kd.R_drewN | apply Kd.R_drew)); exact HO103.out) hb); have n1_ := Aside0.mk (below_step (by repeat (first | (with_reducible first | exact HB.out | apply below_alloc | apply pw_below_drewN | apply below_drew1) | exact HB.out)) hb); clear HO103; clear HB; have HO103 := n0_; have HB := n1_; clear n0_ n1_; (try clear hb); (try clear hb2); (try clear hk); (try clear hi)) | (go_at_call 6; (with_reducible refine (spec_JoinTokens.calls kj2 _ _ t101 t106 t107 _ ?side1 ?side2 A8.out).mono ?_); (case side1 => repeat (first | exact (Kd.R_reads' HO103.out).2.2 | (with_reducible refine Kd.C_alloc ?_ _) | (with_reducible refine Kd.C_drewN ?_ _) | (with_reducible refine Kd.C_drew ?_))); (case side2 => exact (Kd.R_reads' HO103.out).2.1); rintro e w12 ⟨rfl, hb⟩; have n0_ := Aside0.mk (Kd.R_below (by (with_reducible repeat (first | apply Kd.R_alloc | apply Kd.R_drewN | apply Kd.R_drew)); exact HO103.out) hb); have n1_ := Aside0.mk (below_step (by repeat (first | (with_reducible first | exact HB.out | apply below_alloc | apply pw_below_drewN | apply below_drew1) | exact HB.out)) hb); clear HO103; clear HB; have HO103 := n0_; have HB := n1_; clear n0_ n1_; (try clear hb); (try clear hb2); (try clear hk); (try clear hi))))
        go_loopg [10, 11] kj2 (fun kq v10 v11 w' => ∃ (x10_2 : ByteArray) (x11_2 : Int), v10 = .string x10_2 ∧ v11 = .int .i64 x11_2 ∧ Aside0 (laws_FnLex.l0 kq l1 t101 t104 t105 t106 x10_2 x11_2 = some r) ∧ Aside0 (kq ≤ kj2) ∧ Aside0 (Kd.R k29 29 w' w.heap.size (fun _ => True) (.slice Ao10 t101.length co10) t101) ∧ Aside0 (Below w.heap.size w w'))
        case atStart => exact ⟨((⟨#[32, 35, 32, 98, 101, 103, 105, 110, 10]⟩ : ByteArray)), (0), (by first | rfl | (simp; done) | (simp [*]; done)), (by first | rfl | (simp; done) | (simp [*]; done)), H', ⟨Nat.le_refl _⟩, ⟨by (with_reducible repeat (first | apply Kd.R_alloc | apply Kd.R_drewN | apply Kd.R_drew)); exact HO103.out⟩, ⟨by repeat (first | (with_reducible first | exact HB.out | apply below_alloc | apply pw_below_drewN | apply below_drew1) | exact HB.out)⟩⟩
        case round =>
          clear H'
          try clear c1
          try clear p2
          try clear c3
          try clear c4
          try clear c4b0
          try clear c4b1
          try clear c5
          try clear p2
          obtain ⟨x10_2, x11_2, rfl, rfl, HA, HK2, HO_5, HB⟩ := hrel
          cases gk with
          | zero => exact absurd HA.out (by simp [laws_FnLex.l0])
          | succ k2 =>
            have H := HA.out
            clear HA
            simp only [laws_FnLex.l0] at H
            by_cases c13 : x11_2 < (t101.length : Int)
            · rw [if_pos c13] at H
              have c13b0 : decide (x11_2 < (t101.length : Int)) = true := decide_eq_true c13
              clear c13
              by_cases c14 : 0 ≤ x11_2
              · rw [if_pos c14] at H
                have c14b0 : decide (0 ≤ x11_2) = true := decide_eq_true c14
                clear c14
                replace H := Option.bind_eq_some_iff.mp H
                obtain ⟨⟨t109, t110⟩, A150, H⟩ := H
                replace H : (if t110 = 0 then (if (t109.size : Int) = 0 then (none) else ((impl_TokenOK.f k2 ((rd_T29 t101 x11_2).f0) ((rd_T29 t101 x11_2).f1) ((rd_T29 t101 x11_2).f2)).bind fun t112 => (if t112 = true then ((some (([(⟨#[32]⟩ : ByteArray), (⟨#[44]⟩ : ByteArray), (⟨#[10]⟩ : ByteArray), (⟨#[32, 44, 32, 35, 32, 120, 10]⟩ : ByteArray)] : List ByteArray) : List ByteArray)).bind fun y113 => ((laws_at.f l1 x11_2 4).bind fun t116 => (if 0 ≤ t116 then (if t116 < (y113.length : Int) then (if t109.size + (rdOf ByteArray.empty y113 t116).size ≤ 9223372036854775807 then (if x10_2.size + (t109 ++ (rdOf ByteArray.empty y113 t116)).size ≤ 9223372036854775807 then (laws_FnLex.l0 k2 l1 t101 t104 t105 t106 (x10_2 ++ (t109 ++ (rdOf ByteArray.empty y113 t116))) (wrap64 (x11_2 + 1))) else (none)) else (none)) else (none)) else (none)))) else (none)))) else (none)) = some r := H
                have A15 := Aside0.mk A150
                clear A150
                by_cases c16 : t110 = 0
                · rw [if_pos c16] at H
                  have c16b0 : (t110 == 0) = true := beq_iff_eq.mpr c16
                  have c16b1 : (t110 != 0) = false := bne_eq_false_iff_eq.mpr c16
                  clear c16
                  by_cases c17 : (t109.size : Int) = 0
                  · rw [if_pos c17] at H
                    exact absurd H (by simp)
                  · rw [if_neg c17] at H
                    have c17b0 : ((t109.size : Int) == 0) = false := beq_eq_false_iff_ne.mpr c17
                    have c17b1 : ((t109.size : Int) != 0) = true := bne_iff_ne.mpr c17
                    replace H := Option.bind_eq_some_iff.mp H
                    obtain ⟨t112, A180, H⟩ := H
                    replace H : (if t112 = true then ((some (([(⟨#[32]⟩ : ByteArray), (⟨#[44]⟩ : ByteArray), (⟨#[10]⟩ : ByteArray), (⟨#[32, 44, 32, 35, 32, 120, 10]⟩ : ByteArray)] : List ByteArray) : List ByteArray)).bind fun y113 => ((laws_at.f l1 x11_2 4).bind fun t116 => (if 0 ≤ t116 then (if t116 < (y113.length : Int) then (if t109.size + (rdOf ByteArray.empty y113 t116).size ≤ 9223372036854775807 then (if x10_2.size + (t109 ++ (rdOf ByteArray.empty y113 t116)).size ≤ 9223372036854775807 then (laws_FnLex.l0 k2 l1 t101 t104 t105 t106 (x10_2 ++ (t109 ++ (rdOf ByteArray.empty y113 t116))) (wrap64 (x11_2 + 1))) else (none)) else (none)) else (none)) else (none)))) else (none)) = some r := H
                    have A18 := Aside0.mk A180
                    clear A180
                    by_cases c19 : t112 = true
                    · subst c19
                      have H1 : ((some (([(⟨#[32]⟩ : ByteArray), (⟨#[44]⟩ : ByteArray), (⟨#[10]⟩ : ByteArray), (⟨#[32, 44, 32, 35, 32, 120, 10]⟩ : ByteArray)] : List ByteArray) : List ByteArray)).bind fun y113 => ((laws_at.f l1 x11_2 4).bind fun t116 => (if 0 ≤ t116 then (if t116 < (y113.length : Int) then (if t109.size + (rdOf ByteArray.empty y113 t116).size ≤ 9223372036854775807 then (if x10_2.size + (t109 ++ (rdOf ByteArray.empty y113 t116)).size ≤ 9223372036854775807 then (laws_FnLex.l0 k2 l1 t101 t104 t105 t106 (x10_2 ++ (t109 ++ (rdOf ByteArray.empty y113 t116))) (wrap64 (x11_2 + 1))) else (none)) else (none)) else (none)) else (none)))) = some r := by rw [if_pos rfl] at H; exact H
                      clear H
                      have H := H1
                      clear H1
                      obtain ⟨y113, hy113⟩ : ∃ y_ : List ByteArray, y_ = (([(⟨#[32]⟩ : ByteArray), (⟨#[44]⟩ : ByteArray), (⟨#[10]⟩ : ByteArray), (⟨#[32, 44, 32, 35, 32, 120, 10]⟩ : ByteArray)] : List ByteArray)) := ⟨_, rfl⟩
                      replace H : ((laws_at.f l1 x11_2 4).bind fun t116 => (if 0 ≤ t116 then (if t116 < (y113.length : Int) then (if t109.size + (rdOf ByteArray.empty y113 t116).size ≤ 9223372036854775807 then (if x10_2.size + (t109 ++ (rdOf ByteArray.empty y113 t116)).size ≤ 9223372036854775807 then (laws_FnLex.l0 k2 l1 t101 t104 t105 t106 (x10_2 ++ (t109 ++ (rdOf ByteArray.empty y113 t116))) (wrap64 (x11_2 + 1))) else (none)) else (none)) else (none)) else (none))) = some r := by first | (rw [hy113]; with_reducible exact H) | (have H2_ := (Option.bind_some _ _).symm.trans H; rw [hy113]; with_reducible exact H2_) | (have H2_ := (Option.bind_some _ _).symm.trans H; with_reducible exact H2_) | with_reducible exact H | (rw [hy113]; exact H) | exact H
                      have Ny113 := Aside0.mk hy113
                      clear hy113
                      replace H := Option.bind_eq_some_iff.mp H
                      obtain ⟨t116, A200, H⟩ := H
                      replace H : (if 0 ≤ t116 then (if t116 < (y113.length : Int) then (if t109.size + (rdOf ByteArray.empty y113 t116).size ≤ 9223372036854775807 then (if x10_2.size + (t109 ++ (rdOf ByteArray.empty y113 t116)).size ≤ 9223372036854775807 then (laws_FnLex.l0 k2 l1 t101 t104 t105 t106 (x10_2 ++ (t109 ++ (rdOf ByteArray.empty y113 t116))) (wrap64 (x11_2 + 1))) else (none)) else (none)) else (none)) else (none)) = some r := H
                      have A20 := Aside0.mk A200
                      clear A200
                      by_cases c21 : 0 ≤ t116
                      · rw [if_pos c21] at H
                        have c21b0 : decide (0 ≤ t116) = true := decide_eq_true c21
                        clear c21
                        by_cases c22 : t116 < (y113.length : Int)
                        · rw [if_pos c22] at H
                          have c22b0 : decide (t116 < (y113.length : Int)) = true := decide_eq_true c22
                          clear c22
                          by_cases c23 : t109.size + (rdOf ByteArray.empty y113 t116).size ≤ 9223372036854775807
                          · rw [if_pos c23] at H
                            have c23b0 := eq_true c23
                            have c23b1 : decide (t109.size + (rdOf ByteArray.empty y113 t116).size ≤ 9223372036854775807) = true := decide_eq_true c23
                            try have c23b2 : (9223372036854775807 < t109.size + (rdOf ByteArray.empty y113 t116).size) = False := eq_false (Nat.not_lt.2 c23)
                            by_cases c24 : x10_2.size + (t109 ++ (rdOf ByteArray.empty y113 t116)).size ≤ 9223372036854775807
                            · rw [if_pos c24] at H
                              have c24z : x10_2.size + (t109.size + (rdOf ByteArray.empty y113 t116).size) ≤ 9223372036854775807 := by (have h_ := c24; (repeat rw [ByteArray.size_append] at h_); exact h_)
                              have c24zt := eq_true c24z
                              have c24zf : (9223372036854775807 < x10_2.size + (t109.size + (rdOf ByteArray.empty y113 t116).size)) = False := eq_false (Nat.not_lt.2 c24z)
                              have c24b0 := eq_true c24
                              have c24b1 : decide (x10_2.size + (t109 ++ (rdOf ByteArray.empty y113 t116)).size ≤ 9223372036854775807) = true := decide_eq_true c24
                              try have c24b2 : (9223372036854775807 < x10_2.size + (t109 ++ (rdOf ByteArray.empty y113 t116)).size) = False := eq_false (Nat.not_lt.2 c24)
                              have H' := Aside0.mk H
                              clear H
                              have p108 : 0 ≤ (x11_2 : Int) := of_decide_eq_true (by first | (with_reducible assumption) | assumption)
                              have q108 : x11_2 < (t101.length : Int) := of_decide_eq_true (by first | (with_reducible assumption) | assumption)
                              obtain ⟨ad108, e108, hx108_0, hx108_1, hx108_2⟩ := at_T29 (Kd.R_reads' HO_5.out).2.2 x11_2 p108 q108
                              cases e108
                              replace p108 := eq_true p108
                              replace q108 := eq_true q108
                              go_wp2_with (first | (go_at_call 7; (with_reducible refine (impl_TokenText.calls k2 ((rd_T29 t101 x11_2).f0) ((rd_T29 t101 x11_2).f1) ((rd_T29 t101 x11_2).f2) t109 t110 _ A15.out (by first | exact tb_below HTAB.out HB.out | exact tb_below HTAB.out (below_step HB.out HX.out) | (refine tb_below HTAB.out ?_; repeat (first | (with_reducible first | exact HB.out | apply below_alloc | apply pw_below_drewN | apply below_drew1 ) | exact HB.out)))).mono ?_); rintro e w25 ⟨rfl, hb⟩; have n0_ := Aside0.mk (Kd.R_below (by (with_reducible repeat (first | apply Kd.R_alloc | apply Kd.R_drewN | apply Kd.R_drew)); exact HO_5.out) hb); have n1_ := Aside0.mk (below_step (by repeat (first | (with_reducible first | exact HB.out | apply below_alloc | apply pw_below_drewN | apply below_drew1) | exact HB.out)) hb); clear HO_5; clear HB; have HO_5 := n0_; have HB := n1_; clear n0_ n1_; (try clear hb); (try clear hb2); (try clear hk); (try clear hi); have p111 : 0 ≤ (x11_2 : Int) := of_decide_eq_true (by first | (with_reducible assumption) | assumption); have q111 : x11_2 < (t101.length : Int) := of_decide_eq_true (by first | (with_reducible assumption) | assumption); obtain ⟨ad111, e111, hx111_0, hx111_1, hx111_2⟩ := at_T29 (Kd.R_reads' HO_5.out).2.2 x11_2 p111 q111; obtain rfl : ad108 = ad111 := (by injection e111); replace p111 := eq_true p111; replace q111 := eq_true q111) | (go_at_call 8; (with_reducible refine (impl_TokenOK.calls k2 ((rd_T29 t101 x11_2).f0) ((rd_T29 t101 x11_2).f1) ((rd_T29 t101 x11_2).f2) true _ A18.out).mono ?_); rintro e w26 ⟨rfl, hb⟩; have n0_ := Aside0.mk (Kd.R_below (by (with_reducible repeat (first | apply Kd.R_alloc | apply Kd.R_drewN | apply Kd.R_drew)); exact HO_5.out) hb); have n1_ := Aside0.mk (below_step (by repeat (first | (with_reducible first | exact HB.out | apply below_alloc | apply pw_below_drewN | apply below_drew1) | exact HB.out)) hb); clear HO_5; clear HB; have HO_5 := n0_; have HB := n1_; clear n0_ n1_; (try clear hb); (try clear hb2); (try clear hk); (try clear hi)) | ((with_reducible refine gate_dst (N := 72) rfl ?_); (try (refine gate_guard (by rfl) ?_; dsimp only)); refine Kd.R_lit Kd.string _ 9 ?hg (N := 72) ?hd (xs := ([(⟨#[32]⟩ : ByteArray), (⟨#[44]⟩ : ByteArray), (⟨#[10]⟩ : ByteArray), (⟨#[32, 44, 32, 35, 32, 120, 10]⟩ : ByteArray)] : List ByteArray)) (inner := [.string (⟨#[32]⟩ : ByteArray), .string (⟨#[44]⟩ : ByteArray), .string (⟨#[10]⟩ : ByteArray), .string (⟨#[32, 44, 32, 35, 32, 120, 10]⟩ : ByteArray)]) (ok := fun _ => True) (okp := fun _ => True) ?hr ?hp (fun _ hk => hk) trivial (Below.refl _ _) (Nat.le_refl _) (by simp) ?_; (case hd => rfl); (case hg => rfl); (case hr => first | (go_simp; done) | (go_simp; rfl)); (case hp => exact (Reps.one (show Kd.M Kd.string _ _ _ (⟨#[32]⟩ : ByteArray) [.string (⟨#[32]⟩ : ByteArray)] from rfl) (Reps.one (show Kd.M Kd.string _ _ _ (⟨#[44]⟩ : ByteArray) [.string (⟨#[44]⟩ : ByteArray)] from rfl) (Reps.one (show Kd.M Kd.string _ _ _ (⟨#[10]⟩ : ByteArray) [.string (⟨#[10]⟩ : ByteArray)] from rfl) (Reps.one (show Kd.M Kd.string _ _ _ (⟨#[32, 44, 32, 35, 32, 120, 10]⟩ : ByteArray) [.string (⟨#[32, 44, 32, 35, 32, 120, 10]⟩ : ByteArray)] from rfl) (Reps.none _ _)))))); intro v114 w27 ho28 hb hg_ hnew_; clear hg_ hnew_; (first | rw [← Ny113.out] at ho28 | (simp only [Int.reduceToNat] at ho28; rw [← Ny113.out] at ho28)); have n0_ := Aside0.mk (Kd.R_below (by (with_reducible repeat (first | apply Kd.R_alloc | apply Kd.R_drewN | apply Kd.R_drew)); exact HO_5.out) hb); have n1_ := Aside0.mk (Kd.R_lower ho28 (below_size (by repeat (first | (with_reducible first | exact HB.out | apply below_alloc | apply pw_below_drewN | apply below_drew1) | exact HB.out)))); have n2_ := Aside0.mk (below_step (by repeat (first | (with_reducible first | exact HB.out | apply below_alloc | apply pw_below_drewN | apply below_drew1) | exact HB.out)) hb); clear HO_5; clear HB; have HO_5 := n0_; have HO115 := n1_; have HB := n2_; clear n0_ n1_ n2_; clear hb ho28) | (go_at_call 9; (with_reducible refine (laws_at.calls _ _ l1 x11_2 4 t116 _ ?side1 ?side2 A20.out).mono ?_); (case side1 => repeat (first | exact (Kd.C_below HR1.out HB.out) | (with_reducible refine Kd.C_alloc ?_ _) | (with_reducible refine Kd.C_drewN ?_ _) | (with_reducible refine Kd.C_drew ?_))); (case side2 => exact HC1.out); rintro e w' ⟨rfl, ⟨nd, rfl⟩⟩; (try first | exact ⟨rfl, _, World.drewN_drewN _ _ _⟩ | exact ⟨rfl, _, Eq.trans (World.drewN_drewN _ _ _) (congrArg (World.drewN _) (Nat.add_assoc _ _ _))⟩); obtain ⟨Ao29, co29, eo29⟩ := Kd.R_slice HO115.out; subst eo29; have p117 : 0 ≤ (t116 : Int) := of_decide_eq_true (by first | (with_reducible assumption) | assumption); have q117 : t116 < (y113.length : Int) := of_decide_eq_true (by first | (with_reducible assumption) | assumption); obtain ⟨ad117, e117, hx117_0⟩ := Kd.at_string (Kd.R_reads' HO115.out).2.2 t116 p117 q117; cases e117; replace p117 := eq_true p117; replace q117 := eq_true q117))
                              repeat (go_quiet (first | (go_at_call 7; (with_reducible refine (impl_TokenText.calls k2 ((rd_T29 t101 x11_2).f0) ((rd_T29 t101 x11_2).f1) ((rd_T29 t101 x11_2).f2) t109 t110 _ A15.out (by first | exact tb_below HTAB.out HB.out | exact tb_below HTAB.out (below_step HB.out HX.out) | (refine tb_below HTAB.out ?_; repeat (first | (with_reducible first | exact HB.out | apply below_alloc | apply pw_below_drewN | apply below_drew1 ) | exact HB.out)))).mono ?_); rintro e w25 ⟨rfl, hb⟩; have n0_ := Aside0.mk (Kd.R_below (by (with_reducible repeat (first | apply Kd.R_alloc | apply Kd.R_drewN | apply Kd.R_drew)); exact HO_5.out) hb); have n1_ := Aside0.mk (below_step (by repeat (first | (with_reducible first | exact HB.out | apply below_alloc | apply pw_below_drewN | apply below_drew1) | exact HB.out)) hb); clear HO_5; clear HB; have HO_5 := n0_; have HB := n1_; clear n0_ n1_; (try clear hb); (try clear hb2); (try clear hk); (try clear hi); have p111 : 0 ≤ (x11_2 : Int) := of_decide_eq_true (by first | (with_reducible assumption) | assumption); have q111 : x11_2 < (t101.length : Int) := of_decide_eq_true (by first | (with_reducible assumption) | assumption); obtain ⟨ad111, e111, hx111_0, hx111_1, hx111_2⟩ := at_T29 (Kd.R_reads' HO_5.out).2.2 x11_2 p111 q111; obtain rfl : ad108 = ad111 := (by injection e111); replace p111 := eq_true p111; replace q111 := eq_true q111) | (go_at_call 8; (with_reducible refine (impl_TokenOK.calls k2 ((rd_T29 t101 x11_2).f0) ((rd_T29 t101 x11_2).f1) ((rd_T29 t101 x11_2).f2) true _ A18.out).mono ?_); rintro e w26 ⟨rfl, hb⟩; have n0_ := Aside0.mk (Kd.R_below (by (with_reducible repeat (first | apply Kd.R_alloc | apply Kd.R_drewN | apply Kd.R_drew)); exact HO_5.out) hb); have n1_ := Aside0.mk (below_step (by repeat (first | (with_reducible first | exact HB.out | apply below_alloc | apply pw_below_drewN | apply below_drew1) | exact HB.out)) hb); clear HO_5; clear HB; have HO_5 := n0_; have HB := n1_; clear n0_ n1_; (try clear hb); (try clear hb2); (try clear hk); (try clear hi)) | ((with_reducible refine gate_dst (N := 72) rfl ?_); (try (refine gate_guard (by rfl) ?_; dsimp only)); refine Kd.R_lit Kd.string _ 9 ?hg (N := 72) ?hd (xs := ([(⟨#[32]⟩ : ByteArray), (⟨#[44]⟩ : ByteArray), (⟨#[10]⟩ : ByteArray), (⟨#[32, 44, 32, 35, 32, 120, 10]⟩ : ByteArray)] : List ByteArray)) (inner := [.string (⟨#[32]⟩ : ByteArray), .string (⟨#[44]⟩ : ByteArray), .string (⟨#[10]⟩ : ByteArray), .string (⟨#[32, 44, 32, 35, 32, 120, 10]⟩ : ByteArray)]) (ok := fun _ => True) (okp := fun _ => True) ?hr ?hp (fun _ hk => hk) trivial (Below.refl _ _) (Nat.le_refl _) (by simp) ?_; (case hd => rfl); (case hg => rfl); (case hr => first | (go_simp; done) | (go_simp; rfl)); (case hp => exact (Reps.one (show Kd.M Kd.string _ _ _ (⟨#[32]⟩ : ByteArray) [.string (⟨#[32]⟩ : ByteArray)] from rfl) (Reps.one (show Kd.M Kd.string _ _ _ (⟨#[44]⟩ : ByteArray) [.string (⟨#[44]⟩ : ByteArray)] from rfl) (Reps.one (show Kd.M Kd.string _ _ _ (⟨#[10]⟩ : ByteArray) [.string (⟨#[10]⟩ : ByteArray)] from rfl) (Reps.one (show Kd.M Kd.string _ _ _ (⟨#[32, 44, 32, 35, 32, 120, 10]⟩ : ByteArray) [.string (⟨#[32, 44, 32, 35, 32, 120, 10]⟩ : ByteArray)] from rfl) (Reps.none _ _)))))); intro v114 w27 ho28 hb hg_ hnew_; clear hg_ hnew_; (first | rw [← Ny113.out] at ho28 | (simp only [Int.reduceToNat] at ho28; rw [← Ny113.out] at ho28)); have n0_ := Aside0.mk (Kd.R_below (by (with_reducible repeat (first | apply Kd.R_alloc | apply Kd.R_drewN | apply Kd.R_drew)); exact HO_5.out) hb); have n1_ := Aside0.mk (Kd.R_lower ho28 (below_size (by repeat (first | (with_reducible first | exact HB.out | apply below_alloc | apply pw_below_drewN | apply below_drew1) | exact HB.out)))); have n2_ := Aside0.mk (below_step (by repeat (first | (with_reducible first | exact HB.out | apply below_alloc | apply pw_below_drewN | apply below_drew1) | exact HB.out)) hb); clear HO_5; clear HB; have HO_5 := n0_; have HO115 := n1_; have HB := n2_; clear n0_ n1_ n2_; clear hb ho28) | (go_at_call 9; (with_reducible refine (laws_at.calls _ _ l1 x11_2 4 t116 _ ?side1 ?side2 A20.out).mono ?_); (case side1 => repeat (first | exact (Kd.C_below HR1.out HB.out) | (with_reducible refine Kd.C_alloc ?_ _) | (with_reducible refine Kd.C_drewN ?_ _) | (with_reducible refine Kd.C_drew ?_))); (case side2 => exact HC1.out); rintro e w' ⟨rfl, ⟨nd, rfl⟩⟩; (try first | exact ⟨rfl, _, World.drewN_drewN _ _ _⟩ | exact ⟨rfl, _, Eq.trans (World.drewN_drewN _ _ _) (congrArg (World.drewN _) (Nat.add_assoc _ _ _))⟩); obtain ⟨Ao29, co29, eo29⟩ := Kd.R_slice HO115.out; subst eo29; have p117 : 0 ≤ (t116 : Int) := of_decide_eq_true (by first | (with_reducible assumption) | assumption); have q117 : t116 < (y113.length : Int) := of_decide_eq_true (by first | (with_reducible assumption) | assumption); obtain ⟨ad117, e117, hx117_0⟩ := Kd.at_string (Kd.R_reads' HO115.out).2.2 t116 p117 q117; cases e117; replace p117 := eq_true p117; replace q117 := eq_true q117)); try go_wp2_with (first | (go_at_call 7; (with_reducible refine (impl_TokenText.calls k2 ((rd_T29 t101 x11_2).f0) ((rd_T29 t101 x11_2).f1) ((rd_T29 t101 x11_2).f2) t109 t110 _ A15.out (by first | exact tb_below HTAB.out HB.out | exact tb_below HTAB.out (below_step HB.out HX.out) | (refine tb_below HTAB.out ?_; repeat (first | (with_reducible first | exact HB.out | apply below_alloc | apply pw_below_drewN | apply below_drew1 ) | exact HB.out)))).mono ?_); rintro e w25 ⟨rfl, hb⟩; have n0_ := Aside0.mk (Kd.R_below (by (with_reducible repeat (first | apply Kd.R_alloc | apply Kd.R_drewN | apply Kd.R_drew)); exact HO_5.out) hb); have n1_ := Aside0.mk (below_step (by repeat (first | (with_reducible first | exact HB.out | apply below_alloc | apply pw_below_drewN | apply below_drew1) | exact HB.out)) hb); clear HO_5; clear HB; have HO_5 := n0_; have HB := n1_; clear n0_ n1_; (try clear hb); (try clear hb2); (try clear hk); (try clear hi); have p111 : 0 ≤ (x11_2 : Int) := of_decide_eq_true (by first | (with_reducible assumption) | assumption); have q111 : x11_2 < (t101.length : Int) := of_decide_eq_true (by first | (with_reducible assumption) | assumption); obtain ⟨ad111, e111, hx111_0, hx111_1, hx111_2⟩ := at_T29 (Kd.R_reads' HO_5.out).2.2 x11_2 p111 q111; obtain rfl : ad108 = ad111 := (by injection e111); replace p111 := eq_true p111; replace q111 := eq_true q111) | (go_at_call 8; (with_reducible refine (impl_TokenOK.calls k2 ((rd_T29 t101 x11_2).f0) ((rd_T29 t101 x11_2).f1) ((rd_T29 t101 x11_2).f2) true _ A18.out).mono ?_); rintro e w26 ⟨rfl, hb⟩; have n0_ := Aside0.mk (Kd.R_below (by (with_reducible repeat (first | apply Kd.R_alloc | apply Kd.R_drewN | apply Kd.R_drew)); exact HO_5.out) hb); have n1_ := Aside0.mk (below_step (by repeat (first | (with_reducible first | exact HB.out | apply below_alloc | apply pw_below_drewN | apply below_drew1) | exact HB.out)) hb); clear HO_5; clear HB; have HO_5 := n0_; have HB := n1_; clear n0_ n1_; (try clear hb); (try clear hb2); (try clear hk); (try clear hi)) | ((with_reducible refine gate_dst (N := 72) rfl ?_); (try (refine gate_guard (by rfl) ?_; dsimp only)); refine Kd.R_lit Kd.string _ 9 ?hg (N := 72) ?hd (xs := ([(⟨#[32]⟩ : ByteArray), (⟨#[44]⟩ : ByteArray), (⟨#[10]⟩ : ByteArray), (⟨#[32, 44, 32, 35, 32, 120, 10]⟩ : ByteArray)] : List ByteArray)) (inner := [.string (⟨#[32]⟩ : ByteArray), .string (⟨#[44]⟩ : ByteArray), .string (⟨#[10]⟩ : ByteArray), .string (⟨#[32, 44, 32, 35, 32, 120, 10]⟩ : ByteArray)]) (ok := fun _ => True) (okp := fun _ => True) ?hr ?hp (fun _ hk => hk) trivial (Below.refl _ _) (Nat.le_refl _) (by simp) ?_; (case hd => rfl); (case hg => rfl); (case hr => first | (go_simp; done) | (go_simp; rfl)); (case hp => exact (Reps.one (show Kd.M Kd.string _ _ _ (⟨#[32]⟩ : ByteArray) [.string (⟨#[32]⟩ : ByteArray)] from rfl) (Reps.one (show Kd.M Kd.string _ _ _ (⟨#[44]⟩ : ByteArray) [.string (⟨#[44]⟩ : ByteArray)] from rfl) (Reps.one (show Kd.M Kd.string _ _ _ (⟨#[10]⟩ : ByteArray) [.string (⟨#[10]⟩ : ByteArray)] from rfl) (Reps.one (show Kd.M Kd.string _ _ _ (⟨#[32, 44, 32, 35, 32, 120, 10]⟩ : ByteArray) [.string (⟨#[32, 44, 32, 35, 32, 120, 10]⟩ : ByteArray)] from rfl) (Reps.none _ _)))))); intro v114 w27 ho28 hb hg_ hnew_; clear hg_ hnew_; (first | rw [← Ny113.out] at ho28 | (simp only [Int.reduceToNat] at ho28; rw [← Ny113.out] at ho28)); have n0_ := Aside0.mk (Kd.R_below (by (with_reducible repeat (first | apply Kd.R_alloc | apply Kd.R_drewN | apply Kd.R_drew)); exact HO_5.out) hb); have n1_ := Aside0.mk (Kd.R_lower ho28 (below_size (by repeat (first | (with_reducible first | exact HB.out | apply below_alloc | apply pw_below_drewN | apply below_drew1) | exact HB.out)))); have n2_ := Aside0.mk (below_step (by repeat (first | (with_reducible first | exact HB.out | apply below_alloc | apply pw_below_drewN | apply below_drew1) | exact HB.out)) hb); clear HO_5; clear HB; have HO_5 := n0_; have HO115 := n1_; have HB := n2_; clear n0_ n1_ n2_; clear hb ho28) | (go_at_call 9; (with_reducible refine (laws_at.calls _ _ l1 x11_2 4 t116 _ ?side1 ?side2 A20.out).mono ?_); (case side1 => repeat (first | exact (Kd.C_below HR1.out HB.out) | (with_reducible refine Kd.C_alloc ?_ _) | (with_reducible refine Kd.C_drewN ?_ _) | (with_reducible refine Kd.C_drew ?_))); (case side2 => exact HC1.out); rintro e w' ⟨rfl, ⟨nd, rfl⟩⟩; (try first | exact ⟨rfl, _, World.drewN_drewN _ _ _⟩ | exact ⟨rfl, _, Eq.trans (World.drewN_drewN _ _ _) (congrArg (World.drewN _) (Nat.add_assoc _ _ _))⟩); obtain ⟨Ao29, co29, eo29⟩ := Kd.R_slice HO115.out; subst eo29; have p117 : 0 ≤ (t116 : Int) := of_decide_eq_true (by first | (with_reducible assumption) | assumption); have q117 : t116 < (y113.length : Int) := of_decide_eq_true (by first | (with_reducible assumption) | assumption); obtain ⟨ad117, e117, hx117_0⟩ := Kd.at_string (Kd.R_reads' HO115.out).2.2 t116 p117 q117; cases e117; replace p117 := eq_true p117; replace q117 := eq_true q117)))
                              go_roundg k2
                              case measure => have := HJ2.out; have := HK2.out; omega
                              case rel => exact ⟨(x10_2 ++ (t109 ++ (rdOf ByteArray.empty y113 t116))), (wrap64 (x11_2 + 1)), (by first | rfl | (simp; done) | (simp [*]; done)), (by first | rfl | (simp; done) | (simp [*]; done)), H', ⟨by have := HJ2.out; have := HK2.out; omega⟩, ⟨by (with_reducible repeat (first | apply Kd.R_alloc | apply Kd.R_drewN | apply Kd.R_drew)); exact HO_5.out⟩, ⟨by repeat (first | (with_reducible first | exact HB.out | apply below_alloc | apply pw_below_drewN | apply below_drew1) | exact HB.out)⟩⟩
                            · rw [if_neg c24] at H
                              exact absurd H (by simp)
                          · rw [if_neg c23] at H
                            exact absurd H (by simp)
                        · rw [if_neg c22] at H
                          exact absurd H (by simp)
                      · rw [if_neg c21] at H
                        exact absurd H (by simp)
                    · replace c19 := Bool.eq_false_iff.mpr c19
                      subst c19
                      have H1 : (none) = some r := by rw [if_neg (show ¬ (false = true) by decide)] at H; exact H
                      clear H
                      have H := H1
                      clear H1
                      exact absurd H (by simp)
                · rw [if_neg c16] at H
                  exact absurd H (by simp)
              · rw [if_neg c14] at H
                exact absurd H (by simp)
            · rw [if_neg c13] at H
              have c13b0 : decide (x11_2 < (t101.length : Int)) = false := decide_eq_false c13
              clear c13
              replace H := Option.bind_eq_some_iff.mp H
              obtain ⟨⟨t118, t119⟩, A300, H⟩ := H
              replace H : ((impl_Lex.f k2 x10_2).bind fun bt122 => (if t105 = 0 then (if t104.toList = t106.toList then (if t119 = 0 then (if bt122.2 = 0 then (if (t118.length : Int) = (t101.length : Int) then (laws_FnLex.j2 k2 t101 t104 t118 bt122.1 ((bt122.1.length : Int) != (t101.length : Int))) else (laws_FnLex.j2 k2 t101 t104 t118 bt122.1 true)) else (laws_FnLex.j2 k2 t101 t104 t118 bt122.1 true)) else (laws_FnLex.j2 k2 t101 t104 t118 bt122.1 true)) else (laws_FnLex.j2 k2 t101 t104 t118 bt122.1 true)) else (laws_FnLex.j2 k2 t101 t104 t118 bt122.1 true))) = some r := H
              have A30 := Aside0.mk A300
              clear A300
              replace H := Option.bind_eq_some_iff.mp H
              obtain ⟨⟨t122, t123⟩, A310, H⟩ := H
              replace H : (if t105 = 0 then (if t104.toList = t106.toList then (if t119 = 0 then (if t123 = 0 then (if (t118.length : Int) = (t101.length : Int) then (laws_FnLex.j2 k2 t101 t104 t118 t122 ((t122.length : Int) != (t101.length : Int))) else (laws_FnLex.j2 k2 t101 t104 t118 t122 true)) else (laws_FnLex.j2 k2 t101 t104 t118 t122 true)) else (laws_FnLex.j2 k2 t101 t104 t118 t122 true)) else (laws_FnLex.j2 k2 t101 t104 t118 t122 true)) else (laws_FnLex.j2 k2 t101 t104 t118 t122 true)) = some r := H
              have A31 := Aside0.mk A310
              clear A310
              have HC32 := Aside0.mk H
              clear H
              go_upto_region 16 with (first | (go_at_call 10; (with_reducible refine (impl_Lex.calls k2 t104 t118 t119 _ A30.out (by first | exact tb_below HTAB.out HB.out | exact tb_below HTAB.out (below_step HB.out HX.out) | (refine tb_below HTAB.out ?_; repeat (first | (with_reducible first | exact HB.out | apply below_alloc | apply pw_below_drewN | apply below_drew1 ) | exact HB.out)))).mono ?_); rintro e w33 ⟨v120, rfl, ho0, hb⟩; have n0_ := Aside0.mk (Kd.R_elder' (by (with_reducible repeat (first | apply Kd.R_alloc | apply Kd.R_drewN | apply Kd.R_drew)); exact HO_5.out) (Kd.R_base ho0) hb); have n1_ := Aside0.mk (Kd.R_lower (Kd.R_new' ho0 (Kd.R_lt (by (with_reducible repeat (first | apply Kd.R_alloc | apply Kd.R_drewN | apply Kd.R_drew)); exact HO_5.out))) (below_size (by repeat (first | (with_reducible first | exact HB.out | apply below_alloc | apply pw_below_drewN | apply below_drew1) | exact HB.out)))); have n2_ := Aside0.mk (below_step (by repeat (first | (with_reducible first | exact HB.out | apply below_alloc | apply pw_below_drewN | apply below_drew1) | exact HB.out)) hb); clear HO_5; clear HB; have HO_5 := n0_; have HO121 := n1_; have HB := n2_; clear n0_ n1_ n2_; (try clear hb); (try clear hb2); (try clear hk); (try clear hi); (try clear ho0)) | (go_at_call 10; (with_reducible refine (impl_Lex.calls k2 x10_2 t122 t123 _ A31.out (by first | exact tb_below HTAB.out HB.out | exact tb_below HTAB.out (below_step HB.out HX.out) | (refine tb_below HTAB.out ?_; repeat (first | (with_reducible first | exact HB.out | apply below_alloc | apply pw_below_drewN | apply below_drew1 ) | exact HB.out)))).mono ?_); rintro e w34 ⟨v124, rfl, ho0, hb⟩; have n0_ := Aside0.mk (Kd.R_elder' (by (with_reducible repeat (first | apply Kd.R_alloc | apply Kd.R_drewN | apply Kd.R_drew)); exact HO_5.out) (Kd.R_base ho0) hb); have n1_ := Aside0.mk (Kd.R_elder' (by (with_reducible repeat (first | apply Kd.R_alloc | apply Kd.R_drewN | apply Kd.R_drew)); exact HO121.out) (Kd.R_base ho0) hb); have n2_ := Aside0.mk (Kd.R_lower (Kd.R_new' (Kd.R_new' ho0 (Kd.R_lt (by (with_reducible repeat (first | apply Kd.R_alloc | apply Kd.R_drewN | apply Kd.R_drew)); exact HO_5.out))) (Kd.R_lt (by (with_reducible repeat (first | apply Kd.R_alloc | apply Kd.R_drewN | apply Kd.R_drew)); exact HO121.out))) (below_size (by repeat (first | (with_reducible first | exact HB.out | apply below_alloc | apply pw_below_drewN | apply below_drew1) | exact HB.out)))); have n3_ := Aside0.mk (below_step (by repeat (first | (with_reducible first | exact HB.out | apply below_alloc | apply pw_below_drewN | apply below_drew1) | exact HB.out)) hb); clear HO_5; clear HO121; clear HB; have HO_5 := n0_; have HO121 := n1_; have HO125 := n2_; have HB := n3_; clear n0_ n1_ n2_ n3_; (try clear hb); (try clear hb2); (try clear hk); (try clear hi); (try clear ho0)))
              repeat (go_quiet (first | (go_at_call 10; (with_reducible refine (impl_Lex.calls k2 t104 t118 t119 _ A30.out (by first | exact tb_below HTAB.out HB.out | exact tb_below HTAB.out (below_step HB.out HX.out) | (refine tb_below HTAB.out ?_; repeat (first | (with_reducible first | exact HB.out | apply below_alloc | apply pw_below_drewN | apply below_drew1 ) | exact HB.out)))).mono ?_); rintro e w33 ⟨v120, rfl, ho0, hb⟩; have n0_ := Aside0.mk (Kd.R_elder' (by (with_reducible repeat (first | apply Kd.R_alloc | apply Kd.R_drewN | apply Kd.R_drew)); exact HO_5.out) (Kd.R_base ho0) hb); have n1_ := Aside0.mk (Kd.R_lower (Kd.R_new' ho0 (Kd.R_lt (by (with_reducible repeat (first | apply Kd.R_alloc | apply Kd.R_drewN | apply Kd.R_drew)); exact HO_5.out))) (below_size (by repeat (first | (with_reducible first | exact HB.out | apply below_alloc | apply pw_below_drewN | apply below_drew1) | exact HB.out)))); have n2_ := Aside0.mk (below_step (by repeat (first | (with_reducible first | exact HB.out | apply below_alloc | apply pw_below_drewN | apply below_drew1) | exact HB.out)) hb); clear HO_5; clear HB; have HO_5 := n0_; have HO121 := n1_; have HB := n2_; clear n0_ n1_ n2_; (try clear hb); (try clear hb2); (try clear hk); (try clear hi); (try clear ho0)) | (go_at_call 10; (with_reducible refine (impl_Lex.calls k2 x10_2 t122 t123 _ A31.out (by first | exact tb_below HTAB.out HB.out | exact tb_below HTAB.out (below_step HB.out HX.out) | (refine tb_below HTAB.out ?_; repeat (first | (with_reducible first | exact HB.out | apply below_alloc | apply pw_below_drewN | apply below_drew1 ) | exact HB.out)))).mono ?_); rintro e w34 ⟨v124, rfl, ho0, hb⟩; have n0_ := Aside0.mk (Kd.R_elder' (by (with_reducible repeat (first | apply Kd.R_alloc | apply Kd.R_drewN | apply Kd.R_drew)); exact HO_5.out) (Kd.R_base ho0) hb); have n1_ := Aside0.mk (Kd.R_elder' (by (with_reducible repeat (first | apply Kd.R_alloc | apply Kd.R_drewN | apply Kd.R_drew)); exact HO121.out) (Kd.R_base ho0) hb); have n2_ := Aside0.mk (Kd.R_lower (Kd.R_new' (Kd.R_new' ho0 (Kd.R_lt (by (with_reducible repeat (first | apply Kd.R_alloc | apply Kd.R_drewN | apply Kd.R_drew)); exact HO_5.out))) (Kd.R_lt (by (with_reducible repeat (first | apply Kd.R_alloc | apply Kd.R_drewN | apply Kd.R_drew)); exact HO121.out))) (below_size (by repeat (first | (with_reducible first | exact HB.out | apply below_alloc | apply pw_below_drewN | apply below_drew1) | exact HB.out)))); have n3_ := Aside0.mk (below_step (by repeat (first | (with_reducible first | exact HB.out | apply below_alloc | apply pw_below_drewN | apply below_drew1) | exact HB.out)) hb); clear HO_5; clear HO121; clear HB; have HO_5 := n0_; have HO121 := n1_; have HO125 := n2_; have HB := n3_; clear n0_ n1_ n2_ n3_; (try clear hb); (try clear hb2); (try clear hk); (try clear hi); (try clear ho0))); go_upto_region 16 with (first | (go_at_call 10; (with_reducible refine (impl_Lex.calls k2 t104 t118 t119 _ A30.out (by first | exact tb_below HTAB.out HB.out | exact tb_below HTAB.out (below_step HB.out HX.out) | (refine tb_below HTAB.out ?_; repeat (first | (with_reducible first | exact HB.out | apply below_alloc | apply pw_below_drewN | apply below_drew1 ) | exact HB.out)))).mono ?_); rintro e w33 ⟨v120, rfl, ho0, hb⟩; have n0_ := Aside0.mk (Kd.R_elder' (by (with_reducible repeat (first | apply Kd.R_alloc | apply Kd.R_drewN | apply Kd.R_drew)); exact HO_5.out) (Kd.R_base ho0) hb); have n1_ := Aside0.mk (Kd.R_lower (Kd.R_new' ho0 (Kd.R_lt (by (with_reducible repeat (first | apply Kd.R_alloc | apply Kd.R_drewN | apply Kd.R_drew)); exact HO_5.out))) (below_size (by repeat (first | (with_reducible first | exact HB.out | apply below_alloc | apply pw_below_drewN | apply below_drew1) | exact HB.out)))); have n2_ := Aside0.mk (below_step (by repeat (first | (with_reducible first | exact HB.out | apply below_alloc | apply pw_below_drewN | apply below_drew1) | exact HB.out)) hb); clear HO_5; clear HB; have HO_5 := n0_; have HO121 := n1_; have HB := n2_; clear n0_ n1_ n2_; (try clear hb); (try clear hb2); (try clear hk); (try clear hi); (try clear ho0)) | (go_at_call 10; (with_reducible refine (impl_Lex.calls k2 x10_2 t122 t123 _ A31.out (by first | exact tb_below HTAB.out HB.out | exact tb_below HTAB.out (below_step HB.out HX.out) | (refine tb_below HTAB.out ?_; repeat (first | (with_reducible first | exact HB.out | apply below_alloc | apply pw_below_drewN | apply below_drew1 ) | exact HB.out)))).mono ?_); rintro e w34 ⟨v124, rfl, ho0, hb⟩; have n0_ := Aside0.mk (Kd.R_elder' (by (with_reducible repeat (first | apply Kd.R_alloc | apply Kd.R_drewN | apply Kd.R_drew)); exact HO_5.out) (Kd.R_base ho0) hb); have n1_ := Aside0.mk (Kd.R_elder' (by (with_reducible repeat (first | apply Kd.R_alloc | apply Kd.R_drewN | apply Kd.R_drew)); exact HO121.out) (Kd.R_base ho0) hb); have n2_ := Aside0.mk (Kd.R_lower (Kd.R_new' (Kd.R_new' ho0 (Kd.R_lt (by (with_reducible repeat (first | apply Kd.R_alloc | apply Kd.R_drewN | apply Kd.R_drew)); exact HO_5.out))) (Kd.R_lt (by (with_reducible repeat (first | apply Kd.R_alloc | apply Kd.R_drewN | apply Kd.R_drew)); exact HO121.out))) (below_size (by repeat (first | (with_reducible first | exact HB.out | apply below_alloc | apply pw_below_drewN | apply below_drew1) | exact HB.out)))); have n3_ := Aside0.mk (below_step (by repeat (first | (with_reducible first | exact HB.out | apply below_alloc | apply pw_below_drewN | apply below_drew1) | exact HB.out)) hb); clear HO_5; clear HO121; clear HB; have HO_5 := n0_; have HO121 := n1_; have HO125 := n2_; have HB := n3_; clear n0_ n1_ n2_ n3_; (try clear hb); (try clear hb2); (try clear hk); (try clear hi); (try clear ho0))))
              (try simp only [Act.put, List.setIfInBounds_toArray, List.set_cons_zero, List.set_cons_succ])
              go_cut [118] (fun v118 wc => ∃ (kq : Nat) (x118_31 : Bool), v118 = .bool x118_31 ∧ Aside0 (laws_FnLex.j2 kq t101 t104 t118 t122 x118_31 = some r) ∧ Aside0 (kq ≤ k2) ∧ Aside0 (Kd.R k29 29 wc w.heap.size (fun k_ => some k_ ≠ (v120 : Value).ownBlock ∧ some k_ ≠ (v124 : Value).ownBlock) (.slice Ao10 t101.length co10) t101) ∧ Aside0 (Kd.R k29 29 wc w.heap.size (fun k_ => some k_ ≠ ((.slice Ao10 t101.length co10) : Value).ownBlock ∧ some k_ ≠ (v124 : Value).ownBlock) v120 t118) ∧ Aside0 (Kd.R k29 29 wc w.heap.size (fun k_ => some k_ ≠ ((.slice Ao10 t101.length co10) : Value).ownBlock ∧ some k_ ≠ (v120 : Value).ownBlock) v124 t122) ∧ Aside0 (Below w.heap.size w wc))
              case first =>
                have H := HC32.out
                clear HC32
                by_cases c35 : t105 = 0
                · rw [if_pos c35] at H
                  have c35b0 : (t105 == 0) = true := beq_iff_eq.mpr c35
                  have c35b1 : (t105 != 0) = false := bne_eq_false_iff_eq.mpr c35
                  clear c35
                  (first | rw [c35b0] | (simp only [i64_w, i32_w]; rw [c35b0]) | skip)
                  by_cases c36 : t104.toList = t106.toList
                  · rw [if_pos c36] at H
                    have c36b0 : (t104.toList == t106.toList) = true := beq_iff_eq.mpr c36
                    have c36b1 : (t104.toList != t106.toList) = false := bne_eq_false_iff_eq.mpr c36
                    clear c36
                    by_cases c37 : t119 = 0
                    · rw [if_pos c37] at H
                      have c37b0 : (t119 == 0) = true := beq_iff_eq.mpr c37
                      have c37b1 : (t119 != 0) = false := bne_eq_false_iff_eq.mpr c37
                      clear c37
                      by_cases c38 : t123 = 0
                      · rw [if_pos c38] at H
                        have c38b0 : (t123 == 0) = true := beq_iff_eq.mpr c38
                        have c38b1 : (t123 != 0) = false := bne_eq_false_iff_eq.mpr c38
                        clear c38
                        by_cases c39 : (t118.length : Int) = (t101.length : Int)
                        · rw [if_pos c39] at H
                          have c39b0 : ((t118.length : Int) == (t101.length : Int)) = true := beq_iff_eq.mpr c39
                          have c39b1 : ((t118.length : Int) != (t101.length : Int)) = false := bne_eq_false_iff_eq.mpr c39
                          have c39b2 : (t118.length == t101.length) = true := by first | simpa using c39 | (simp at c39 ⊢; omega)
                          clear c39
                          have H' := Aside0.mk H
                          clear H
                          obtain ⟨Ao40, co40, eo40⟩ := Kd.R_slice HO121.out
                          subst eo40
                          obtain ⟨Ao41, co41, eo41⟩ := Kd.R_slice HO125.out
                          subst eo41
                          go_wp2
                          repeat (go_quiet (fail); try go_wp2)
                          go_meet
                          case rel => exact ⟨_, (((t122.length : Int) != (t101.length : Int))), (by first | rfl | (simp; done) | (simp [*]; done)), H', ⟨by have := HJ2.out; have := HK2.out; first | omega | exact Nat.le_refl _⟩, ⟨by (with_reducible repeat (first | apply Kd.R_alloc | apply Kd.R_drewN | apply Kd.R_drew)); exact Kd.R_mono HO_5.out (fun _ hk => ⟨hk.1.2, hk.2⟩)⟩, ⟨by (with_reducible repeat (first | apply Kd.R_alloc | apply Kd.R_drewN | apply Kd.R_drew)); exact Kd.R_mono HO121.out (fun _ hk => ⟨hk.1.2, hk.2⟩)⟩, ⟨by (with_reducible repeat (first | apply Kd.R_alloc | apply Kd.R_drewN | apply Kd.R_drew)); exact Kd.R_mono HO125.out (fun _ hk => ⟨hk.1.2, hk.2⟩)⟩, ⟨by repeat (first | (with_reducible first | exact HB.out | apply below_alloc | apply pw_below_drewN | apply below_drew1) | exact HB.out)⟩⟩
                        · rw [if_neg c39] at H
                          have c39b0 : ((t118.length : Int) == (t101.length : Int)) = false := beq_eq_false_iff_ne.mpr c39
                          have c39b1 : ((t118.length : Int) != (t101.length : Int)) = true := bne_iff_ne.mpr c39
                          have c39b2 : (t118.length == t101.length) = false := by first | simpa using c39 | (simp at c39 ⊢; omega)
                          have H' := Aside0.mk H
                          clear H
                          obtain ⟨Ao42, co42, eo42⟩ := Kd.R_slice HO121.out
                          subst eo42
                          go_wp2
                          repeat (go_quiet (fail); try go_wp2)
                          go_meet
                          case rel => exact ⟨_, (true), (by first | rfl | (simp; done) | (simp [*]; done)), H', ⟨by have := HJ2.out; have := HK2.out; first | omega | exact Nat.le_refl _⟩, ⟨by (with_reducible repeat (first | apply Kd.R_alloc | apply Kd.R_drewN | apply Kd.R_drew)); exact Kd.R_mono HO_5.out (fun _ hk => ⟨hk.1.2, hk.2⟩)⟩, ⟨by (with_reducible repeat (first | apply Kd.R_alloc | apply Kd.R_drewN | apply Kd.R_drew)); exact Kd.R_mono HO121.out (fun _ hk => ⟨hk.1.2, hk.2⟩)⟩, ⟨by (with_reducible repeat (first | apply Kd.R_alloc | apply Kd.R_drewN | apply Kd.R_drew)); exact Kd.R_mono HO125.out (fun _ hk => ⟨hk.1.2, hk.2⟩)⟩, ⟨by repeat (first | (with_reducible first | exact HB.out | apply below_alloc | apply pw_below_drewN | apply below_drew1) | exact HB.out)⟩⟩
                      · rw [if_neg c38] at H
                        have c38b0 : (t123 == 0) = false := beq_eq_false_iff_ne.mpr c38
                        have c38b1 : (t123 != 0) = true := bne_iff_ne.mpr c38
                        have H' := Aside0.mk H
                        clear H
                        go_wp2
                        repeat (go_quiet (fail); try go_wp2)
                        go_meet
                        case rel => exact ⟨_, (true), (by first | rfl | (simp; done) | (simp [*]; done)), H', ⟨by have := HJ2.out; have := HK2.out; first | omega | exact Nat.le_refl _⟩, ⟨by (with_reducible repeat (first | apply Kd.R_alloc | apply Kd.R_drewN | apply Kd.R_drew)); exact Kd.R_mono HO_5.out (fun _ hk => ⟨hk.1.2, hk.2⟩)⟩, ⟨by (with_reducible repeat (first | apply Kd.R_alloc | apply Kd.R_drewN | apply Kd.R_drew)); exact Kd.R_mono HO121.out (fun _ hk => ⟨hk.1.2, hk.2⟩)⟩, ⟨by (with_reducible repeat (first | apply Kd.R_alloc | apply Kd.R_drewN | apply Kd.R_drew)); exact Kd.R_mono HO125.out (fun _ hk => ⟨hk.1.2, hk.2⟩)⟩, ⟨by repeat (first | (with_reducible first | exact HB.out | apply below_alloc | apply pw_below_drewN | apply below_drew1) | exact HB.out)⟩⟩
                    · rw [if_neg c37] at H
                      have c37b0 : (t119 == 0) = false := beq_eq_false_iff_ne.mpr c37
                      have c37b1 : (t119 != 0) = true := bne_iff_ne.mpr c37
                      have H' := Aside0.mk H
                      clear H
                      go_wp2
                      repeat (go_quiet (fail); try go_wp2)
                      go_meet
                      case rel => exact ⟨_, (true), (by first | rfl | (simp; done) | (simp [*]; done)), H', ⟨by have := HJ2.out; have := HK2.out; first | omega | exact Nat.le_refl _⟩, ⟨by (with_reducible repeat (first | apply Kd.R_alloc | apply Kd.R_drewN | apply Kd.R_drew)); exact Kd.R_mono HO_5.out (fun _ hk => ⟨hk.1.2, hk.2⟩)⟩, ⟨by (with_reducible repeat (first | apply Kd.R_alloc | apply Kd.R_drewN | apply Kd.R_drew)); exact Kd.R_mono HO121.out (fun _ hk => ⟨hk.1.2, hk.2⟩)⟩, ⟨by (with_reducible repeat (first | apply Kd.R_alloc | apply Kd.R_drewN | apply Kd.R_drew)); exact Kd.R_mono HO125.out (fun _ hk => ⟨hk.1.2, hk.2⟩)⟩, ⟨by repeat (first | (with_reducible first | exact HB.out | apply below_alloc | apply pw_below_drewN | apply below_drew1) | exact HB.out)⟩⟩
                  · rw [if_neg c36] at H
                    have c36b0 : (t104.toList == t106.toList) = false := beq_eq_false_iff_ne.mpr c36
                    have c36b1 : (t104.toList != t106.toList) = true := bne_iff_ne.mpr c36
                    have H' := Aside0.mk H
                    clear H
                    go_wp2
                    repeat (go_quiet (fail); try go_wp2)
                    go_meet
                    case rel => exact ⟨_, (true), (by first | rfl | (simp; done) | (simp [*]; done)), H', ⟨by have := HJ2.out; have := HK2.out; first | omega | exact Nat.le_refl _⟩, ⟨by (with_reducible repeat (first | apply Kd.R_alloc | apply Kd.R_drewN | apply Kd.R_drew)); exact Kd.R_mono HO_5.out (fun _ hk => ⟨hk.1.2, hk.2⟩)⟩, ⟨by (with_reducible repeat (first | apply Kd.R_alloc | apply Kd.R_drewN | apply Kd.R_drew)); exact Kd.R_mono HO121.out (fun _ hk => ⟨hk.1.2, hk.2⟩)⟩, ⟨by (with_reducible repeat (first | apply Kd.R_alloc | apply Kd.R_drewN | apply Kd.R_drew)); exact Kd.R_mono HO125.out (fun _ hk => ⟨hk.1.2, hk.2⟩)⟩, ⟨by repeat (first | (with_reducible first | exact HB.out | apply below_alloc | apply pw_below_drewN | apply below_drew1) | exact HB.out)⟩⟩
                · rw [if_neg c35] at H
                  have c35b0 : (t105 == 0) = false := beq_eq_false_iff_ne.mpr c35
                  have c35b1 : (t105 != 0) = true := bne_iff_ne.mpr c35
                  (first | rw [c35b0] | (simp only [i64_w, i32_w]; rw [c35b0]) | skip)
                  have H' := Aside0.mk H
                  clear H
                  go_wp2
                  repeat (go_quiet (fail); try go_wp2)
                  go_meet
                  case rel => exact ⟨_, (true), (by first | rfl | (simp; done) | (simp [*]; done)), H', ⟨by have := HJ2.out; have := HK2.out; first | omega | exact Nat.le_refl _⟩, ⟨by (with_reducible repeat (first | apply Kd.R_alloc | apply Kd.R_drewN | apply Kd.R_drew)); exact Kd.R_mono HO_5.out (fun _ hk => ⟨hk.1.2, hk.2⟩)⟩, ⟨by (with_reducible repeat (first | apply Kd.R_alloc | apply Kd.R_drewN | apply Kd.R_drew)); exact Kd.R_mono HO121.out (fun _ hk => ⟨hk.1.2, hk.2⟩)⟩, ⟨by (with_reducible repeat (first | apply Kd.R_alloc | apply Kd.R_drewN | apply Kd.R_drew)); exact Kd.R_mono HO125.out (fun _ hk => ⟨hk.1.2, hk.2⟩)⟩, ⟨by repeat (first | (with_reducible first | exact HB.out | apply below_alloc | apply pw_below_drewN | apply below_drew1) | exact HB.out)⟩⟩
              case rest =>
                clear HC32
                try clear c1
                try clear p1
                try clear q1
                try clear hx1
                try clear c2
                try clear p2
                try clear c3
                try clear c4
                try clear c4b0
                try clear c4b1
                try clear c5
                try clear p6
                try clear p10
                try clear q10
                try clear hx10
                try clear p11
                try clear q11
                try clear hx11
                try clear c13
                try clear c13b0
                try clear c14
                try clear c14b0
                try clear c16
                try clear c16b0
                try clear c16b1
                try clear c17
                try clear c17b0
                try clear c17b1
                try clear c19
                try clear c21
                try clear c21b0
                try clear c22
                try clear c22b0
                try clear c23
                try clear c23b0
                try clear c23b1
                try clear c23b2
                try clear c24
                try clear c24b0
                try clear c24b1
                try clear c24b2
                try clear c35
                try clear c35b0
                try clear c35b1
                try clear c36
                try clear c36b0
                try clear c36b1
                try clear c37
                try clear c37b0
                try clear c37b1
                try clear c38
                try clear c38b0
                try clear c38b1
                try clear c39
                try clear c39b0
                try clear c39b1
                try clear c39b2
                try clear hx108_0
                try clear hx108_1
                try clear hx108_2
                try clear hx111_0
                try clear hx111_1
                try clear hx111_2
                try clear hx117_0
                try clear p108
                try clear p111
                try clear p117
                try clear p2
                try clear q108
                try clear q111
                try clear q117
                obtain ⟨kq, x118_31, rfl, HA, HJ31, HO_5, HO_14, HO_16, HB⟩ := hcut
                cases kq with
                | zero => exact absurd HA.out (by simp [laws_FnLex.j2])
                | succ kj31 =>
                  have H := HA.out
                  clear HA
                  simp only [laws_FnLex.j2] at H
                  by_cases c43 : x118_31 = true
                  · subst c43
                    have H1 : (none) = some r := by rw [if_pos rfl] at H; exact H
                    clear H
                    have H := H1
                    clear H1
                    exact absurd H (by simp)
                  · replace c43 := Bool.eq_false_iff.mpr c43
                    subst c43
                    have H1 : (laws_FnLex.l1 kj31 t101 t104 t118 t122 0) = some r := by rw [if_neg (show ¬ (false = true) by decide)] at H; exact H
                    clear H
                    have H := H1
                    clear H1
                    have H' := Aside0.mk H
                    clear H
                    go_wp2
                    repeat (go_quiet (fail); try go_wp2)
                    go_loopg [18] kj31 (fun kq v18 w' => ∃ (x18_4 : Int), v18 = .int .i64 x18_4 ∧ Aside0 (laws_FnLex.l1 kq t101 t104 t118 t122 x18_4 = some r) ∧ Aside0 (kq ≤ kj31) ∧ Aside0 (Kd.R k29 29 w' w.heap.size (fun k_ => some k_ ≠ (v120 : Value).ownBlock ∧ some k_ ≠ (v124 : Value).ownBlock) (.slice Ao10 t101.length co10) t101) ∧ Aside0 (Kd.R k29 29 w' w.heap.size (fun k_ => some k_ ≠ ((.slice Ao10 t101.length co10) : Value).ownBlock ∧ some k_ ≠ (v124 : Value).ownBlock) v120 t118) ∧ Aside0 (Kd.R k29 29 w' w.heap.size (fun k_ => some k_ ≠ ((.slice Ao10 t101.length co10) : Value).ownBlock ∧ some k_ ≠ (v120 : Value).ownBlock) v124 t122) ∧ Aside0 (Below w.heap.size w w'))
                    case atStart => exact ⟨(0), (by first | rfl | (simp; done) | (simp [*]; done)), H', ⟨Nat.le_refl _⟩, ⟨by (with_reducible repeat (first | apply Kd.R_alloc | apply Kd.R_drewN | apply Kd.R_drew)); exact HO_5.out⟩, ⟨by (with_reducible repeat (first | apply Kd.R_alloc | apply Kd.R_drewN | apply Kd.R_drew)); exact HO_14.out⟩, ⟨by (with_reducible repeat (first | apply Kd.R_alloc | apply Kd.R_drewN | apply Kd.R_drew)); exact HO_16.out⟩, ⟨by repeat (first | (with_reducible first | exact HB.out | apply below_alloc | apply pw_below_drewN | apply below_drew1) | exact HB.out)⟩⟩
                    case round =>
                      clear H'
                      try clear c1
                      try clear p1
                      try clear q1
                      try clear hx1
                      try clear c2
                      try clear p2
                      try clear c3
                      try clear c4
                      try clear c4b0
                      try clear c4b1
                      try clear c5
                      try clear p6
                      try clear p10
                      try clear q10
                      try clear hx10
                      try clear p11
                      try clear q11
                      try clear hx11
                      try clear c13
                      try clear c13b0
                      try clear c14
                      try clear c14b0
                      try clear c16
                      try clear c16b0
                      try clear c16b1
                      try clear c17
                      try clear c17b0
                      try clear c17b1
                      try clear c19
                      try clear c21
                      try clear c21b0
                      try clear c22
                      try clear c22b0
                      try clear c23
                      try clear c23b0
                      try clear c23b1
                      try clear c23b2
                      try clear c24
                      try clear c24b0
                      try clear c24b1
                      try clear c24b2
                      try clear c35
                      try clear c35b0
                      try clear c35b1
                      try clear c36
                      try clear c36b0
                      try clear c36b1
                      try clear c37
                      try clear c37b0
                      try clear c37b1
                      try clear c38
                      try clear c38b0
                      try clear c38b1
                      try clear c39
                      try clear c39b0
                      try clear c39b1
                      try clear c39b2
                      try clear c43
                      try clear hx108_0
                      try clear hx108_1
                      try clear hx108_2
                      try clear hx111_0
                      try clear hx111_1
                      try clear hx111_2
                      try clear hx117_0
                      try clear p1
                      try clear p10
                      try clear p108
                      try clear p11
                      try clear p111
                      try clear p117
                      try clear p2
                      try clear p6
                      try clear q1
                      try clear q10
                      try clear q108
                      try clear q11
                      try clear q111
                      try clear q117
                      obtain ⟨x18_4, rfl, HA, HK4, HO_5, HO_14, HO_16, HB⟩ := hrel
                      cases gk with
                      | zero => exact absurd HA.out (by simp [laws_FnLex.l1])
                      | succ k4 =>
                        have H := HA.out
                        clear HA
                        simp only [laws_FnLex.l1] at H
                        by_cases c44 : x18_4 < (t101.length : Int)
                        · rw [if_pos c44] at H
                          have c44b0 : decide (x18_4 < (t101.length : Int)) = true := decide_eq_true c44
                          clear c44
                          by_cases c45 : 0 ≤ x18_4
                          · rw [if_pos c45] at H
                            have c45b0 : decide (0 ≤ x18_4) = true := decide_eq_true c45
                            clear c45
                            by_cases c46 : x18_4 < (t118.length : Int)
                            · rw [if_pos c46] at H
                              have c46b0 : decide (x18_4 < (t118.length : Int)) = true := decide_eq_true c46
                              clear c46
                              by_cases c47 : (!(((rd_T29 t118 x18_4).f0) == ((rd_T29 t101 x18_4).f0)) || (!(((rd_T29 t118 x18_4).f1) == ((rd_T29 t101 x18_4).f1)) || (!((((rd_T29 t118 x18_4).f2).toList) == (((rd_T29 t101 x18_4).f2).toList))))) = true
                              · rw [if_pos c47] at H
                                exact absurd H (by simp)
                              · rw [if_neg c47] at H
                                have c47b0 : (!(((rd_T29 t118 x18_4).f0) == ((rd_T29 t101 x18_4).f0)) || (!(((rd_T29 t118 x18_4).f1) == ((rd_T29 t101 x18_4).f1)) || (!((((rd_T29 t118 x18_4).f2).toList) == (((rd_T29 t101 x18_4).f2).toList))))) = false := by simpa using c47
                                clear c47
                                by_cases c48 : x18_4 < (t122.length : Int)
                                · rw [if_pos c48] at H
                                  have c48b0 : decide (x18_4 < (t122.length : Int)) = true := decide_eq_true c48
                                  clear c48
                                  by_cases c49 : (!(((rd_T29 t122 x18_4).f0) == ((rd_T29 t101 x18_4).f0)) || (!(((rd_T29 t122 x18_4).f1) == ((rd_T29 t101 x18_4).f1)) || (!((((rd_T29 t122 x18_4).f2).toList) == (((rd_T29 t101 x18_4).f2).toList))))) = true
                                  · rw [if_pos c49] at H
                                    exact absurd H (by simp)
                                  · rw [if_neg c49] at H
                                    have c49b0 : (!(((rd_T29 t122 x18_4).f0) == ((rd_T29 t101 x18_4).f0)) || (!(((rd_T29 t122 x18_4).f1) == ((rd_T29 t101 x18_4).f1)) || (!((((rd_T29 t122 x18_4).f2).toList) == (((rd_T29 t101 x18_4).f2).toList))))) = false := by simpa using c49
                                    clear c49
                                    have H' := Aside0.mk H
                                    clear H
                                    obtain ⟨Ao50, co50, eo50⟩ := Kd.R_slice HO_14.out
                                    subst eo50
                                    have p126 : 0 ≤ (x18_4 : Int) := of_decide_eq_true (by first | (with_reducible assumption) | assumption)
                                    have q126 : x18_4 < (t118.length : Int) := of_decide_eq_true (by first | (with_reducible assumption) | assumption)
                                    obtain ⟨ad126, e126, hx126_0, hx126_1, hx126_2⟩ := at_T29 (Kd.R_reads' HO_14.out).2.2 x18_4 p126 q126
                                    cases e126
                                    replace p126 := eq_true p126
                                    replace q126 := eq_true q126
                                    have p127 : 0 ≤ (x18_4 : Int) := of_decide_eq_true (by first | (with_reducible assumption) | assumption)
                                    have q127 : x18_4 < (t101.length : Int) := of_decide_eq_true (by first | (with_reducible assumption) | assumption)
                                    obtain ⟨ad127, e127, hx127_0, hx127_1, hx127_2⟩ := at_T29 (Kd.R_reads' HO_5.out).2.2 x18_4 p127 q127
                                    cases e127
                                    replace p127 := eq_true p127
                                    replace q127 := eq_true q127
                                    obtain ⟨Ao51, co51, eo51⟩ := Kd.R_slice HO_16.out
                                    subst eo51
                                    have p128 : 0 ≤ (x18_4 : Int) := of_decide_eq_true (by first | (with_reducible assumption) | assumption)
                                    have q128 : x18_4 < (t122.length : Int) := of_decide_eq_true (by first | (with_reducible assumption) | assumption)
                                    obtain ⟨ad128, e128, hx128_0, hx128_1, hx128_2⟩ := at_T29 (Kd.R_reads' HO_16.out).2.2 x18_4 p128 q128
                                    cases e128
                                    replace p128 := eq_true p128
                                    replace q128 := eq_true q128
                                    have p129 : 0 ≤ (x18_4 : Int) := of_decide_eq_true (by first | (with_reducible assumption) | assumption)
                                    have q129 : x18_4 < (t101.length : Int) := of_decide_eq_true (by first | (with_reducible assumption) | assumption)
                                    obtain ⟨ad129, e129, hx129_0, hx129_1, hx129_2⟩ := at_T29 (Kd.R_reads' HO_5.out).2.2 x18_4 p129 q129
                                    obtain rfl : ad127 = ad129 := (by injection e129)
                                    replace p129 := eq_true p129
                                    replace q129 := eq_true q129
                                    go_wp2
                                    repeat (go_quiet (fail); try go_wp2)
                                    go_roundg k4
                                    case measure => have := HJ2.out; have := HK2.out; have := HJ31.out; have := HK4.out; omega
                                    case rel => exact ⟨(wrap64 (x18_4 + 1)), (by first | rfl | (simp; done) | (simp [*]; done)), H', ⟨by have := HJ2.out; have := HK2.out; have := HJ31.out; have := HK4.out; omega⟩, ⟨by (with_reducible repeat (first | apply Kd.R_alloc | apply Kd.R_drewN | apply Kd.R_drew)); exact HO_5.out⟩, ⟨by (with_reducible repeat (first | apply Kd.R_alloc | apply Kd.R_drewN | apply Kd.R_drew)); exact HO_14.out⟩, ⟨by (with_reducible repeat (first | apply Kd.R_alloc | apply Kd.R_drewN | apply Kd.R_drew)); exact HO_16.out⟩, ⟨by repeat (first | (with_reducible first | exact HB.out | apply below_alloc | apply pw_below_drewN | apply below_drew1) | exact HB.out)⟩⟩
                                · rw [if_neg c48] at H
                                  exact absurd H (by simp)
                            · rw [if_neg c46] at H
                              exact absurd H (by simp)
                          · rw [if_neg c45] at H
                            exact absurd H (by simp)
                        · rw [if_neg c44] at H
                          have c44b0 : decide (x18_4 < (t101.length : Int)) = false := decide_eq_false c44
                          clear c44
                          by_cases c52 : t104.size + 2 ≤ 9223372036854775807
                          · rw [if_pos c52] at H
                            have c52b0 := eq_true c52
                            have c52b1 : decide (t104.size + 2 ≤ 9223372036854775807) = true := decide_eq_true c52
                            try have c52b2 : (9223372036854775807 < t104.size + 2) = False := eq_false (Nat.not_lt.2 c52)
                            replace H := Option.bind_eq_some_iff.mp H
                            obtain ⟨⟨t130, t131⟩, A530, H⟩ := H
                            replace H : (if t131 = 3 then ((impl_IsInt.f 2147483647).bind fun t134 => (if t134 = true then ((impl_IsInt.f 2147483648).bind fun t135 => (some (!t135))) else (none))) else (none)) = some r := H
                            have A53 := Aside0.mk A530
                            clear A530
                            by_cases c54 : t131 = 3
                            · rw [if_pos c54] at H
                              have c54b0 : (t131 == 3) = true := beq_iff_eq.mpr c54
                              have c54b1 : (t131 != 3) = false := bne_eq_false_iff_eq.mpr c54
                              clear c54
                              replace H := Option.bind_eq_some_iff.mp H
                              obtain ⟨t134, A550, H⟩ := H
                              replace H : (if t134 = true then ((impl_IsInt.f 2147483648).bind fun t135 => (some (!t135))) else (none)) = some r := H
                              have A55 := Aside0.mk A550
                              clear A550
                              by_cases c56 : t134 = true
                              · subst c56
                                have H1 : ((impl_IsInt.f 2147483648).bind fun t135 => (some (!t135))) = some r := by rw [if_pos rfl] at H; exact H
                                clear H
                                have H := H1
                                clear H1
                                replace H := Option.bind_eq_some_iff.mp H
                                obtain ⟨t135, A570, H⟩ := H
                                replace H : (some (!t135)) = some r := H
                                have A57 := Aside0.mk A570
                                clear A570
                                obtain rfl := Option.some.inj H
                                go_wp2_with (first | (go_at_call 10; (with_reducible refine (impl_Lex.calls k4 (t104 ++ (⟨#[32, 37]⟩ : ByteArray)) t130 t131 _ A53.out (by first | exact tb_below HTAB.out HB.out | exact tb_below HTAB.out (below_step HB.out HX.out) | (refine tb_below HTAB.out ?_; repeat (first | (with_reducible first | exact HB.out | apply below_alloc | apply pw_below_drewN | apply below_drew1 ) | exact HB.out)))).mono ?_); rintro e w58 ⟨v132, rfl, ho0, hb⟩; have n0_ := Aside0.mk (Kd.R_elder' (by (with_reducible repeat (first | apply Kd.R_alloc | apply Kd.R_drewN | apply Kd.R_drew)); exact HO_5.out) (Kd.R_base ho0) hb); have n1_ := Aside0.mk (Kd.R_elder' (by (with_reducible repeat (first | apply Kd.R_alloc | apply Kd.R_drewN | apply Kd.R_drew)); exact HO_14.out) (Kd.R_base ho0) hb); have n2_ := Aside0.mk (Kd.R_elder' (by (with_reducible repeat (first | apply Kd.R_alloc | apply Kd.R_drewN | apply Kd.R_drew)); exact HO_16.out) (Kd.R_base ho0) hb); have n3_ := Aside0.mk (Kd.R_lower (Kd.R_new' (Kd.R_new' (Kd.R_new' ho0 (Kd.R_lt (by (with_reducible repeat (first | apply Kd.R_alloc | apply Kd.R_drewN | apply Kd.R_drew)); exact HO_5.out))) (Kd.R_lt (by (with_reducible repeat (first | apply Kd.R_alloc | apply Kd.R_drewN | apply Kd.R_drew)); exact HO_14.out))) (Kd.R_lt (by (with_reducible repeat (first | apply Kd.R_alloc | apply Kd.R_drewN | apply Kd.R_drew)); exact HO_16.out))) (below_size (by repeat (first | (with_reducible first | exact HB.out | apply below_alloc | apply pw_below_drewN | apply below_drew1) | exact HB.out)))); have n4_ := Aside0.mk (below_step (by repeat (first | (with_reducible first | exact HB.out | apply below_alloc | apply pw_below_drewN | apply below_drew1) | exact HB.out)) hb); clear HO_5; clear HO_14; clear HO_16; clear HB; have HO_5 := n0_; have HO_14 := n1_; have HO_16 := n2_; have HO133 := n3_; have HB := n4_; clear n0_ n1_ n2_ n3_ n4_; (try clear hb); (try clear hb2); (try clear hk); (try clear hi); (try clear ho0)) | (go_at_call 11; (with_reducible refine (impl_IsInt.calls 2147483647 true _ A55.out).mono ?_); rintro e w' ⟨rfl, ⟨nd, rfl⟩⟩; (try first | exact ⟨rfl, _, World.drewN_drewN _ _ _⟩ | exact ⟨rfl, _, Eq.trans (World.drewN_drewN _ _ _) (congrArg (World.drewN _) (Nat.add_assoc _ _ _))⟩)) | (go_at_call 11; (with_reducible refine (impl_IsInt.calls 2147483648 t135 _ A57.out).mono ?_); rintro e w' ⟨rfl, ⟨nd, rfl⟩⟩; (try first | exact ⟨rfl, _, World.drewN_drewN _ _ _⟩ | exact ⟨rfl, _, Eq.trans (World.drewN_drewN _ _ _) (congrArg (World.drewN _) (Nat.add_assoc _ _ _))⟩)))
                                repeat (go_quiet (first | (go_at_call 10; (with_reducible refine (impl_Lex.calls k4 (t104 ++ (⟨#[32, 37]⟩ : ByteArray)) t130 t131 _ A53.out (by first | exact tb_below HTAB.out HB.out | exact tb_below HTAB.out (below_step HB.out HX.out) | (refine tb_below HTAB.out ?_; repeat (first | (with_reducible first | exact HB.out | apply below_alloc | apply pw_below_drewN | apply below_drew1 ) | exact HB.out)))).mono ?_); rintro e w58 ⟨v132, rfl, ho0, hb⟩; have n0_ := Aside0.mk (Kd.R_elder' (by (with_reducible repeat (first | apply Kd.R_alloc | apply Kd.R_drewN | apply Kd.R_drew)); exact HO_5.out) (Kd.R_base ho0) hb); have n1_ := Aside0.mk (Kd.R_elder' (by (with_reducible repeat (first | apply Kd.R_alloc | apply Kd.R_drewN | apply Kd.R_drew)); exact HO_14.out) (Kd.R_base ho0) hb); have n2_ := Aside0.mk (Kd.R_elder' (by (with_reducible repeat (first | apply Kd.R_alloc | apply Kd.R_drewN | apply Kd.R_drew)); exact HO_16.out) (Kd.R_base ho0) hb); have n3_ := Aside0.mk (Kd.R_lower (Kd.R_new' (Kd.R_new' (Kd.R_new' ho0 (Kd.R_lt (by (with_reducible repeat (first | apply Kd.R_alloc | apply Kd.R_drewN | apply Kd.R_drew)); exact HO_5.out))) (Kd.R_lt (by (with_reducible repeat (first | apply Kd.R_alloc | apply Kd.R_drewN | apply Kd.R_drew)); exact HO_14.out))) (Kd.R_lt (by (with_reducible repeat (first | apply Kd.R_alloc | apply Kd.R_drewN | apply Kd.R_drew)); exact HO_16.out))) (below_size (by repeat (first | (with_reducible first | exact HB.out | apply below_alloc | apply pw_below_drewN | apply below_drew1) | exact HB.out)))); have n4_ := Aside0.mk (below_step (by repeat (first | (with_reducible first | exact HB.out | apply below_alloc | apply pw_below_drewN | apply below_drew1) | exact HB.out)) hb); clear HO_5; clear HO_14; clear HO_16; clear HB; have HO_5 := n0_; have HO_14 := n1_; have HO_16 := n2_; have HO133 := n3_; have HB := n4_; clear n0_ n1_ n2_ n3_ n4_; (try clear hb); (try clear hb2); (try clear hk); (try clear hi); (try clear ho0)) | (go_at_call 11; (with_reducible refine (impl_IsInt.calls 2147483647 true _ A55.out).mono ?_); rintro e w' ⟨rfl, ⟨nd, rfl⟩⟩; (try first | exact ⟨rfl, _, World.drewN_drewN _ _ _⟩ | exact ⟨rfl, _, Eq.trans (World.drewN_drewN _ _ _) (congrArg (World.drewN _) (Nat.add_assoc _ _ _))⟩)) | (go_at_call 11; (with_reducible refine (impl_IsInt.calls 2147483648 t135 _ A57.out).mono ?_); rintro e w' ⟨rfl, ⟨nd, rfl⟩⟩; (try first | exact ⟨rfl, _, World.drewN_drewN _ _ _⟩ | exact ⟨rfl, _, Eq.trans (World.drewN_drewN _ _ _) (congrArg (World.drewN _) (Nat.add_assoc _ _ _))⟩))); try go_wp2_with (first | (go_at_call 10; (with_reducible refine (impl_Lex.calls k4 (t104 ++ (⟨#[32, 37]⟩ : ByteArray)) t130 t131 _ A53.out (by first | exact tb_below HTAB.out HB.out | exact tb_below HTAB.out (below_step HB.out HX.out) | (refine tb_below HTAB.out ?_; repeat (first | (with_reducible first | exact HB.out | apply below_alloc | apply pw_below_drewN | apply below_drew1 ) | exact HB.out)))).mono ?_); rintro e w58 ⟨v132, rfl, ho0, hb⟩; have n0_ := Aside0.mk (Kd.R_elder' (by (with_reducible repeat (first | apply Kd.R_alloc | apply Kd.R_drewN | apply Kd.R_drew)); exact HO_5.out) (Kd.R_base ho0) hb); have n1_ := Aside0.mk (Kd.R_elder' (by (with_reducible repeat (first | apply Kd.R_alloc | apply Kd.R_drewN | apply Kd.R_drew)); exact HO_14.out) (Kd.R_base ho0) hb); have n2_ := Aside0.mk (Kd.R_elder' (by (with_reducible repeat (first | apply Kd.R_alloc | apply Kd.R_drewN | apply Kd.R_drew)); exact HO_16.out) (Kd.R_base ho0) hb); have n3_ := Aside0.mk (Kd.R_lower (Kd.R_new' (Kd.R_new' (Kd.R_new' ho0 (Kd.R_lt (by (with_reducible repeat (first | apply Kd.R_alloc | apply Kd.R_drewN | apply Kd.R_drew)); exact HO_5.out))) (Kd.R_lt (by (with_reducible repeat (first | apply Kd.R_alloc | apply Kd.R_drewN | apply Kd.R_drew)); exact HO_14.out))) (Kd.R_lt (by (with_reducible repeat (first | apply Kd.R_alloc | apply Kd.R_drewN | apply Kd.R_drew)); exact HO_16.out))) (below_size (by repeat (first | (with_reducible first | exact HB.out | apply below_alloc | apply pw_below_drewN | apply below_drew1) | exact HB.out)))); have n4_ := Aside0.mk (below_step (by repeat (first | (with_reducible first | exact HB.out | apply below_alloc | apply pw_below_drewN | apply below_drew1) | exact HB.out)) hb); clear HO_5; clear HO_14; clear HO_16; clear HB; have HO_5 := n0_; have HO_14 := n1_; have HO_16 := n2_; have HO133 := n3_; have HB := n4_; clear n0_ n1_ n2_ n3_ n4_; (try clear hb); (try clear hb2); (try clear hk); (try clear hi); (try clear ho0)) | (go_at_call 11; (with_reducible refine (impl_IsInt.calls 2147483647 true _ A55.out).mono ?_); rintro e w' ⟨rfl, ⟨nd, rfl⟩⟩; (try first | exact ⟨rfl, _, World.drewN_drewN _ _ _⟩ | exact ⟨rfl, _, Eq.trans (World.drewN_drewN _ _ _) (congrArg (World.drewN _) (Nat.add_assoc _ _ _))⟩)) | (go_at_call 11; (with_reducible refine (impl_IsInt.calls 2147483648 t135 _ A57.out).mono ?_); rintro e w' ⟨rfl, ⟨nd, rfl⟩⟩; (try first | exact ⟨rfl, _, World.drewN_drewN _ _ _⟩ | exact ⟨rfl, _, Eq.trans (World.drewN_drewN _ _ _) (congrArg (World.drewN _) (Nat.add_assoc _ _ _))⟩))))
                                go_ret
                                exact ⟨by first | rfl | (simp [errW_none, errW_some] <;> rfl) | (simp [*, errW_none, errW_some] <;> rfl), by repeat (first | (with_reducible first | exact HB.out | apply below_alloc | apply pw_below_drewN | apply below_drew1) | exact HB.out)⟩
                              · replace c56 := Bool.eq_false_iff.mpr c56
                                subst c56
                                have H1 : (none) = some r := by rw [if_neg (show ¬ (false = true) by decide)] at H; exact H
                                clear H
                                have H := H1
                                clear H1
                                exact absurd H (by simp)
                            · rw [if_neg c54] at H
                              exact absurd H (by simp)
                          · rw [if_neg c52] at H
                            exact absurd H (by simp)

end Go.Proofs.YtonofmbpjjckjaaGreatDoor.Q
namespace Go.Proofs.YtonofmbpjjckjaaGreatDoor.Q
open Go.RowKit Go.Proofs.YtonofmbpjjckjaaGreatDoorW.PrintWords Go.Proofs.YtonofmbpjjckjaaGreatDoor.Opens
set_option linter.unusedVariables false
end Go.Proofs.YtonofmbpjjckjaaGreatDoor.Q
namespace Go.Proofs.YtonofmbpjjckjaaGreatDoor.Q
open Go.RowKit Go.Proofs.YtonofmbpjjckjaaGreatDoorW.PrintWords Go.Proofs.YtonofmbpjjckjaaGreatDoor.Opens
set_option linter.unusedVariables false
def laws_FnLex.Pure2 : Prop := ∀ (y0 : List Int), ∀ (y1 : List Int), (y0.length ≤ 9223372036854775807 ∧ ∀ y1_ ∈ y0, (Lit.int .u8 y1_).wf = true) → (y1.length ≤ 9223372036854775807 ∧ ∀ y1_ ∈ y1, (Lit.int .u8 y1_).wf = true) → ∃ k, laws_FnLex.f k y0 y1 = some true
end Go.Proofs.YtonofmbpjjckjaaGreatDoor.Q
namespace Go.Proofs.YtonofmbpjjckjaaGreatDoor.Pure2
open Go.RowKit Go.Proofs.YtonofmbpjjckjaaGreatDoor.Q Go.Proofs.YtonofmbpjjckjaaGreatDoorW.PrintWords Go.Proofs.YtonofmbpjjckjaaGreatDoorW.PrintLast
set_option linter.unusedVariables false
set_option linter.unusedSimpArgs false
/-! small words -/
theorem wsucc {j n : Nat} (h : j < n) (hn : n ≤ 4611686018427387904) : wrap64 ((j : Int) + 1) = ((j + 1 : Nat) : Int) := by unfold wrap64; omega
theorem ev_step {α : Type} {g f : Nat → Option α} {r : α} (h : ∃ K, ∀ k, K ≤ k → g (k + 1) = f k) (k : Ev f r) : Ev g r := by
  obtain ⟨K, h⟩ := h
  obtain ⟨K', k⟩ := k
  refine ⟨max K K' + 1, fun n hn => ?_⟩
  obtain ⟨m, rfl⟩ : ∃ m, n = m + 1 := ⟨n - 1, by omega⟩
  rw [h m (by omega), k m (by omega)]
theorem ev_now {α : Type} {g : Nat → Option α} {r : α} (h : ∃ K, ∀ k, K ≤ k → g (k + 1) = some r) : Ev g r := ev_step (f := fun _ => some r) h (Ev.now r)
theorem ev_same {α : Type} {g f : Nat → Option α} {r : α} (h : ∃ K, ∀ k, K ≤ k → g k = f k) (k : Ev f r) : Ev g r := by
  obtain ⟨K, h⟩ := h
  obtain ⟨K', k⟩ := k
  exact ⟨max K K', fun n hn => by rw [h n (by omega), k n (by omega)]⟩
theorem ev_two {α β : Type} {g : Nat → Option α} {f : Nat → Option β} {r : α} {q : β} (h : Ev g r) (k : Ev f q) : ∃ K, ∀ n, K ≤ n → g n = some r ∧ f n = some q := by
  obtain ⟨K, h⟩ := h
  obtain ⟨K', k⟩ := k
  exact ⟨max K K', fun n hn => ⟨h n (by omega), k n (by omega)⟩⟩
theorem ev_mk {α : Type} {g : Nat → Option α} {r : α} (K : Nat) (h : ∀ k, K ≤ k → g k = some r) : Ev g r := ⟨K, h⟩
theorem ev_at {α : Type} {g : Nat → Option α} {r : α} (h : Ev g r) : ∃ K, ∀ k, K ≤ k → g k = some r := h
/-- A loop that counts up to n: from the end back. -/
theorem count_loop {ρ : Type} (n : Nat) (L : Nat → Int → Option ρ) (Post : Nat → ρ → Prop) (hend : ∃ r, Post n r ∧ Ev (fun k => L k (n : Int)) r)
    (hstep : ∀ j, j < n → ∀ r, Post (j + 1) r → Ev (fun k => L k ((j + 1 : Nat) : Int)) r → ∃ r', Post j r' ∧ Ev (fun k => L k (j : Int)) r') :
    ∀ j, j ≤ n → ∃ r, Post j r ∧ Ev (fun k => L k (j : Int)) r := by
  have key : ∀ d j, j ≤ n → n - j = d → ∃ r, Post j r ∧ Ev (fun k => L k (j : Int)) r := by
    intro d
    induction d with
    | zero => intro j hj hd; obtain rfl : j = n := by omega
              exact hend
    | succ d ih =>
      intro j hj hd
      obtain ⟨r, hp, he⟩ := ih (j + 1) (by omega) (by omega)
      exact hstep j (by omega) r hp he
  intro j hj
  exact key _ j hj rfl
/-- A loop that carries a state up to n. -/
theorem state_loop {σ ρ : Type} (n : Nat) (L : Nat → σ → Int → Option ρ) (Inv : Nat → σ → Prop) (Post : Nat → σ → ρ → Prop) (hend : ∀ s, Inv n s → ∃ r, Post n s r ∧ Ev (fun k => L k s (n : Int)) r)
    (hstep : ∀ j s, j < n → Inv j s → (∃ r, Post j s r ∧ Ev (fun k => L k s (j : Int)) r) ∨ ∃ s', Inv (j + 1) s' ∧ (∀ r, Post (j + 1) s' r → Post j s r) ∧ ∃ K, ∀ k, K ≤ k → L (k + 1) s (j : Int) = L k s' ((j + 1 : Nat) : Int)) :
    ∀ j s, j ≤ n → Inv j s → ∃ r, Post j s r ∧ Ev (fun k => L k s (j : Int)) r := by
  have key : ∀ d j s, j ≤ n → n - j = d → Inv j s → ∃ r, Post j s r ∧ Ev (fun k => L k s (j : Int)) r := by
    intro d
    induction d with
    | zero => intro j s hj hd hi; obtain rfl : j = n := by omega
              exact hend s hi
    | succ d ih =>
      intro j s hj hd hi
      rcases hstep j s (by omega) hi with h | ⟨s', hi', hp, hk⟩
      · exact h
      · obtain ⟨r, hr, he⟩ := ih (j + 1) s' (by omega) (by omega) hi'
        exact ⟨r, hp r hr, ev_step hk he⟩
  intro j s hj hi
  exact key _ j s hj rfl hi
/-- A loop that fills a row of its own. -/
theorem fill_loop {α β : Type} (xs : List α) (z : α) (g : α → β) (L : Nat → List β → Int → Option (List β)) (hend : ∀ y : List β, y.length = xs.length → ∃ K, ∀ k, K ≤ k → L (k + 1) y (xs.length : Int) = some y)
    (hstep : ∀ (j : Nat) (y : List β), j < xs.length → y.length = xs.length → ∃ K, ∀ k, K ≤ k → L (k + 1) y (j : Int) = L k (y.set j (g (xs.getD j z))) ((j + 1 : Nat) : Int)) (y : List β) (hy : y.length = xs.length) :
    Ev (fun k => L k y 0) (xs.map g) := by
  obtain ⟨r, hr, he⟩ := state_loop xs.length L (fun j y => y.length = xs.length ∧ ∀ i, i < j → y[i]? = (xs.map g)[i]?) (fun _ _ r => r = xs.map g) (fun y hi => ⟨y, List.ext_getElem? fun i => by
      by_cases hi' : i < xs.length
      · exact hi.2 i hi'
      · rw [List.getElem?_eq_none (by omega), List.getElem?_eq_none (by simp; omega)], ev_now (hend y hi.1)⟩) (fun j y hj hi => .inr ⟨_, ⟨by simp [hi.1], fun i hij => by
      by_cases he : i = j
      · subst he
        rw [List.getElem?_set_self (by omega)]
        simp [List.getD_eq_getElem?_getD, List.getElem?_eq_getElem hj]
      · rw [List.getElem?_set_ne (by omega)]
        exact hi.2 i (by omega)⟩, fun r h => h, hstep j y hj hi.1⟩) 0 y (by omega) ⟨hy, fun i hi => by omega⟩
  subst hr
  exact he
theorem spec_in (a b c : Int) : spec_l01In.f a b c = some (decide (b ≤ a ∧ a ≤ c)) := by
  unfold spec_l01In.f
  by_cases h : b ≤ a
  · rw [if_pos h]; simp [h]
  · rw [if_neg h]; simp [h]
theorem impl_in (a b c : Int) : impl_within.f a b c = some (decide (b ≤ a ∧ a ≤ c)) := spec_in a b c
/-- A letter or _; a digit. -/
def isL (b : Int) : Bool := decide (97 ≤ b ∧ b ≤ 122 ∨ 65 ≤ b ∧ b ≤ 90 ∨ b = 95)
def isD (b : Int) : Bool := decide (48 ≤ b ∧ b ≤ 57)
/-- What a name is. -/
def IsName (s : ByteArray) : Prop := 1 ≤ s.size ∧ s.size ≤ 40 ∧ isL (bt s 0) = true ∧ ∀ i : Int, 1 ≤ i → i < s.size → isL (bt s i) = true ∨ isD (bt s i) = true
theorem beq95 (b : Int) (h : ¬ (97 ≤ b ∧ b ≤ 122)) (h' : ¬ (65 ≤ b ∧ b ≤ 90)) : (b == 95) = isL b := by
  unfold isL
  by_cases e : b = 95
  · subst e; rfl
  · rw [beq_eq_false_iff_ne.mpr e]; symm; simp only [decide_eq_false_iff_not]; omega
theorem impl_letter (b : Int) : impl_isLetter.f b = some (isL b) := by
  unfold impl_isLetter.f
  by_cases h1 : b ≥ 97 <;> by_cases h2 : b ≤ 122 <;> by_cases h3 : b ≥ 65 <;> by_cases h4 : b ≤ 90 <;> simp only [h1, h2, h3, h4, if_true, if_false, Option.some.injEq] <;>
    first | exact beq95 b (by omega) (by omega) | (symm; unfold isL; simp only [decide_eq_true_eq]; omega)
theorem spec_letter (b : Int) : spec_l00Letter.f b = some (isL b) := impl_letter b
theorem impl_digit (b : Int) : impl_isDigit.f b = some (isD b) := by
  unfold impl_isDigit.f isD
  by_cases h1 : b ≥ 48
  · rw [if_pos h1]; simp only [Option.some.injEq, decide_eq_decide]; omega
  · rw [if_neg h1]; simp only [Option.some.injEq]; symm; rw [decide_eq_false_iff_not]; omega
theorem spec_digit (b : Int) : spec_l00Digit.f b = some (isD b) := impl_digit b
/-- The reference's loop, from i on. -/
theorem spec_word_from (s : ByteArray) (hn : s.size ≤ 1048576) (d : Nat) : ∀ (k : Nat) (i : Int), 0 ≤ i → i ≤ s.size → (s.size : Int) - i = d → d < k →
    ∃ r, spec_l00Word.l0 k s i = some r ∧ (r = true ↔ ∀ j : Int, i ≤ j → j < s.size → isL (bt s j) = true ∨ isD (bt s j) = true) := by
  induction d with
  | zero =>
    intro k i h0 h1 hd hk
    obtain ⟨k, rfl⟩ : ∃ m, k = m + 1 := ⟨k - 1, by omega⟩
    refine ⟨true, ?_, ⟨fun _ j h2 h3 => by omega, fun _ => rfl⟩⟩
    simp only [spec_l00Word.l0]; rw [if_neg (by omega)]
  | succ d ih =>
    intro k i h0 h1 hd hk
    obtain ⟨k, rfl⟩ : ∃ m, k = m + 1 := ⟨k - 1, by omega⟩
    have hw : wrap64 (i + 1) = i + 1 := by unfold wrap64; omega
    obtain ⟨r, e, hr⟩ := ih k (i + 1) (by omega) (by omega) (by omega) (by omega)
    have step : (isL (bt s i) = true ∨ isD (bt s i) = true) → (r = true ↔ ∀ j : Int, i ≤ j → j < s.size → isL (bt s j) = true ∨ isD (bt s j) = true) := by
      intro hh
      rw [hr]
      constructor
      · intro h j h2 h3
        rcases Int.lt_or_eq_of_le h2 with h4 | h4
        · exact h j (by omega) h3
        · rw [← h4]; exact hh
      · intro h j h2 h3; exact h j (by omega) h3
    simp only [spec_l00Word.l0]; rw [if_pos (by omega), if_pos h0, spec_letter]; simp only [Option.bind_some]
    by_cases hl : isL (bt s i) = true
    · rw [if_pos hl, hw]; exact ⟨r, e, step (.inl hl)⟩
    · rw [if_neg hl, spec_digit]; simp only [Option.bind_some]
      by_cases hdg : isD (bt s i) = true
      · rw [if_pos hdg, hw]; exact ⟨r, e, step (.inr hdg)⟩
      · rw [if_neg hdg]
        exact ⟨false, rfl, ⟨fun h => (by cases h), fun h => absurd (h i (Int.le_refl _) (by omega)) (fun h => h.elim hl hdg)⟩⟩
theorem spec_name (s : ByteArray) (hn : s.size ≤ 1048576) : ∃ r, (∀ k, s.size + 1 < k → spec_NameOK.f k s = some r) ∧ (r = true ↔ IsName s) := by
  by_cases h1 : (s.size : Int) < 1
  · refine ⟨false, fun k hk => ?_, ⟨fun h => (by cases h), fun h => absurd h.1 (by omega)⟩⟩
    obtain ⟨k, rfl⟩ : ∃ m, k = m + 1 := ⟨k - 1, by omega⟩
    unfold spec_NameOK.f spec_l00Word.f
    rw [if_pos h1]; rfl
  · by_cases h2 : (s.size : Int) > 40
    · refine ⟨false, fun k hk => ?_, ⟨fun h => (by cases h), fun h => absurd h.2.1 (by omega)⟩⟩
      obtain ⟨k, rfl⟩ : ∃ m, k = m + 1 := ⟨k - 1, by omega⟩
      unfold spec_NameOK.f spec_l00Word.f
      rw [if_neg h1, if_pos h2]; rfl
    · by_cases hl : isL (bt s 0) = true
      · obtain ⟨r, _, hr⟩ := spec_word_from s hn (s.size - 1) (s.size + 1) 1 (by omega) (by omega) (by omega) (by omega)
        refine ⟨r, fun k hk => ?_, ?_⟩
        · obtain ⟨k, rfl⟩ : ∃ m, k = m + 1 := ⟨k - 1, by omega⟩
          obtain ⟨r', e', hr'⟩ := spec_word_from s hn (s.size - 1) k 1 (by omega) (by omega) (by omega) (by omega)
          have : r' = r := by rw [Bool.eq_iff_iff, hr, hr']
          subst this
          unfold spec_NameOK.f spec_l00Word.f
          rw [if_neg h1, if_neg h2, if_pos (by omega), spec_letter]; simp only [Option.bind_some, hl, Bool.not_true, spec_l00Word.j0]
          rw [if_neg (by simp), e']; rfl
        · rw [hr]; exact ⟨fun h => ⟨by omega, by omega, hl, h⟩, fun h => h.2.2.2⟩
      · refine ⟨false, fun k hk => ?_, ⟨fun h => (by cases h), fun h => absurd h.2.2.1 hl⟩⟩
        obtain ⟨k, rfl⟩ : ∃ m, k = m + 1 := ⟨k - 1, by omega⟩
        unfold spec_NameOK.f spec_l00Word.f
        rw [if_neg h1, if_neg h2, if_pos (by omega), spec_letter]; simp only [Option.bind_some]
        have : isL (bt s 0) = false := by simpa using hl
        rw [this]; rfl
/-- The program's loop, from i on. -/
theorem impl_name_from (s : ByteArray) (hn : s.size ≤ 1048576) (d : Nat) : ∀ (k : Nat) (i : Int), 0 ≤ i → i ≤ s.size → (s.size : Int) - i = d → d < k →
    ∃ r, impl_NameOK.l0 k s s.size i = some r ∧ (r = true ↔ (1 ≤ s.size ∧ s.size ≤ 40) ∧ ∀ j : Int, i ≤ j → j < s.size → isL (bt s j) = true ∨ j ≠ 0 ∧ isD (bt s j) = true) := by
  induction d with
  | zero =>
    intro k i h0 h1 hd hk
    obtain ⟨k, rfl⟩ : ∃ m, k = m + 1 := ⟨k - 1, by omega⟩
    simp only [impl_NameOK.l0]; rw [if_neg (by omega)]
    unfold impl_within.f
    by_cases h2 : (s.size : Int) ≥ 1
    · rw [if_pos h2]
      refine ⟨_, rfl, ?_⟩
      simp only [decide_eq_true_eq]
      exact ⟨fun h => ⟨⟨by omega, by omega⟩, fun j _ _ => by omega⟩, fun h => by omega⟩
    · rw [if_neg h2]
      refine ⟨_, rfl, ?_⟩
      exact ⟨fun h => by simp at h, fun h => by omega⟩
  | succ d ih =>
    intro k i h0 h1 hd hk
    obtain ⟨k, rfl⟩ : ∃ m, k = m + 1 := ⟨k - 1, by omega⟩
    have hw : wrap64 (i + 1) = i + 1 := by unfold wrap64; omega
    obtain ⟨r, e, hr⟩ := ih k (i + 1) (by omega) (by omega) (by omega) (by omega)
    have step : (isL (bt s i) = true ∨ i ≠ 0 ∧ isD (bt s i) = true) → (r = true ↔ (1 ≤ s.size ∧ s.size ≤ 40) ∧ ∀ j : Int, i ≤ j → j < s.size → isL (bt s j) = true ∨ j ≠ 0 ∧ isD (bt s j) = true) := by
      intro hh
      rw [hr]
      constructor
      · intro ⟨h', h⟩
        refine ⟨h', fun j h2 h3 => ?_⟩
        rcases Int.lt_or_eq_of_le h2 with h4 | h4
        · exact h j (by omega) h3
        · rw [← h4]; exact hh
      · intro ⟨h', h⟩; exact ⟨h', fun j h2 h3 => h j (by omega) h3⟩
    simp only [impl_NameOK.l0]; rw [if_pos (by omega), if_pos h0, if_pos (by omega), impl_letter]; simp only [Option.bind_some]
    by_cases hl : isL (bt s i) = true
    · rw [if_pos hl, hw]; exact ⟨r, e, step (.inl hl)⟩
    · rw [if_neg hl]
      by_cases hz : i = 0
      · rw [if_pos hz]
        exact ⟨false, rfl, ⟨fun h => (by cases h), fun h => absurd (h.2 i (Int.le_refl _) (by omega)) (fun h => h.elim hl (fun h => h.1 hz))⟩⟩
      · rw [if_neg hz, impl_digit]; simp only [Option.bind_some]
        by_cases hdg : isD (bt s i) = true
        · rw [if_pos hdg, hw]; exact ⟨r, e, step (.inr ⟨hz, hdg⟩)⟩
        · rw [if_neg hdg]
          exact ⟨false, rfl, ⟨fun h => (by cases h), fun h => absurd (h.2 i (Int.le_refl _) (by omega)) (fun h => h.elim hl (fun h => hdg h.2))⟩⟩
theorem impl_name (s : ByteArray) (hn : s.size ≤ 1048576) : ∃ r, (∀ k, s.size + 1 < k → impl_NameOK.f k s = some r) ∧ (r = true ↔ IsName s) := by
  obtain ⟨r, _, hr⟩ := impl_name_from s hn s.size (s.size + 1) 0 (by omega) (by omega) (by omega) (by omega)
  refine ⟨r, fun k hk => ?_, ?_⟩
  · obtain ⟨r', e', hr'⟩ := impl_name_from s hn s.size k 0 (by omega) (by omega) (by omega) (by omega)
    have : r' = r := by rw [Bool.eq_iff_iff, hr, hr']
    subst this
    exact e'
  · rw [hr]
    constructor
    · rintro ⟨⟨h1, h2⟩, h⟩
      refine ⟨h1, h2, ?_, fun j hj hj' => ?_⟩
      · have := h 0 (by omega) (by omega)
        simpa using this
      · rcases h j (by omega) hj' with h | h
        · exact .inl h
        · exact .inr h.2
    · rintro ⟨h1, h2, h3, h⟩
      refine ⟨⟨h1, h2⟩, fun j hj hj' => ?_⟩
      by_cases hz : j = 0
      · subst hz; exact .inl h3
      · rcases h j (by omega) hj' with h | h
        · exact .inl h
        · exact .inr ⟨hz, h⟩
/-- Both say the same. -/
theorem names_agree (s : ByteArray) (hn : s.size ≤ 1048576) : ∃ r, (∀ k, s.size + 1 < k → spec_NameOK.f k s = some r ∧ impl_NameOK.f k s = some r) ∧ (r = true ↔ IsName s) := by
  obtain ⟨r, e, hr⟩ := spec_name s hn
  obtain ⟨r', e', hr'⟩ := impl_name s hn
  have : r' = r := by rw [Bool.eq_iff_iff, hr, hr']
  subst this
  exact ⟨r', fun k hk => ⟨e k hk, e' k hk⟩, hr⟩
theorem names_ev (s : ByteArray) (hn : s.size ≤ 1048576) : ∃ r, Ev (fun k => spec_NameOK.f k s) r ∧ Ev (fun k => impl_NameOK.f k s) r ∧ (r = true ↔ IsName s) := by
  obtain ⟨r, h, hr⟩ := names_agree s hn
  exact ⟨r, ev_mk (s.size + 2) (fun k hk => (h k (by omega)).1), ev_mk (s.size + 2) (fun k hk => (h k (by omega)).2), hr⟩
/-! texts as rows of bytes -/
def Lb (s : ByteArray) : List UInt8 := s.data.toList
theorem lb_len (s : ByteArray) : (Lb s).length = s.size := by unfold Lb; rw [Array.length_toList]; rfl
theorem lb_ext {s t : ByteArray} (h : Lb s = Lb t) : s = t := by apply ByteArray.ext; apply Array.toList_inj.1; exact h
theorem lb_list (s : ByteArray) : s.toList = Lb s := ByteArray.toList_eq s
theorem lb_cut (s : ByteArray) (a b : Nat) : Lb (s.extract a b) = ((Lb s).drop a).take (b - a) := by
  unfold Lb
  rw [ByteArray.data_extract, Array.toList_extract]
theorem lb_from (s : ByteArray) (a : Nat) : Lb (s.extract a s.size) = (Lb s).drop a := by
  rw [lb_cut, List.take_of_length_le]
  rw [List.length_drop, lb_len]
  exact Nat.le_refl _
theorem lb_at (s : ByteArray) (n : Nat) (h : n < s.size) : ∃ b, (Lb s).drop n = b :: (Lb s).drop (n + 1) ∧ bt s (n : Int) = (b.toNat : Int) := by
  have hl : n < (Lb s).length := by rw [lb_len]; exact h
  refine ⟨(Lb s)[n], List.drop_eq_getElem_cons hl, ?_⟩
  unfold bt
  rw [dif_pos (by rw [Int.toNat_natCast]; exact h)]
  rfl
theorem lb_none (s : ByteArray) (n : Nat) (h : s.size ≤ n) : (Lb s).drop n = [] := List.drop_of_length_le (by rw [lb_len]; exact h)
theorem wnext {n : Nat} (h : n ≤ 4611686018427387904) : wrap64 ((n : Int) + 1) = ((n + 1 : Nat) : Int) := by unfold wrap64; omega
/-- How many letters and digits a row begins with. -/
def wl : List UInt8 → Nat
  | [] => 0
  | b :: r => if isL b.toNat = true ∨ isD b.toNat = true then wl r + 1 else 0
theorem wl_le : ∀ l : List UInt8, wl l ≤ l.length
  | [] => Nat.le_refl _
  | b :: r => by
    have := wl_le r
    simp only [wl, List.length_cons]
    split <;> omega
theorem impl_word_at (s : ByteArray) (hs : s.size ≤ 1048576) : ∀ (d n : Nat), n + d = s.size → Ev (fun k => impl_wordAt.l0 k s (n : Int)) ((n + wl ((Lb s).drop n) : Nat) : Int) := by
  intro d
  induction d with
  | zero =>
    intro n h
    rw [lb_none s n (by omega)]
    exact ev_now ⟨0, fun k _ => by simp only [impl_wordAt.l0]; rw [if_neg (by omega)]; rfl⟩
  | succ d ih =>
    intro n h
    obtain ⟨b, hb, he⟩ := lb_at s n (by omega)
    have hw := wnext (n := n) (by omega)
    rw [hb]
    simp only [wl]
    by_cases h1 : isL b.toNat = true
    · rw [if_pos (.inl h1), show n + (wl ((Lb s).drop (n + 1)) + 1) = (n + 1) + wl ((Lb s).drop (n + 1)) by omega]
      exact ev_step ⟨0, fun k _ => by simp only [impl_wordAt.l0]; rw [if_pos (by omega), if_pos (by omega), he, impl_letter]; simp only [Option.bind_some]; rw [if_pos h1, hw]⟩ (ih (n + 1) (by omega))
    · by_cases h2 : isD b.toNat = true
      · rw [if_pos (.inr h2), show n + (wl ((Lb s).drop (n + 1)) + 1) = (n + 1) + wl ((Lb s).drop (n + 1)) by omega]
        exact ev_step ⟨0, fun k _ => by simp only [impl_wordAt.l0]; rw [if_pos (by omega), if_pos (by omega), he, impl_letter]; simp only [Option.bind_some]; rw [if_neg h1, impl_digit]; simp only [Option.bind_some]; rw [if_pos h2, hw]⟩ (ih (n + 1) (by omega))
      · rw [if_neg (by simp [h1, h2])]
        exact ev_now ⟨0, fun k _ => by simp only [impl_wordAt.l0]; rw [if_pos (by omega), if_pos (by omega), he, impl_letter]; simp only [Option.bind_some]; rw [if_neg h1, impl_digit]; simp only [Option.bind_some]; rw [if_neg h2]; rfl⟩
theorem impl_word_len (s : ByteArray) (hs : s.size ≤ 1048576) : Ev (fun k => impl_wordAt.f k s) ((wl (Lb s) : Nat) : Int) := by
  have h := impl_word_at s hs s.size 0 (by omega)
  rw [List.drop_zero, Nat.zero_add] at h
  exact h
end Go.Proofs.YtonofmbpjjckjaaGreatDoor.Pure2
namespace Go.Proofs.YtonofmbpjjckjaaGreatDoor.Pure2
open Go.RowKit Go.Proofs.YtonofmbpjjckjaaGreatDoor.Q Go.Proofs.YtonofmbpjjckjaaGreatDoorW.PrintWords Go.Proofs.YtonofmbpjjckjaaGreatDoorW.PrintLast
set_option linter.unusedVariables false
set_option linter.unusedSimpArgs false
/-! numerals are read back -/
theorem dec_app : ∀ (l : List UInt8) (acc : Nat) (b : UInt8), Lib.decFrom acc (l ++ [b]) = (Lib.decFrom acc l).bind fun n => (Lib.digitVal b).map fun d => n * 10 + d
  | [], acc, b => by
    simp only [List.nil_append, Lib.decFrom, Option.bind_some]
    cases Lib.digitVal b <;> rfl
  | c :: r, acc, b => by
    simp only [List.cons_append, Lib.decFrom]
    cases Lib.digitVal c with
    | none => rfl
    | some d => exact dec_app r _ b
theorem digit_val (d : Nat) (h : d < 10) : Lib.digitVal (UInt8.ofNat (48 + d)) = some d := by
  unfold Lib.digitVal
  have e : (UInt8.ofNat (48 + d)).toNat = 48 + d := by rw [UInt8.toNat_ofNat']; omega
  rw [e, if_pos (by omega)]
  congr 1
  omega
theorem dec_read (u : Nat) : Lib.decFrom 0 (Lib.decDigits u) = some u := by
  induction u using Nat.strongRecOn with
  | _ u ih =>
    rw [Lib.decDigits]
    by_cases h : u < 10
    · rw [dif_pos h]
      simp only [Lib.decFrom, digit_val u h]
      simp
    · rw [dif_neg h, dec_app, ih (u / 10) (by omega), digit_val _ (by omega)]
      simp only [Option.bind_some, Option.map_some]
      congr 1
      omega
theorem dec_digit (u : Nat) : ∀ b ∈ Lib.decDigits u, 48 ≤ b.toNat ∧ b.toNat ≤ 57 := by
  induction u using Nat.strongRecOn with
  | _ u ih =>
    have hd : ∀ d, d < 10 → 48 ≤ (UInt8.ofNat (48 + d)).toNat ∧ (UInt8.ofNat (48 + d)).toNat ≤ 57 := fun d h => by rw [UInt8.toNat_ofNat']; omega
    rw [Lib.decDigits]
    by_cases h : u < 10
    · rw [dif_pos h]
      intro b hb
      rw [List.mem_singleton.1 hb]
      exact hd u h
    · rw [dif_neg h]
      intro b hb
      rcases List.mem_append.1 hb with hb | hb
      · exact ih (u / 10) (by omega) b hb
      · rw [List.mem_singleton.1 hb]
        exact hd _ (by omega)
theorem dec_head (u : Nat) : ∃ b r, Lib.decDigits u = b :: r ∧ (b.toNat = 48 → u = 0 ∧ r = []) := by
  induction u using Nat.strongRecOn with
  | _ u ih =>
    rw [Lib.decDigits]
    by_cases h : u < 10
    · rw [dif_pos h]
      exact ⟨_, _, rfl, fun e => ⟨by rw [UInt8.toNat_ofNat'] at e; omega, rfl⟩⟩
    · rw [dif_neg h]
      obtain ⟨b, r, e, hb⟩ := ih (u / 10) (by omega)
      rw [e]
      exact ⟨b, r ++ [_], rfl, fun h0 => absurd (hb h0).1 (by omega)⟩
theorem dec_len (u : Nat) (h : u < 10000000000) : (Lib.decDigits u).length ≤ 10 := by
  have step : ∀ k u : Nat, u < 10 ^ k → 1 ≤ k → (Lib.decDigits u).length ≤ k := by
    intro k
    induction k with
    | zero => intro u _ h; omega
    | succ k ih =>
      intro u hu _
      rw [Lib.decDigits]
      by_cases h10 : u < 10
      · rw [dif_pos h10]; simp
      · rw [dif_neg h10, List.length_append]
        have := ih (u / 10) (by rw [Nat.pow_succ] at hu; omega) (by
          cases k with
          | zero => simp at hu; omega
          | succ k => omega)
        simp only [List.length_cons, List.length_nil]
        omega
  exact step 10 u h (by omega)
theorem itoa_read (n : Int) : Lib.atoi (Lib.itoa n) = some n := by
  unfold Lib.itoa
  by_cases h : n < 0
  · rw [if_pos h]
    have e : Lib.decNat (Lib.decDigits n.natAbs) = some n.natAbs := by
      unfold Lib.decNat
      obtain ⟨b, r, e, _⟩ := dec_head n.natAbs
      rw [e, if_neg (by simp), ← e, dec_read]
    simp only [Lib.atoi]
    rw [if_pos (by decide), e]
    simp only [Option.map_some]
    congr 1
    omega
  · rw [if_neg h]
    obtain ⟨b, r, e, _⟩ := dec_head n.toNat
    have hb := dec_digit n.toNat b (by rw [e]; simp)
    have e2 : Lib.decNat (b :: r) = some n.toNat := by
      unfold Lib.decNat
      rw [if_neg (by simp), ← e, dec_read]
    rw [e]
    simp only [Lib.atoi]
    have h45 : (b == 45) = false := by rw [beq_eq_false_iff_ne]; rintro rfl; exact absurd hb.1 (by decide)
    have h43 : (b == 43) = false := by rw [beq_eq_false_iff_ne]; rintro rfl; exact absurd hb.1 (by decide)
    rw [h45, h43, e2]
    simp only [Bool.false_eq_true, if_false, Option.map_some]
    congr 1
    omega
theorem itoa_len (n : Int) (h0 : -2147483648 ≤ n) (h1 : n ≤ 2147483647) : (Lib.itoa n).length ≤ 11 := by
  unfold Lib.itoa
  by_cases h : n < 0
  · rw [if_pos h]
    have := dec_len n.natAbs (by omega)
    simp only [List.length_cons]
    omega
  · rw [if_neg h]
    have := dec_len n.toNat (by omega)
    omega
theorem itoa_all (n : Int) (h0 : -2147483648 ≤ n) (h1 : n ≤ 2147483647) : Lib.atoiAll (Lib.itoa n) = .ok n := by
  rw [Lib.atoiAll_short _ (by have := itoa_len n h0 h1; omega), itoa_read]
  rfl
/-! a number's digits -/
theorem dec_digits : ∀ u : Nat, u ≤ 999999999999999999 → Ev (fun k => spec_l00Digits.f k (u : Int)) ⟨(Lib.decDigits u).toArray⟩ ∧ (Lib.decDigits u).length ≤ u + 1 := by
  intro u
  induction u using Nat.strongRecOn with
  | _ u ih =>
    intro hu
    rw [Lib.decDigits]
    by_cases h : u < 10
    · rw [dif_pos h]
      refine ⟨ev_now ⟨0, fun k _ => ?_⟩, by simp⟩
      simp only [spec_l00Digits.f]
      rw [if_neg (by omega), if_neg (by omega), if_pos (by omega)]
      have e : wrap64 (48 + (u : Int)) % 256 = ((48 + u : Nat) : Int) := by unfold wrap64; omega
      rw [e]
      rfl
    · rw [dif_neg h]
      obtain ⟨e1, hl⟩ := ih (u / 10) (by omega) (by omega)
      obtain ⟨K, h1⟩ := ev_at e1
      refine ⟨ev_mk (K + 1) fun k hk => ?_, by rw [List.length_append]; simp only [List.length_cons, List.length_nil]; omega⟩
      obtain ⟨m, rfl⟩ : ∃ m, k = m + 1 := ⟨k - 1, by omega⟩
      have e2 : wrap64 (Int.tdiv (u : Int) 10) = ((u / 10 : Nat) : Int) := by rw [Int.tdiv_eq_ediv_of_nonneg (by omega)]; unfold wrap64; omega
      have e3 : wrap64 (48 + Int.tmod (u : Int) 10) % 256 = ((48 + u % 10 : Nat) : Int) := by rw [Int.tmod_eq_emod_of_nonneg (by omega)]; unfold wrap64; omega
      simp only [spec_l00Digits.f]
      rw [if_neg (by omega), if_neg (by omega), if_neg (by omega), e2, h1 m (by omega), e3]
      simp only [Option.bind_some]
      have e4 : strOfNums [((48 + u % 10 : Nat) : Int)] = ⟨[UInt8.ofNat (48 + u % 10)].toArray⟩ := rfl
      rw [e4, if_pos (by show (Lib.decDigits (u / 10)).toArray.size + [UInt8.ofNat (48 + u % 10)].toArray.size ≤ _; simp; omega)]
      first | (congr 1; done) | (congr 1; apply ByteArray.ext; simp)
theorem digits_agree (n : Int) (h0 : -999999999999999999 ≤ n) (h1 : n ≤ 999999999999999999) : Ev (fun k => spec_l00Digits.f k n) ⟨(Lib.itoa n).toArray⟩ ∧ strconv_Itoa.f n = some ⟨(Lib.itoa n).toArray⟩ ∧ (Lib.itoa n).length ≤ 1000000000000000002 := by
  have e0 : strconv_Itoa.f n = some ⟨(Lib.itoa n).toArray⟩ := by unfold strconv_Itoa.f; rw [if_pos (by omega)]
  unfold Lib.itoa
  by_cases h : n < 0
  · rw [if_pos h]
    obtain ⟨e1, hl⟩ := dec_digits n.natAbs (by omega)
    obtain ⟨K, k1⟩ := ev_at e1
    refine ⟨ev_mk (K + 1) fun k hk => ?_, by rw [e0]; unfold Lib.itoa; rw [if_pos h], by simp only [List.length_cons]; omega⟩
    obtain ⟨m, rfl⟩ : ∃ m, k = m + 1 := ⟨k - 1, by omega⟩
    have e2 : wrap64 (-n) = (n.natAbs : Int) := by unfold wrap64; omega
    simp only [spec_l00Digits.f]
    rw [if_neg (by omega), if_pos h, e2, k1 m (by omega)]
    simp only [Option.bind_some]
    rw [if_pos (by show 1 + (Lib.decDigits n.natAbs).toArray.size ≤ _; simp; omega)]
    first | (congr 1; done) | (congr 1; apply ByteArray.ext; simp)
  · rw [if_neg h]
    obtain ⟨e1, hl⟩ := dec_digits n.toNat (by omega)
    refine ⟨?_, by rw [e0]; unfold Lib.itoa; rw [if_neg h], by omega⟩
    rw [show (n.toNat : Int) = n by omega] at e1
    exact e1
end Go.Proofs.YtonofmbpjjckjaaGreatDoor.Pure2
namespace Go.Proofs.YtonofmbpjjckjaaGreatDoor.Pure2
open Go.RowKit Go.Proofs.YtonofmbpjjckjaaGreatDoor.Q Go.Proofs.YtonofmbpjjckjaaGreatDoorW.PrintWords Go.Proofs.YtonofmbpjjckjaaGreatDoorW.PrintLast
set_option linter.unusedVariables false
set_option linter.unusedSimpArgs false
/-! numbers -/
def resN (sg : Int) : Option Nat → Int × Bool
  | some n => (sg * (n : Int), true)
  | none => (0, false)
theorem wrap_id {x : Int} (h0 : -9223372036854775808 ≤ x) (h1 : x ≤ 9223372036854775807) : wrap64 x = x := by unfold wrap64; omega
/-- A text that says an int of 32 bits. -/
def IntText (t : ByteArray) (v : Int) : Prop := (-2147483648 ≤ v ∧ v ≤ 2147483647) ∧ Lb t = Lib.itoa v
theorem spec_in1 (a : Int) : spec_IsInt.f a = some (decide (-2147483648 ≤ a ∧ a ≤ 2147483647)) := by
  unfold spec_IsInt.f spec_l01In.f
  by_cases h1 : -2147483648 ≤ a <;> simp [h1]
theorem impl_in1 (a : Int) : impl_IsInt.f a = some (decide (-2147483648 ≤ a ∧ a ≤ 2147483647)) := by
  unfold impl_IsInt.f impl_within.f
  by_cases h1 : -2147483648 ≤ a <;> simp [h1]
theorem impl_int (t : ByteArray) (ht : t.size ≤ 1048576) : ∃ r, impl_intOf.f t = some r ∧ (r.2 = true → IntText t r.1) ∧ ∀ v, IntText t v → r = (v, true) := by
  have eT : ∀ v, impl_numberOf.T t v ↔ Lb t = Lib.itoa v ∧ (Lib.trimPrefix t.data.toList [45]).length ≤ 18 := fun v => by
    unfold impl_numberOf.T
    rw [lb_list, lb_list]
    show Lb ⟨(Lib.itoa v).toArray⟩ = Lb t ∧ (Lib.trimPrefix t.data.toList [45]).toArray.size ≤ 18 ↔ _
    rw [List.size_toArray]
    exact ⟨fun h => ⟨h.1.symm, h.2⟩, fun h => ⟨h.1.symm, h.2⟩⟩
  have rd : ∀ v, IntText t v → Lib.atoiAll t.data.toList = .ok v ∧ impl_numberOf.T t v := fun v hi => by
    have e : t.data.toList = Lib.itoa v := hi.2
    refine ⟨by rw [e]; exact itoa_all v hi.1.1 hi.1.2, (eT v).2 ⟨hi.2, ?_⟩⟩
    have := itoa_len v hi.1.1 hi.1.2
    have h2 : (Lib.trimPrefix t.data.toList [45]).length ≤ t.data.toList.length := by
      unfold Lib.trimPrefix
      split
      · rw [List.length_drop]; omega
      · exact Nat.le_refl _
    rw [e] at h2 ⊢
    omega
  unfold impl_intOf.f impl_numberOf.f
  rw [if_pos (by omega)]
  rcases ha : Lib.atoiAll t.data.toList with v | _ | _
  · by_cases hT : impl_numberOf.T t v
    · simp only [hT, if_true, decide_true, Option.bind_some, impl_in1]
      by_cases hi : -2147483648 ≤ v ∧ v ≤ 2147483647
      · refine ⟨(v, true), by simp [hi], fun _ => ⟨hi, ((eT v).1 hT).1⟩, fun v' hi' => ?_⟩
        have := (rd v' hi').1
        rw [ha] at this
        injection this with this
        rw [this]
      · refine ⟨(0, false), by rw [decide_eq_false hi]; rfl, fun h => (by cases h), fun v' hi' => ?_⟩
        have := (rd v' hi').1
        rw [ha] at this
        injection this with this
        subst this
        exact absurd hi'.1 hi
    · refine ⟨(0, false), by simp [hT], fun h => (by cases h), fun v' hi' => ?_⟩
      have := (rd v' hi').1
      rw [ha] at this
      injection this with this
      subst this
      exact absurd (rd _ hi').2 hT
  · refine ⟨(0, false), rfl, fun h => (by cases h), fun v' hi' => ?_⟩
    have := (rd v' hi').1
    rw [ha] at this
    cases this
  · refine ⟨(0, false), rfl, fun h => (by cases h), fun v' hi' => ?_⟩
    have := (rd v' hi').1
    rw [ha] at this
    cases this
theorem int_one {t : ByteArray} {v v' : Int} (h : IntText t v) (h' : IntText t v') : v = v' := by
  have a := itoa_read v
  have b := itoa_read v'
  rw [← h.2, h'.2, b] at a
  exact (Option.some.inj a).symm
end Go.Proofs.YtonofmbpjjckjaaGreatDoor.Pure2
namespace Go.Proofs.YtonofmbpjjckjaaGreatDoor.Pure2
open Go.RowKit Go.Proofs.YtonofmbpjjckjaaGreatDoor.Q Go.Proofs.YtonofmbpjjckjaaGreatDoorW.PrintWords Go.Proofs.YtonofmbpjjckjaaGreatDoorW.PrintLast
set_option linter.unusedVariables false
set_option linter.unusedSimpArgs false
/-- slices.Index over texts. -/
theorem index_text (l : List ByteArray) (t : ByteArray) (hl : l.length ≤ 1048576) : ∃ r, Ev (fun k => slices_Index_string_string.f k l t) r ∧ (r ≥ 0 ↔ ∃ j, j < l.length ∧ t.toList = (l.getD j ByteArray.empty).toList) := by
  obtain ⟨r, hr, he⟩ := count_loop l.length (fun k i => slices_Index_string_string.l0 k l t (l.length : Int) i) (fun j r => r ≥ 0 ↔ ∃ j', j ≤ j' ∧ j' < l.length ∧ t.toList = (l.getD j' ByteArray.empty).toList)
    ⟨-1, ⟨fun h => by omega, fun ⟨j', h1, h2, _⟩ => by omega⟩, ev_now ⟨0, fun k _ => by simp only [slices_Index_string_string.l0]; rw [if_neg (by omega)]⟩⟩
    (fun j hj r hr he => by
      have hd : rdOf ByteArray.empty l (j : Int) = l.getD j ByteArray.empty := rfl
      by_cases hc : t.toList = (l.getD j ByteArray.empty).toList
      · exact ⟨(j : Int), ⟨fun _ => ⟨j, Nat.le_refl _, hj, hc⟩, fun _ => by omega⟩, ev_now ⟨0, fun k _ => by simp only [slices_Index_string_string.l0]; rw [if_pos (by omega), if_pos (by omega), if_pos (by omega), hd, if_pos hc]⟩⟩
      · refine ⟨r, hr.trans ⟨fun ⟨j', h1, h2, h3⟩ => ⟨j', by omega, h2, h3⟩, fun ⟨j', h1, h2, h3⟩ => ?_⟩, ev_step ⟨0, fun k _ => by simp only [slices_Index_string_string.l0]; rw [if_pos (by omega), if_pos (by omega), if_pos (by omega), hd, if_neg hc, wsucc hj (by omega)]⟩ he⟩
        rcases Nat.lt_or_eq_of_le h1 with h4 | rfl
        · exact ⟨j', h4, h2, h3⟩
        · exact absurd h3 hc) 0 (by omega)
  refine ⟨r, ev_same ⟨0, fun k _ => by unfold slices_Index_string_string.f; rfl⟩ he, hr.trans ⟨fun ⟨j, _, h2, h3⟩ => ⟨j, h2, h3⟩, fun ⟨j, h2, h3⟩ => ⟨j, by omega, h2, h3⟩⟩⟩
/-- What is a mark. -/
def IsPunct (t : List UInt8) : Prop := t = [123] ∨ t = [125] ∨ t = [40] ∨ t = [41] ∨ t = [91] ∨ t = [93] ∨ t = [58] ∨ t = [33] ∨ t = [64] ∨ t = [46, 46, 46]
theorem spec_punct (s : ByteArray) : ∃ r, spec_l01Punct.f s = some r ∧ (r = true ↔ IsPunct s.toList) := by
  unfold spec_l01Punct.f IsPunct
  generalize s.toList = t
  by_cases h1 : t = [123]
  · rw [if_pos h1]; exact ⟨_, rfl, by simp [h1]⟩
  rw [if_neg h1]
  by_cases h2 : t = [125]
  · rw [if_pos h2]; exact ⟨_, rfl, by simp [h2]⟩
  rw [if_neg h2]
  by_cases h3 : t = [40]
  · rw [if_pos h3]; exact ⟨_, rfl, by simp [h3]⟩
  rw [if_neg h3]
  by_cases h4 : t = [41]
  · rw [if_pos h4]; exact ⟨_, rfl, by simp [h4]⟩
  rw [if_neg h4]
  by_cases h5 : t = [91]
  · rw [if_pos h5]; exact ⟨_, rfl, by simp [h5]⟩
  rw [if_neg h5]
  by_cases h6 : t = [93]
  · rw [if_pos h6]; exact ⟨_, rfl, by simp [h6]⟩
  rw [if_neg h6]
  by_cases h7 : t = [58]
  · rw [if_pos h7]; exact ⟨_, rfl, by simp [h7]⟩
  rw [if_neg h7]
  by_cases h8 : t = [33]
  · rw [if_pos h8]; exact ⟨_, rfl, by simp [h8]⟩
  rw [if_neg h8]
  by_cases h9 : t = [64]
  · rw [if_pos h9]; exact ⟨_, rfl, by simp [h9]⟩
  rw [if_neg h9]
  exact ⟨_, rfl, by simp [h1, h2, h3, h4, h5, h6, h7, h8, h9]⟩
theorem impl_punct (s : ByteArray) : ∃ x r, impl_puncts.f = some x ∧ Ev (fun k => slices_Contains_string_string.f k x s) r ∧ (r = true ↔ IsPunct s.toList) := by
  obtain ⟨x, hx⟩ : ∃ x, impl_puncts.f = some x := ⟨_, rfl⟩
  have hx' := hx
  unfold impl_puncts.f at hx'
  have hl : x.length = 10 := by rw [← Option.some.inj hx']; rfl
  have hj : ∀ j, j < 10 → (x.getD j ByteArray.empty).toList = [[123], [125], [40], [41], [91], [93], [58], [33], [64], [46, 46, 46]].getD j [] := by
    intro j hj
    rw [← Option.some.inj hx']
    rcases (by omega : j = 0 ∨ j = 1 ∨ j = 2 ∨ j = 3 ∨ j = 4 ∨ j = 5 ∨ j = 6 ∨ j = 7 ∨ j = 8 ∨ j = 9) with rfl | rfl | rfl | rfl | rfl | rfl | rfl | rfl | rfl | rfl <;> (rw [ByteArray.toList_eq]; rfl)
  obtain ⟨r, he, hr⟩ := index_text x s (by omega)
  obtain ⟨K, h⟩ := ev_at he
  refine ⟨x, decide (r ≥ 0), hx, ev_mk K (fun k hk => by unfold slices_Contains_string_string.f; rw [h k hk]; rfl), ?_⟩
  rw [decide_eq_true_eq, hr, hl]
  unfold IsPunct
  generalize s.toList = t
  constructor
  · rintro ⟨j, h1, h2⟩
    rw [hj j h1] at h2
    rcases (by omega : j = 0 ∨ j = 1 ∨ j = 2 ∨ j = 3 ∨ j = 4 ∨ j = 5 ∨ j = 6 ∨ j = 7 ∨ j = 8 ∨ j = 9) with rfl | rfl | rfl | rfl | rfl | rfl | rfl | rfl | rfl | rfl <;> simp at h2 <;> simp [h2]
  · rintro (h | h | h | h | h | h | h | h | h | h)
    · exact ⟨0, by omega, by rw [hj 0 (by omega)]; exact h⟩
    · exact ⟨1, by omega, by rw [hj 1 (by omega)]; exact h⟩
    · exact ⟨2, by omega, by rw [hj 2 (by omega)]; exact h⟩
    · exact ⟨3, by omega, by rw [hj 3 (by omega)]; exact h⟩
    · exact ⟨4, by omega, by rw [hj 4 (by omega)]; exact h⟩
    · exact ⟨5, by omega, by rw [hj 5 (by omega)]; exact h⟩
    · exact ⟨6, by omega, by rw [hj 6 (by omega)]; exact h⟩
    · exact ⟨7, by omega, by rw [hj 7 (by omega)]; exact h⟩
    · exact ⟨8, by omega, by rw [hj 8 (by omega)]; exact h⟩
    · exact ⟨9, by omega, by rw [hj 9 (by omega)]; exact h⟩
/-- What is a right token. -/
def IsToken (a b : Int) (s : ByteArray) : Prop := (a = 1 ∨ a = 3) ∧ b = 0 ∧ IsName s ∨ a = 2 ∧ (-2147483648 ≤ b ∧ b ≤ 2147483647) ∧ s.toList = [] ∨ a = 4 ∧ b = 0 ∧ IsPunct s.toList
theorem spec_token (a b : Int) (s : ByteArray) (hn : s.size ≤ 1048576) : ∃ r, Ev (fun k => spec_TokenOK.f k a b s) r ∧ (r = true ↔ IsToken a b s) := by
  by_cases h13 : a = 1 ∨ a = 3
  · have hj : ∀ k, spec_TokenOK.f (k + 1) a b s = if b = 0 then ((spec_NameOK.f k s).bind fun t => some t) else some false := by
      intro k
      rcases h13 with h | h
      · subst h; unfold spec_TokenOK.f; rw [if_pos rfl]; simp only [spec_TokenOK.j0]; rfl
      · subst h; unfold spec_TokenOK.f; rw [if_neg (by omega)]; simp only [spec_TokenOK.j0]; rfl
    by_cases hb : b = 0
    · obtain ⟨r, e1, _, hr⟩ := names_ev s hn
      obtain ⟨K, g⟩ := ev_at e1
      refine ⟨r, ev_now ⟨K, fun k hk => by rw [hj, if_pos hb, g k hk]; rfl⟩, hr.trans ⟨fun h => .inl ⟨h13, hb, h⟩, ?_⟩⟩
      rintro (h | h | h)
      · exact h.2.2
      · omega
      · omega
    · refine ⟨false, ev_now ⟨0, fun k _ => by rw [hj, if_neg hb]⟩, ⟨fun h => (by cases h), ?_⟩⟩
      rintro (h | h | h)
      · exact absurd h.2.1 hb
      · omega
      · omega
  · have hj : ∀ k, spec_TokenOK.f (k + 1) a b s = if a = 2 then ((spec_IsInt.f b).bind fun t => if t = true then some (s.toList == []) else some false) else if a = 4 then (if b = 0 then ((spec_l01Punct.f s).bind fun t => some t) else some false) else some false := by
      intro k
      have e3 : (a == 3) = false := by simpa using fun h => h13 (.inr h)
      unfold spec_TokenOK.f; rw [if_neg (fun h => h13 (.inl h)), e3]; simp only [spec_TokenOK.j0]; rfl
    by_cases h2 : a = 2
    · refine ⟨decide (-2147483648 ≤ b ∧ b ≤ 2147483647) && (s.toList == []), ev_now ⟨0, fun k _ => by rw [hj, if_pos h2]; unfold spec_IsInt.f; rw [spec_in]; simp only [Option.bind_some]; cases decide (-2147483648 ≤ b ∧ b ≤ 2147483647) <;> simp⟩, ?_⟩
      rw [Bool.and_eq_true, decide_eq_true_eq, beq_iff_eq]
      exact ⟨fun h => .inr (.inl ⟨h2, h.1, h.2⟩), fun h => by rcases h with h | h | h <;> first | exact absurd h.1 h13 | exact h.2 | omega⟩
    · by_cases h4 : a = 4
      · by_cases hb : b = 0
        · obtain ⟨r, e, hr⟩ := spec_punct s
          refine ⟨r, ev_now ⟨0, fun k _ => by rw [hj, if_neg h2, if_pos h4, if_pos hb, e]; rfl⟩, hr.trans ⟨fun h => .inr (.inr ⟨h4, hb, h⟩), fun h => by rcases h with h | h | h <;> first | exact absurd h.1 h13 | exact h.2.2 | exact absurd h.1 h2⟩⟩
        · refine ⟨false, ev_now ⟨0, fun k _ => by rw [hj, if_neg h2, if_pos h4, if_neg hb]⟩, ⟨fun h => (by cases h), fun h => by rcases h with h | h | h <;> first | exact absurd h.1 h13 | exact absurd h.2.1 hb | exact absurd h.1 h2⟩⟩
      · refine ⟨false, ev_now ⟨0, fun k _ => by rw [hj, if_neg h2, if_neg h4]⟩, ⟨fun h => (by cases h), fun h => by rcases h with h | h | h <;> first | exact absurd h.1 h13 | exact absurd h.1 h4 | exact absurd h.1 h2⟩⟩
theorem impl_token (a b : Int) (s : ByteArray) (hn : s.size ≤ 1048576) : ∃ r, Ev (fun k => impl_TokenOK.f k a b s) r ∧ (r = true ↔ IsToken a b s) := by
  obtain ⟨x, q, hx, hq, hqr⟩ := impl_punct s
  obtain ⟨Kq, gq⟩ := ev_at hq
  by_cases h13 : a = 1 ∨ a = 3
  · have hj : ∀ k, impl_TokenOK.f (k + 1) a b s = if b = 0 then ((impl_NameOK.f k s).bind fun t => some t) else some false := by
      intro k
      rcases h13 with h | h
      · subst h; unfold impl_TokenOK.f; rw [if_pos rfl]; simp only [impl_TokenOK.j0]; rfl
      · subst h; unfold impl_TokenOK.f; rw [if_neg (by omega)]; simp only [impl_TokenOK.j0]; rfl
    by_cases hb : b = 0
    · obtain ⟨r, _, e1, hr⟩ := names_ev s hn
      obtain ⟨K, g⟩ := ev_at e1
      refine ⟨r, ev_now ⟨K, fun k hk => by rw [hj, if_pos hb, g k hk]; rfl⟩, hr.trans ⟨fun h => .inl ⟨h13, hb, h⟩, ?_⟩⟩
      rintro (h | h | h)
      · exact h.2.2
      · omega
      · omega
    · refine ⟨false, ev_now ⟨0, fun k _ => by rw [hj, if_neg hb]⟩, ⟨fun h => (by cases h), ?_⟩⟩
      rintro (h | h | h)
      · exact absurd h.2.1 hb
      · omega
      · omega
  · have hj : ∀ k, impl_TokenOK.f (k + 1) a b s = if a = 2 then ((impl_IsInt.f b).bind fun t => if t = true then some (s.toList == []) else some false) else if a = 4 then (if b = 0 then ((impl_puncts.f).bind fun z => ((slices_Contains_string_string.f k z s).bind fun t => some t)) else some false) else some false := by
      intro k
      have e3 : (a == 3) = false := by simpa using fun h => h13 (.inr h)
      unfold impl_TokenOK.f; rw [if_neg (fun h => h13 (.inl h)), e3]; simp only [impl_TokenOK.j0]; rfl
    by_cases h2 : a = 2
    · refine ⟨decide (-2147483648 ≤ b ∧ b ≤ 2147483647) && (s.toList == []), ev_now ⟨0, fun k _ => by rw [hj, if_pos h2]; unfold impl_IsInt.f; rw [impl_in]; simp only [Option.bind_some]; cases decide (-2147483648 ≤ b ∧ b ≤ 2147483647) <;> simp⟩, ?_⟩
      rw [Bool.and_eq_true, decide_eq_true_eq, beq_iff_eq]
      exact ⟨fun h => .inr (.inl ⟨h2, h.1, h.2⟩), fun h => by rcases h with h | h | h <;> first | exact absurd h.1 h13 | exact h.2 | omega⟩
    · by_cases h4 : a = 4
      · by_cases hb : b = 0
        · refine ⟨q, ev_now ⟨Kq, fun k hk => by rw [hj, if_neg h2, if_pos h4, if_pos hb, hx]; simp only [Option.bind_some]; rw [gq k hk]; rfl⟩, hqr.trans ⟨fun h => .inr (.inr ⟨h4, hb, h⟩), fun h => by rcases h with h | h | h <;> first | exact absurd h.1 h13 | exact h.2.2 | exact absurd h.1 h2⟩⟩
        · refine ⟨false, ev_now ⟨0, fun k _ => by rw [hj, if_neg h2, if_pos h4, if_neg hb]⟩, ⟨fun h => (by cases h), fun h => by rcases h with h | h | h <;> first | exact absurd h.1 h13 | exact absurd h.2.1 hb | exact absurd h.1 h2⟩⟩
      · refine ⟨false, ev_now ⟨0, fun k _ => by rw [hj, if_neg h2, if_neg h4]⟩, ⟨fun h => (by cases h), fun h => by rcases h with h | h | h <;> first | exact absurd h.1 h13 | exact absurd h.1 h4 | exact absurd h.1 h2⟩⟩
theorem token_agree (a b : Int) (s : ByteArray) (hn : s.size ≤ 1048576) : ∃ r, Ev (fun k => spec_TokenOK.f k a b s) r ∧ Ev (fun k => impl_TokenOK.f k a b s) r ∧ (r = true ↔ IsToken a b s) := by
  obtain ⟨r, e, hr⟩ := spec_token a b s hn
  obtain ⟨r', e', hr'⟩ := impl_token a b s hn
  have : r' = r := by rw [Bool.eq_iff_iff, hr, hr']
  subst this
  exact ⟨r', e, e', hr⟩
end Go.Proofs.YtonofmbpjjckjaaGreatDoor.Pure2
namespace Go.Proofs.YtonofmbpjjckjaaGreatDoor.Pure2
open Go.RowKit Go.Proofs.YtonofmbpjjckjaaGreatDoor.Q Go.Proofs.YtonofmbpjjckjaaGreatDoorW.PrintWords Go.Proofs.YtonofmbpjjckjaaGreatDoorW.PrintLast
set_option linter.unusedVariables false
set_option linter.unusedSimpArgs false
/-! one token -/
def hitP (l : List UInt8) : List ByteArray → Int × Int × ByteArray × Int × Bool
  | [] => (0, 0, ⟨#[]⟩, 0, false)
  | p :: ps => if Lib.hasPrefix l (Lb p) = true then (4, 0, p, (p.size : Int), true) else hitP l ps
theorem impl_hit (t : ByteArray) (P : List ByteArray) (hP : P.length ≤ 1048576) : ∀ (d j : Nat), j + d = P.length → Ev (fun k => impl_tokenAt.l0 k t P (P.length : Int) (j : Int)) (hitP (Lb t) (P.drop j)) := by
  intro d
  induction d with
  | zero =>
    intro j h
    rw [List.drop_of_length_le (by omega)]
    exact ev_now ⟨0, fun k _ => by simp only [impl_tokenAt.l0]; rw [if_neg (by omega)]; rfl⟩
  | succ d ih =>
    intro j h
    have hw := wnext (n := j) (by omega)
    have hj : j < P.length := by omega
    have hd : rdOf ByteArray.empty P (j : Int) = P[j] := by
      unfold rdOf
      rw [Int.toNat_natCast, List.getD_eq_getElem?_getD, List.getElem?_eq_getElem hj]
      rfl
    rw [List.drop_eq_getElem_cons hj]
    simp only [hitP]
    have hp : strings_HasPrefix.f t P[j] = some (Lib.hasPrefix (Lb t) (Lb P[j])) := rfl
    by_cases hh : Lib.hasPrefix (Lb t) (Lb P[j]) = true
    · rw [if_pos hh]
      exact ev_now ⟨0, fun k _ => by simp only [impl_tokenAt.l0]; rw [if_pos (by omega), if_pos (by omega), if_pos (by omega), hd, hp]; simp only [Option.bind_some]; rw [if_pos hh]⟩
    · rw [if_neg hh]
      exact ev_step ⟨0, fun k _ => by simp only [impl_tokenAt.l0]; rw [if_pos (by omega), if_pos (by omega), if_pos (by omega), hd, hp]; simp only [Option.bind_some]; rw [if_neg hh, hw]⟩ (ih (j + 1) (by omega))
/-- What the marks' row gives at a row of bytes that is not empty. -/
theorem hit_puncts (b : UInt8) (r : List UInt8) : ∃ P, impl_puncts.f = some P ∧ P.length = 10 ∧
    ((IsPunct [b] ∧ ∃ c : ByteArray, Lb c = [b] ∧ hitP (b :: r) P = (4, 0, c, 1, true)) ∨ (¬ IsPunct [b] ∧ (b :: r).take 3 = [46, 46, 46] ∧ hitP (b :: r) P = (4, 0, ⟨#[46, 46, 46]⟩, 3, true)) ∨ (¬ IsPunct [b] ∧ (b :: r).take 3 ≠ [46, 46, 46] ∧ hitP (b :: r) P = (0, 0, ⟨#[]⟩, 0, false))) := by
  refine ⟨_, rfl, rfl, ?_⟩
  have one : ∀ c : UInt8, Lib.hasPrefix (b :: r) (Lb ⟨#[c]⟩) = (c == b) := fun c => by
    show ([c] : List UInt8).isPrefixOf (b :: r) = _
    simp [List.isPrefixOf]
  have three : (Lib.hasPrefix (b :: r) (Lb ⟨#[46, 46, 46]⟩) = true) ↔ (b :: r).take 3 = [46, 46, 46] := by
    show (([46, 46, 46] : List UInt8).isPrefixOf (b :: r) = true) ↔ _
    rw [List.isPrefixOf_iff_prefix, List.prefix_iff_eq_take]
    exact eq_comm
  have sz : ∀ c : UInt8, ((⟨#[c]⟩ : ByteArray).size : Int) = 1 := fun _ => rfl
  simp only [hitP, one, beq_iff_eq, sz]
  have hit : ∀ c : UInt8, c = b → IsPunct [c] → IsPunct [b] ∧ ∃ x : ByteArray, Lb x = [b] ∧ ((4 : Int), (0 : Int), (⟨#[c]⟩ : ByteArray), (1 : Int), true) = (4, 0, x, 1, true) := fun c h hp => by
    subst h; exact ⟨hp, _, rfl, rfl⟩
  by_cases h1 : (123 : UInt8) = b
  · rw [if_pos h1]; exact .inl (hit _ h1 (by simp [IsPunct]))
  rw [if_neg h1]
  by_cases h2 : (125 : UInt8) = b
  · rw [if_pos h2]; exact .inl (hit _ h2 (by simp [IsPunct]))
  rw [if_neg h2]
  by_cases h3 : (40 : UInt8) = b
  · rw [if_pos h3]; exact .inl (hit _ h3 (by simp [IsPunct]))
  rw [if_neg h3]
  by_cases h4 : (41 : UInt8) = b
  · rw [if_pos h4]; exact .inl (hit _ h4 (by simp [IsPunct]))
  rw [if_neg h4]
  by_cases h5 : (91 : UInt8) = b
  · rw [if_pos h5]; exact .inl (hit _ h5 (by simp [IsPunct]))
  rw [if_neg h5]
  by_cases h6 : (93 : UInt8) = b
  · rw [if_pos h6]; exact .inl (hit _ h6 (by simp [IsPunct]))
  rw [if_neg h6]
  by_cases h7 : (58 : UInt8) = b
  · rw [if_pos h7]; exact .inl (hit _ h7 (by simp [IsPunct]))
  rw [if_neg h7]
  by_cases h8 : (33 : UInt8) = b
  · rw [if_pos h8]; exact .inl (hit _ h8 (by simp [IsPunct]))
  rw [if_neg h8]
  by_cases h9 : (64 : UInt8) = b
  · rw [if_pos h9]; exact .inl (hit _ h9 (by simp [IsPunct]))
  rw [if_neg h9]
  have hno : ¬ IsPunct [b] := by
    unfold IsPunct
    simp only [List.cons.injEq, and_true, reduceCtorEq, and_false, or_false]
    intro h
    rcases h with h | h | h | h | h | h | h | h | h <;> subst h <;> contradiction
  by_cases h10 : (b :: r).take 3 = [46, 46, 46]
  · rw [if_pos (three.2 h10)]; exact .inr (.inl ⟨hno, h10, rfl⟩)
  · rw [if_neg (fun h => h10 (three.1 h))]; exact .inr (.inr ⟨hno, h10, rfl⟩)
theorem extract_same (s t : ByteArray) (n a b : Nat) (ht : Lb t = (Lb s).drop n) : t.extract a b = s.extract (n + a) (n + b) := by
  apply lb_ext
  rw [lb_cut, lb_cut, ht, List.drop_drop, show n + b - (n + a) = b - a by omega]
theorem size_cut (s : ByteArray) (a b : Nat) (h : s.size ≤ 1048576) : (s.extract a b).size ≤ 1048576 := by
  rw [← lb_len, lb_cut, List.length_take, List.length_drop, lb_len]
  omega
end Go.Proofs.YtonofmbpjjckjaaGreatDoor.Pure2
namespace Go.Proofs.YtonofmbpjjckjaaGreatDoor.Pure2
open Go.RowKit Go.Proofs.YtonofmbpjjckjaaGreatDoor.Q Go.Proofs.YtonofmbpjjckjaaGreatDoorW.PrintWords Go.Proofs.YtonofmbpjjckjaaGreatDoorW.PrintLast
set_option linter.unusedVariables false
set_option linter.unusedSimpArgs false
/-! what is passed over -/
def spc (b : Int) : Bool := decide (b = 32 ∨ b = 9 ∨ b = 10 ∨ b = 13 ∨ b = 44)
def sk : Bool → List UInt8 → Nat
  | _, [] => 0
  | true, b :: r => if b.toNat = 10 then sk false r + 1 else sk true r + 1
  | false, b :: r => if spc b.toNat = true then sk false r + 1 else if b.toNat = 35 then sk true r + 1 else 0
theorem sk_le : ∀ (l : List UInt8) (f : Bool), sk f l ≤ l.length
  | [], f => by cases f <;> exact Nat.le_refl _
  | b :: r, f => by
    have h1 := sk_le r true
    have h2 := sk_le r false
    cases f
    · simp only [sk, List.length_cons]
      split
      · omega
      · split <;> omega
    · simp only [sk, List.length_cons]
      split <;> omega
theorem sk_stop : ∀ (l : List UInt8) (f : Bool) (b : UInt8) (r : List UInt8), l.drop (sk f l) = b :: r → spc b.toNat = false ∧ b.toNat ≠ 35
  | [], f, b, r, h => by cases f <;> simp [sk] at h
  | c :: l, f, b, r, h => by
    cases f
    · simp only [sk] at h
      by_cases h1 : spc c.toNat = true
      · rw [if_pos h1] at h
        exact sk_stop l false b r h
      · rw [if_neg h1] at h
        by_cases h2 : c.toNat = 35
        · rw [if_pos h2] at h
          exact sk_stop l true b r h
        · rw [if_neg h2] at h
          rw [List.drop_zero] at h
          injection h with h3 h4
          subst h3
          exact ⟨by simpa using h1, h2⟩
    · simp only [sk] at h
      by_cases h1 : c.toNat = 10
      · rw [if_pos h1] at h
        exact sk_stop l false b r h
      · rw [if_neg h1] at h
        exact sk_stop l true b r h
theorem not35 {b : Int} (h : spc b = true) : ¬ b = 35 := by
  rintro rfl
  exact absurd h (by decide)
theorem is10 : spc 10 = true := by decide
/-- How many bytes stand ahead of a line's end. -/
def cl : List UInt8 → Nat
  | [] => 0
  | b :: r => if b = 10 then 0 else cl r + 1
theorem cl_index : ∀ l : List UInt8, (Lib.indexByte l 10 = -1 ∧ cl l = l.length) ∨ (Lib.indexByte l 10 = (cl l : Int) ∧ cl l < l.length)
  | [] => .inl ⟨rfl, rfl⟩
  | b :: r => by
    by_cases h : b = 10
    · subst h
      exact .inr ⟨rfl, by simp [cl]⟩
    · have hb : (b == 10) = false := beq_eq_false_iff_ne.2 h
      simp only [Lib.indexByte, cl, hb, if_neg h, Bool.false_eq_true, if_false, List.length_cons]
      rcases cl_index r with ⟨h1, h2⟩ | ⟨h1, h2⟩
      · left
        rw [h1]
        exact ⟨rfl, by omega⟩
      · right
        rw [h1, if_neg (by rw [beq_iff_eq]; omega)]
        exact ⟨by omega, by omega⟩
theorem cl_cut (l : List UInt8) : (Lib.cut l [10]).1.length = cl l := by
  unfold Lib.cut
  rw [Lib.index_one]
  rcases cl_index l with ⟨h1, h2⟩ | ⟨h1, h2⟩
  · rw [h1, if_neg (by omega), h2]
  · rw [h1, if_pos (by omega), List.length_take, Int.toNat_natCast]
    omega
theorem cl_sk : ∀ l : List UInt8, sk true l = cl l + sk false (l.drop (cl l))
  | [] => rfl
  | b :: r => by
    have ih := cl_sk r
    by_cases h : b = 10
    · subst h
      simp only [sk, cl, if_true, List.drop_zero]
      rw [if_pos (by decide), if_pos (by decide)]
      omega
    · have hb : ¬ b.toNat = 10 := fun h' => h (UInt8.toNat_inj.1 h')
      simp only [sk, cl]
      rw [if_neg hb, if_neg h, List.drop_succ_cons]
      omega
theorem impl_passed_step (t : ByteArray) (n k : Nat) (h : n < t.size) : impl_passed.l0 (k + 1) t (n : Int) = impl_passed.j1 k t (n : Int) (bt t (n : Int)) (spc (bt t (n : Int))) := by
  simp only [impl_passed.l0]
  rw [if_pos (by omega), if_pos (by omega)]
  generalize bt t (n : Int) = v
  have e : spc v = decide (v = 32 ∨ v = 9 ∨ v = 10 ∨ v = 13 ∨ v = 44) := rfl
  by_cases h1 : v = 32
  · rw [if_pos h1, show spc v = (v == 32) by rw [e, h1]; rfl]
  rw [if_neg h1]
  by_cases h2 : v = 9
  · rw [if_pos h2, show spc v = (v == 9) by rw [e, h2]; rfl]
  rw [if_neg h2]
  by_cases h3 : v = 10
  · rw [if_pos h3, show spc v = (v == 10) by rw [e, h3]; rfl]
  rw [if_neg h3]
  by_cases h4 : v = 13
  · rw [if_pos h4, show spc v = (v == 13) by rw [e, h4]; rfl]
  rw [if_neg h4]
  congr 1
  rw [e, Bool.eq_iff_iff, beq_iff_eq, decide_eq_true_eq]
  simp [h1, h2, h3, h4]
set_option maxHeartbeats 1000000 in
theorem impl_skip (t : ByteArray) (ht : t.size ≤ 1048576) : ∀ (d n : Nat), t.size - n ≤ d → n ≤ t.size → Ev (fun k => impl_passed.l0 k t (n : Int)) ((n + sk false ((Lb t).drop n) : Nat) : Int) := by
  intro d
  induction d with
  | zero =>
    intro n h hn
    rw [lb_none t n (by omega)]
    exact ev_now ⟨0, fun k _ => by simp only [impl_passed.l0]; rw [if_neg (by omega)]; rfl⟩
  | succ d ih =>
    intro n h hn
    by_cases hlt : n < t.size
    · obtain ⟨b, hb, he⟩ := lb_at t n hlt
      have hw : Unit → wrap64 ((n : Int) + 1) = ((n + 1 : Nat) : Int) := fun _ => wnext (n := n) (by omega)
      rw [hb]
      simp only [sk]
      refine ev_step (f := fun k => impl_passed.j1 k t (n : Int) (b.toNat : Int) (spc b.toNat)) ⟨0, fun k _ => by rw [impl_passed_step t n k hlt, he]⟩ ?_
      by_cases h1 : spc b.toNat = true
      · rw [if_pos h1, show n + (sk false ((Lb t).drop (n + 1)) + 1) = (n + 1) + sk false ((Lb t).drop (n + 1)) by omega]
        exact ev_step ⟨0, fun k _ => by simp only [impl_passed.j1]; rw [if_pos h1, hw ()]⟩ (ih (n + 1) (by omega) (by omega))
      · rw [if_neg h1]
        by_cases h2 : b.toNat = 35
        · rw [if_pos h2]
          have hc : cl ((Lb t).drop n) = cl ((Lb t).drop (n + 1)) + 1 := by
            rw [hb]
            simp only [cl]
            rw [if_neg (by rintro rfl; exact absurd h2 (by decide))]
          have hlen : cl ((Lb t).drop n) ≤ t.size - n := by
            rw [← cl_cut]
            have h3 : (Lib.cut ((Lb t).drop n) [10]).1.length ≤ ((Lb t).drop n).length := by
              unfold Lib.cut
              split
              · rw [List.length_take]; omega
              · exact Nat.le_refl _
            rw [List.length_drop, lb_len] at h3
            exact h3
          have hsk : sk true ((Lb t).drop (n + 1)) = cl ((Lb t).drop (n + 1)) + sk false ((Lb t).drop (n + cl ((Lb t).drop n))) := by
            rw [cl_sk, List.drop_drop, hc]
            congr 3
            omega
          rw [hsk, show n + (cl ((Lb t).drop (n + 1)) + sk false ((Lb t).drop (n + cl ((Lb t).drop n))) + 1) = (n + cl ((Lb t).drop n)) + sk false ((Lb t).drop (n + cl ((Lb t).drop n))) by omega]
          have e2 := ih (n + cl ((Lb t).drop n)) (by omega) (by omega)
          have hcut : strings_Cut.f (t.extract n t.size) (⟨#[10]⟩ : ByteArray) = some (⟨(Lib.cut ((Lb t).drop n) [10]).1.toArray⟩, ⟨(Lib.cut ((Lb t).drop n) [10]).2.1.toArray⟩, (Lib.cut ((Lb t).drop n) [10]).2.2) := by
            unfold strings_Cut.f
            rw [if_pos ⟨rfl, by have := size_cut t n t.size ht; omega⟩]
            have e3 : (t.extract n t.size).data.toList = (Lb t).drop n := lb_from t n
            rw [e3]
          have hz : (((⟨(Lib.cut ((Lb t).drop n) [10]).1.toArray⟩ : ByteArray).size : Nat) : Int) = ((cl ((Lb t).drop n) : Nat) : Int) := by
            show (((Lib.cut ((Lb t).drop n) [10]).1.toArray.size : Nat) : Int) = _
            rw [List.size_toArray, cl_cut]
          have hwc : Unit → wrap64 ((n : Int) + ((cl ((Lb t).drop n) : Nat) : Int)) = ((n + cl ((Lb t).drop n) : Nat) : Int) := fun _ => by
            generalize cl ((Lb t).drop n) = z at hlen
            exact wrap_id (x := (n : Int) + (z : Int)) (by omega) (by omega)
          refine ev_step ⟨0, fun k _ => ?_⟩ e2
          simp only [impl_passed.j1]
          rw [if_neg h1, if_pos (by omega), if_pos (by omega), if_pos (by omega), Int.toNat_natCast, hcut, Option.bind_some]
          show impl_passed.l0 k t (wrap64 ((n : Int) + (((⟨(Lib.cut ((Lb t).drop n) [10]).1.toArray⟩ : ByteArray).size : Nat) : Int))) = _
          rw [hz, hwc ()]
        · rw [if_neg h2]
          exact ev_now ⟨0, fun k _ => by simp only [impl_passed.j1]; rw [if_neg h1, if_neg (by omega)]; rfl⟩
    · rw [lb_none t n (by omega)]
      exact ev_now ⟨0, fun k _ => by simp only [impl_passed.l0]; rw [if_neg (by omega)]; rfl⟩
theorem impl_pass (t : ByteArray) (ht : t.size ≤ 1048576) : Ev (fun k => impl_passed.f k t) ((sk false (Lb t) : Nat) : Int) := by
  have h := impl_skip t ht t.size 0 (by omega) (by omega)
  rw [List.drop_zero, Nat.zero_add] at h
  exact h
/-- What the program does with a text from where it stands. -/
def goI (k : Nat) (t : ByteArray) (out : List S29) : Option (List S29 × Int) := (impl_passed.f k t).bind fun p => if 0 ≤ p then (if p ≤ (t.size : Int) then impl_lex.l0 k (t.extract (p : Int).toNat t.size) out else none) else none
end Go.Proofs.YtonofmbpjjckjaaGreatDoor.Pure2
namespace Go.Proofs.YtonofmbpjjckjaaGreatDoor.Pure2
open Go.RowKit Go.Proofs.YtonofmbpjjckjaaGreatDoor.Q Go.Proofs.YtonofmbpjjckjaaGreatDoorW.PrintWords Go.Proofs.YtonofmbpjjckjaaGreatDoorW.PrintLast
set_option linter.unusedVariables false
set_option linter.unusedSimpArgs false
/-! a number's digits -/
theorem dec_digits8 : ∀ u : Nat, u ≤ 2147483648 → Ev (fun k => spec_l00Digits.f k (u : Int)) ⟨(Lib.decDigits u).toArray⟩ ∧ (Lib.decDigits u).length ≤ u + 1 := by
  intro u
  induction u using Nat.strongRecOn with
  | _ u ih =>
    intro hu
    rw [Lib.decDigits]
    by_cases h : u < 10
    · rw [dif_pos h]
      refine ⟨ev_now ⟨0, fun k _ => ?_⟩, by simp⟩
      simp only [spec_l00Digits.f]
      rw [if_neg (by omega), if_neg (by omega), if_pos (by omega)]
      have e : wrap64 (48 + (u : Int)) % 256 = ((48 + u : Nat) : Int) := by unfold wrap64; omega
      rw [e]
      rfl
    · rw [dif_neg h]
      obtain ⟨e1, hl⟩ := ih (u / 10) (by omega) (by omega)
      obtain ⟨K, h1⟩ := ev_at e1
      refine ⟨ev_mk (K + 1) fun k hk => ?_, by rw [List.length_append]; simp only [List.length_cons, List.length_nil]; omega⟩
      obtain ⟨m, rfl⟩ : ∃ m, k = m + 1 := ⟨k - 1, by omega⟩
      have e2 : wrap64 (Int.tdiv (u : Int) 10) = ((u / 10 : Nat) : Int) := by rw [Int.tdiv_eq_ediv_of_nonneg (by omega)]; unfold wrap64; omega
      have e3 : wrap64 (48 + Int.tmod (u : Int) 10) % 256 = ((48 + u % 10 : Nat) : Int) := by rw [Int.tmod_eq_emod_of_nonneg (by omega)]; unfold wrap64; omega
      simp only [spec_l00Digits.f]
      rw [if_neg (by omega), if_neg (by omega), if_neg (by omega), e2, h1 m (by omega), e3]
      simp only [Option.bind_some]
      have e4 : strOfNums [((48 + u % 10 : Nat) : Int)] = ⟨[UInt8.ofNat (48 + u % 10)].toArray⟩ := rfl
      rw [e4, if_pos (by show (Lib.decDigits (u / 10)).toArray.size + [UInt8.ofNat (48 + u % 10)].toArray.size ≤ _; simp; omega)]
      first | (congr 1; done) | (congr 1; apply ByteArray.ext; simp)
theorem digits_agree8 (n : Int) (h0 : -2147483648 ≤ n) (h1 : n ≤ 2147483647) : Ev (fun k => spec_l00Digits.f k n) ⟨(Lib.itoa n).toArray⟩ ∧ strconv_Itoa.f n = some ⟨(Lib.itoa n).toArray⟩ ∧ (Lib.itoa n).length ≤ 2147483650 := by
  have e0 : strconv_Itoa.f n = some ⟨(Lib.itoa n).toArray⟩ := by unfold strconv_Itoa.f; rw [if_pos (by omega)]
  unfold Lib.itoa
  by_cases h : n < 0
  · rw [if_pos h]
    obtain ⟨e1, hl⟩ := dec_digits8 n.natAbs (by omega)
    obtain ⟨K, k1⟩ := ev_at e1
    refine ⟨ev_mk (K + 1) fun k hk => ?_, by rw [e0]; unfold Lib.itoa; rw [if_pos h], by simp only [List.length_cons]; omega⟩
    obtain ⟨m, rfl⟩ : ∃ m, k = m + 1 := ⟨k - 1, by omega⟩
    have e2 : wrap64 (-n) = (n.natAbs : Int) := by unfold wrap64; omega
    simp only [spec_l00Digits.f]
    rw [if_neg (by omega), if_pos h, e2, k1 m (by omega)]
    simp only [Option.bind_some]
    rw [if_pos (by show 1 + (Lib.decDigits n.natAbs).toArray.size ≤ _; simp; omega)]
    first | (congr 1; done) | (congr 1; apply ByteArray.ext; simp)
  · rw [if_neg h]
    obtain ⟨e1, hl⟩ := dec_digits8 n.toNat (by omega)
    refine ⟨?_, by rw [e0]; unfold Lib.itoa; rw [if_neg h], by omega⟩
    rw [show (n.toNat : Int) = n by omega] at e1
    exact e1
/-- A right token's text. -/
theorem text_agree (a b : Int) (s : ByteArray) (hs : s.size ≤ 1048576) (h : IsToken a b s) : ∃ t, Ev (fun k => spec_l01Text.f k a b s) t ∧ impl_Token_text.f a b s = some t ∧ t.size ≤ 2147483650 := by
  by_cases h2 : a = 2
  · have hb : -2147483648 ≤ b ∧ b ≤ 2147483647 := by
      rcases h with ⟨h, _⟩ | ⟨_, h, _⟩ | ⟨h, _⟩
      · omega
      · exact h
      · omega
    obtain ⟨e1, e2, hl⟩ := digits_agree8 b hb.1 hb.2
    obtain ⟨K, k1⟩ := ev_at e1
    refine ⟨⟨(Lib.itoa b).toArray⟩, ev_mk K fun k hk => ?_, ?_, ?_⟩
    · unfold spec_l01Text.f
      rw [if_pos h2, k1 k hk]
      rfl
    · unfold impl_Token_text.f
      rw [if_pos h2, e2]
      rfl
    · show (Lib.itoa b).toArray.size ≤ _
      simpa using hl
  · by_cases h3 : a = 3
    · refine ⟨(⟨#[36]⟩ : ByteArray) ++ s, ev_mk 0 fun k hk => by unfold spec_l01Text.f; rw [if_neg h2, if_pos h3, if_pos (by omega)], by unfold impl_Token_text.f; rw [if_neg h2, if_pos h3, if_pos (by omega)], ?_⟩
      rw [ByteArray.size_append]
      show 1 + s.size ≤ _
      omega
    · exact ⟨s, ev_mk 0 fun k hk => by unfold spec_l01Text.f; rw [if_neg h2, if_neg h3], by unfold impl_Token_text.f; rw [if_neg h2, if_neg h3], by omega⟩
end Go.Proofs.YtonofmbpjjckjaaGreatDoor.Pure2
namespace Go.Proofs.YtonofmbpjjckjaaGreatDoor.Pure2
open Go.RowKit Go.Proofs.YtonofmbpjjckjaaGreatDoor.Q Go.Proofs.YtonofmbpjjckjaaGreatDoorW.PrintWords Go.Proofs.YtonofmbpjjckjaaGreatDoorW.PrintLast
set_option linter.unusedVariables false
set_option linter.unusedSimpArgs false
/-! loops over lists -/
theorem getD_mem {α : Type} (l : List α) (z : α) (j : Nat) (h : j < l.length) : l.getD j z ∈ l := by rw [List.getD_eq_getElem?_getD, List.getElem?_eq_getElem h]; exact List.getElem_mem h
theorem wsub (a : Int) (n : Nat) (h0 : 0 ≤ a) (h1 : a ≤ 1048576) (hn : n ≤ 9223372036854775807) : wrap64 (a - (n : Int)) = a - (n : Int) := by unfold wrap64; omega
theorem sz_loop {α : Type} (l : List α) (z : α) (P : α → Prop) (a : Int) (h0 : 0 ≤ a) (L : Nat → Int → Int → Option Int) (hend : ∀ k s, L (k + 1) s (l.length : Int) = some s)
    (hx : ∀ j, j < l.length → ∀ s, 0 ≤ s → s ≤ a → ∃ t, (t < 0 ∨ 0 ≤ t ∧ t ≤ s ∧ P (l.getD j z)) ∧ ∃ K, ∀ k, K ≤ k → L (k + 1) s (j : Int) = if t < 0 then some (-1) else L k t ((j + 1 : Nat) : Int)) :
    ∃ r, Ev (fun k => L k a 0) r ∧ (r < 0 ∨ 0 ≤ r ∧ r ≤ a ∧ ∀ x ∈ l, P x) := by
  obtain ⟨r, hr, he⟩ := state_loop l.length L (fun j s => 0 ≤ s ∧ s ≤ a ∧ ∀ i, i < j → P (l.getD i z)) (fun _ _ r => r < 0 ∨ 0 ≤ r ∧ r ≤ a ∧ ∀ i, i < l.length → P (l.getD i z))
    (fun s hi => ⟨s, .inr hi, ev_now ⟨0, fun k _ => hend k s⟩⟩)
    (fun j s hj hi => by
      obtain ⟨t, ht, K, hk⟩ := hx j hj s hi.1 hi.2.1
      rcases ht with ht | ⟨t0, t1, t2⟩
      · exact .inl ⟨-1, .inl (by omega), ev_now ⟨K, fun k h => by rw [hk k h, if_pos ht]⟩⟩
      · refine .inr ⟨t, ⟨t0, by omega, fun i hij => ?_⟩, fun r h => h, K, fun k h => by rw [hk k h, if_neg (by omega)]⟩
        rcases Nat.lt_or_eq_of_le (Nat.le_of_lt_succ hij) with h' | rfl
        · exact hi.2.2 i h'
        · exact t2) 0 a (by omega) ⟨h0, by omega, fun i hi => by omega⟩
  refine ⟨r, he, ?_⟩
  rcases hr with hr | ⟨h2, h3, h4⟩
  · exact .inl hr
  · refine .inr ⟨h2, h3, fun x hx' => ?_⟩
    obtain ⟨i, hi, rfl⟩ := List.getElem_of_mem hx'
    have := h4 i hi
    rw [List.getD_eq_getElem?_getD, List.getElem?_eq_getElem hi] at this
    exact this
theorem eq_loop {α : Type} (n : Nat) (L : Nat → Int → Option Bool) (hend : ∀ k, L (k + 1) (n : Int) = some true) (hs : ∀ j, j < n → ∃ K, ∀ k, K ≤ k → L (k + 1) (j : Int) = L k ((j + 1 : Nat) : Int)) : Ev (fun k => L k 0) true := by
  obtain ⟨r, hr, he⟩ := count_loop n L (fun _ r => r = true) ⟨true, rfl, ev_now ⟨0, fun k _ => hend k⟩⟩ (fun j hj r hr he => ⟨r, hr, ev_step (hs j hj) he⟩) 0 (by omega)
  subst hr
  exact he
/-! texts joined -/
theorem join_snoc (l : List (List UInt8)) (x sep : List UInt8) (h : l ≠ []) : Lib.join (l ++ [x]) sep = Lib.join l sep ++ sep ++ x := by
  cases l with
  | nil => exact absurd rfl h
  | cons y r => rw [List.cons_append, Lib.join_cons, Lib.join_cons]; simp [Lib.joinTail, List.append_assoc]
theorem lens_le (l : List (List UInt8)) (B : Nat) (h : ∀ x ∈ l, x.length ≤ B) : Lib.lens l ≤ l.length * B := by
  induction l with
  | nil => simp [Lib.lens]
  | cons y r ih =>
    have h1 := h y (by simp)
    have h2 := ih fun x hx => h x (List.mem_cons_of_mem _ hx)
    simp only [Lib.lens, List.map_cons, List.sum_cons, List.length_cons, Nat.succ_mul] at h2 ⊢
    omega
theorem join_le (l : List (List UInt8)) (sep : List UInt8) (B : Nat) (h : ∀ x ∈ l, x.length ≤ B) : (Lib.join l sep).length ≤ l.length * B + l.length * sep.length := by
  cases l with
  | nil => simp [Lib.join_nil]
  | cons y r =>
    have h2 := lens_le (y :: r) B h
    rw [Lib.join_length]
    rw [Nat.mul_comm sep.length]
    simp only [List.length_cons, Nat.succ_mul] at h2 ⊢
    omega
theorem join_texts (ws : List ByteArray) (sep : ByteArray) (hn : ws.length ≤ 1048576) (hs : sep.size ≤ 16) (hw : ∀ w ∈ ws, w.size ≤ 2147483650) :
    Ev (fun k => spec_l00Join.f k ws sep) ⟨(Lib.join (ws.map (·.data.toList)) sep.data.toList).toArray⟩ := by
  have hb : ∀ j, j ≤ ws.length → (Lib.join ((ws.take j).map (·.data.toList)) sep.data.toList).length ≤ j * 2147483650 + j * 16 := fun j hj => by
    have h := join_le ((ws.take j).map (·.data.toList)) sep.data.toList 2147483650 (fun x hx => by
      obtain ⟨w, hw', rfl⟩ := List.mem_map.1 hx
      have := hw w (List.mem_of_mem_take hw')
      simpa using this)
    have hl : ((ws.take j).map (·.data.toList)).length = j := by rw [List.length_map, List.length_take]; omega
    have hsl : sep.data.toList.length ≤ 16 := by simpa using hs
    rw [hl] at h
    have := Nat.mul_le_mul_left j hsl
    omega
  obtain ⟨r, hr, he⟩ := state_loop ws.length (fun k s i => spec_l00Join.l0 k ws sep s i) (fun j s => s = ⟨(Lib.join ((ws.take j).map (·.data.toList)) sep.data.toList).toArray⟩) (fun _ _ r => r = ⟨(Lib.join (ws.map (·.data.toList)) sep.data.toList).toArray⟩)
    (fun s hi => ⟨s, by rw [hi, List.take_length], ev_now ⟨0, fun k _ => by simp only [spec_l00Join.l0]; rw [if_neg (by omega)]⟩⟩)
    (fun j s hj hi => by
      have hbj := hb j (by omega)
      have hsz : s.size = (Lib.join ((ws.take j).map (·.data.toList)) sep.data.toList).length := by rw [hi]; show (Lib.join _ _).toArray.size = _; simp
      have hx : ws[j]? = some (ws.getD j ByteArray.empty) := by rw [List.getD_eq_getElem?_getD, List.getElem?_eq_getElem hj]; rfl
      have hwj : (ws.getD j ByteArray.empty).size ≤ 2147483650 := hw _ (List.mem_of_getElem? hx)
      have hrd : rdOf ByteArray.empty ws (j : Int) = ws.getD j ByteArray.empty := rfl
      have htk : ws.take (j + 1) = ws.take j ++ [ws.getD j ByteArray.empty] := by rw [List.take_add_one, hx]; rfl
      by_cases h0 : j = 0
      · subst h0
        refine .inr ⟨s ++ ws.getD 0 ByteArray.empty, ?_, fun r h => h, 0, fun k _ => ?_⟩
        · rw [htk, hi]
          apply ByteArray.ext
          simp [Lib.join_nil, Lib.join_one]
        · simp only [spec_l00Join.l0]
          rw [if_pos (by omega), if_neg (by omega), if_pos (by omega), hrd, if_pos (by omega), wsucc hj (by omega)]
      · refine .inr ⟨(s ++ sep) ++ ws.getD j ByteArray.empty, ?_, fun r h => h, 0, fun k _ => ?_⟩
        · rw [htk, List.map_append, List.map_cons, List.map_nil, join_snoc _ _ _ (by intro e; have := congrArg List.length e; rw [List.length_map, List.length_take, List.length_nil] at this; omega), hi]
          apply ByteArray.ext
          simp
        · simp only [spec_l00Join.l0]
          rw [if_pos (by omega), if_pos (by omega), if_pos (by omega), if_pos (by omega), hrd, if_pos (by rw [ByteArray.size_append]; omega), wsucc hj (by omega)]) 0 ⟨#[]⟩ (by omega) (by simp [Lib.join_nil])
  subst hr
  exact ev_same ⟨0, fun k _ => by unfold spec_l00Join.f; rfl⟩ he
theorem lib_join (ws : List ByteArray) (sep : ByteArray) (hn : ws.length ≤ 4096) (hs : sep.size ≤ 16) (hw : ∀ w ∈ ws, w.size ≤ 2147483650) :
    strings_Join.f ws sep = some ⟨(Lib.join (ws.map (·.data.toList)) sep.data.toList).toArray⟩ := by
  have h := join_le (ws.map (·.data.toList)) sep.data.toList 2147483650 (fun x hx => by
    obtain ⟨w, hw', rfl⟩ := List.mem_map.1 hx
    have := hw w hw'
    simpa using this)
  have hsl : sep.data.toList.length ≤ 16 := by simpa using hs
  rw [List.length_map] at h
  have := Nat.mul_le_mul_left ws.length hsl
  unfold strings_Join.f
  rw [if_pos ⟨by omega, by omega⟩]
/-- A token's text; of a wrong one nothing is said. -/
def txt (x : S29) : ByteArray := (impl_Token_text.f x.f0 x.f1 x.f2).getD ByteArray.empty
def Right (x : S29) : Prop := IsToken x.f0 x.f1 x.f2
theorem txt_of (x : S29) (hs : x.f2.size ≤ 1048576) (h : Right x) : Ev (fun k => spec_l01Text.f k x.f0 x.f1 x.f2) (txt x) ∧ impl_Token_text.f x.f0 x.f1 x.f2 = some (txt x) ∧ (txt x).size ≤ 2147483650 := by
  obtain ⟨t, e1, e2, hl⟩ := text_agree x.f0 x.f1 x.f2 hs h
  have e : txt x = t := by unfold txt; rw [e2]; rfl
  rw [e]
  exact ⟨e1, e2, hl⟩
theorem take_map (l : List S29) (j : Nat) (hj : j < l.length) : (l.take (j + 1)).map txt = (l.take j).map txt ++ [txt (l.getD j z29)] := by
  rw [List.take_add_one, List.getElem?_eq_getElem hj, List.getD_eq_getElem?_getD, List.getElem?_eq_getElem hj, List.map_append]
  rfl
def blank : ByteArray := ⟨#[32]⟩
theorem tokens_right (l : List S29) (hl : l.length ≤ 4000) (hs : ∀ x ∈ l, x.f2.size ≤ 1048576) (h : ∀ x ∈ l, Right x) :
    ∃ J, Ev (fun k => spec_JoinTokens.l0 k l [] 0) (J, 0) ∧ Ev (fun k => impl_joined.f k l) J ∧ J.data.toList = Lib.join ((l.map txt).map (·.data.toList)) blank.data.toList := by
  have hsz : ∀ w ∈ l.map txt, w.size ≤ 2147483650 := fun w hw => by
    obtain ⟨x, hx, rfl⟩ := List.mem_map.1 hw
    exact (txt_of x (hs x hx) (h x hx)).2.2
  have hj := join_texts (l.map txt) blank (by rw [List.length_map]; omega) (by show 1 ≤ 16; omega) hsz
  have hk := lib_join (l.map txt) blank (by rw [List.length_map]; omega) (by show 1 ≤ 16; omega) hsz
  have hJ : (⟨(Lib.join ((l.map txt).map (·.data.toList)) blank.data.toList).toArray⟩ : ByteArray).data.toList = Lib.join ((l.map txt).map (·.data.toList)) blank.data.toList := rfl
  generalize (⟨(Lib.join ((l.map txt).map (·.data.toList)) blank.data.toList).toArray⟩ : ByteArray) = J at hj hk hJ
  obtain ⟨K0, k0⟩ := ev_at hj
  refine ⟨J, ?_, ?_, hJ⟩
  · obtain ⟨r, hr, he⟩ := state_loop l.length (fun k s i => spec_JoinTokens.l0 k l s i) (fun j s => s = (l.take j).map txt) (fun _ _ r => r = (J, (0 : Int)))
      (fun s hi => ⟨(J, 0), rfl, by
        rw [List.take_length] at hi
        subst hi
        refine ev_mk (K0 + 1) fun k hk => ?_
        obtain ⟨m, rfl⟩ : ∃ m, k = m + 1 := ⟨k - 1, by omega⟩
        simp only [spec_JoinTokens.l0]
        rw [if_neg (by omega)]
        rw [show (⟨#[32]⟩ : ByteArray) = blank from rfl, k0 m (by omega)]
        rfl⟩)
      (fun j s hj' hi => by
        have hm := getD_mem l z29 j hj'
        obtain ⟨t, e1, _, e3⟩ := token_agree (l.getD j z29).f0 (l.getD j z29).f1 (l.getD j z29).f2 (hs _ hm)
        obtain ⟨K1, k1⟩ := ev_at e1
        obtain ⟨e4, _, _⟩ := txt_of _ (hs _ hm) (h _ hm)
        obtain ⟨K2, k2⟩ := ev_at e4
        have ht : t = true := e3.2 (h _ hm)
        subst ht
        have hrd : rd_T29 l (j : Int) = l.getD j z29 := rfl
        have hlen : s.length ≤ 4000 := by rw [hi, List.length_map, List.length_take]; omega
        refine .inr ⟨s ++ [txt (l.getD j z29)], by rw [take_map l j hj', hi], fun r h => h, K1 + K2, fun k hk => ?_⟩
        simp only [spec_JoinTokens.l0]
        rw [if_pos (by omega), if_pos (by omega), hrd, k1 k (by omega)]
        simp only [Option.bind_some, if_true]
        rw [k2 k (by omega)]
        simp only [Option.bind_some]
        rw [if_pos (by omega), wsucc hj' (by omega)]) 0 [] (by omega) (by simp)
    subst hr
    exact he
  · obtain ⟨r, hr, he⟩ := state_loop l.length (fun k s i => impl_joined.l0 k s l (l.length : Int) i) (fun j s => s = (l.take j).map txt) (fun _ _ r => r = J)
      (fun s hi => ⟨J, rfl, by
        rw [List.take_length] at hi
        subst hi
        refine ev_now ⟨0, fun k _ => ?_⟩
        simp only [impl_joined.l0]
        rw [if_neg (by omega)]
        rw [show (⟨#[32]⟩ : ByteArray) = blank from rfl, hk]
        rfl⟩)
      (fun j s hj' hi => by
        have hm := getD_mem l z29 j hj'
        obtain ⟨_, e4, _⟩ := txt_of _ (hs _ hm) (h _ hm)
        have hrd : rd_T29 l (j : Int) = l.getD j z29 := rfl
        have hlen : s.length ≤ 4000 := by rw [hi, List.length_map, List.length_take]; omega
        refine .inr ⟨s ++ [txt (l.getD j z29)], by rw [take_map l j hj', hi], fun r h => h, 0, fun k hk => ?_⟩
        simp only [impl_joined.l0]
        rw [if_pos (by omega), if_pos (by omega), if_pos (by omega), hrd, e4]
        simp only [Option.bind_some]
        rw [if_pos (by omega), wsucc hj' (by omega)]) 0 [] (by omega) (by simp)
    subst hr
    exact ev_same ⟨0, fun k _ => by unfold impl_joined.f; rfl⟩ he
theorem tokens_wrong (l : List S29) (hl : l.length ≤ 4000) (hs : ∀ x ∈ l, x.f2.size ≤ 1048576) (h : ∃ x ∈ l, ¬ Right x) :
    Ev (fun k => spec_JoinTokens.l0 k l [] 0) ((⟨#[]⟩ : ByteArray), 1) := by
  obtain ⟨x, hx, hw⟩ := h
  obtain ⟨q, hq, rfl⟩ := List.getElem_of_mem hx
  have hqd : l.getD q z29 = l[q] := by rw [List.getD_eq_getElem?_getD, List.getElem?_eq_getElem hq]; rfl
  obtain ⟨r, hr, he⟩ := state_loop l.length (fun k s i => spec_JoinTokens.l0 k l s i) (fun j s => j ≤ q ∧ s.length = j) (fun _ _ r => r = ((⟨#[]⟩ : ByteArray), (1 : Int)))
    (fun s hi => absurd hi.1 (by omega))
    (fun j s hj hi => by
      have hm := getD_mem l z29 j hj
      obtain ⟨t, e1, _, e3⟩ := token_agree (l.getD j z29).f0 (l.getD j z29).f1 (l.getD j z29).f2 (hs _ hm)
      obtain ⟨K1, k1⟩ := ev_at e1
      have hrd : rd_T29 l (j : Int) = l.getD j z29 := rfl
      cases t with
      | false =>
        refine .inl ⟨_, rfl, ev_now ⟨K1, fun k hk => ?_⟩⟩
        simp only [spec_JoinTokens.l0]
        rw [if_pos (by omega), if_pos (by omega), hrd, k1 k (by omega)]
        simp
      | true =>
        obtain ⟨e4, _, _⟩ := txt_of _ (hs _ hm) (e3.1 rfl)
        obtain ⟨K2, k2⟩ := ev_at e4
        have hne : j ≠ q := by
          rintro rfl
          rw [hqd] at e3
          exact hw (e3.1 rfl)
        refine .inr ⟨s ++ [txt (l.getD j z29)], ⟨by omega, by simp [hi.2]⟩, fun r h => h, K1 + K2, fun k hk => ?_⟩
        simp only [spec_JoinTokens.l0]
        rw [if_pos (by omega), if_pos (by omega), hrd, k1 k (by omega)]
        simp only [Option.bind_some, if_true]
        rw [k2 k (by omega)]
        simp only [Option.bind_some]
        rw [if_pos (by have := hi.2; omega), wsucc hj (by omega)]) 0 [] (by omega) ⟨by omega, rfl⟩
  subst hr
  exact he
theorem mapM_all {α : Type} (Q : Nat → α → Option Bool) : ∀ l : List α, (∀ x ∈ l, ∃ b, Ev (fun k => Q k x) b) → ∃ bs, Ev (fun k => l.mapM (Q k)) bs
  | [], _ => ⟨[], ev_mk 0 fun _ _ => rfl⟩
  | y :: ys, h => by
    obtain ⟨b, e1⟩ := h y (by simp)
    obtain ⟨bs, e2⟩ := mapM_all Q ys fun x hx => h x (List.mem_cons_of_mem _ hx)
    obtain ⟨K1, k1⟩ := ev_at e1
    obtain ⟨K2, k2⟩ := ev_at e2
    refine ⟨b :: bs, ev_mk (K1 + K2) fun k hk => ?_⟩
    rw [List.mapM_cons, k1 k (by omega), k2 k (by omega)]
    rfl
/-- Whether one of the tokens is wrong. -/
theorem any_wrong (l : List S29) (hs : ∀ x ∈ l, x.f2.size ≤ 1048576) : ∃ r, Ev (fun k => anyf15_16.f k l) r ∧ (r = true ↔ ∃ x ∈ l, ¬ Right x) := by
  have hq : ∀ x ∈ l, ∃ b, Ev (fun k => impl_JoinTokens_1.f k x.f0 x.f1 x.f2) b ∧ (b = true ↔ ¬ Right x) := fun x hx => by
    obtain ⟨t, _, e2, e3⟩ := token_agree x.f0 x.f1 x.f2 (hs x hx)
    obtain ⟨K1, k1⟩ := ev_at e2
    refine ⟨!t, ev_mk K1 fun k hk => by unfold impl_JoinTokens_1.f; rw [k1 k hk]; rfl, ?_⟩
    show _ ↔ ¬ IsToken _ _ _
    rw [← e3]
    cases t <;> simp
  obtain ⟨bs, eb⟩ := mapM_all (fun k x => impl_JoinTokens_1.f k x.f0 x.f1 x.f2) l fun x hx => by obtain ⟨b, h, _⟩ := hq x hx; exact ⟨b, h⟩
  obtain ⟨K, kb⟩ := ev_at eb
  refine ⟨bs.any id, ev_mk K fun k hk => by unfold anyf15_16.f; rw [kb k hk]; rfl, ?_⟩
  have hone : ∀ k, K ≤ k → (∀ x ∈ l, impl_JoinTokens_1.f k x.f0 x.f1 x.f2 = some ((impl_JoinTokens_1.f k x.f0 x.f1 x.f2).getD false)) ∧ bs.any id = l.any (fun x => (impl_JoinTokens_1.f k x.f0 x.f1 x.f2).getD false) := fun k hk => any_mapM _ l bs (kb k hk)
  constructor
  · intro h
    rw [(hone K (Nat.le_refl _)).2, List.any_eq_true] at h
    obtain ⟨x, hx, hb⟩ := h
    refine ⟨x, hx, ?_⟩
    obtain ⟨b, e, hbx⟩ := hq x hx
    obtain ⟨K2, k2⟩ := ev_at e
    have h1 := (hone (K + K2) (by omega)).1 x hx
    have h0 := (hone K (Nat.le_refl _)).1 x hx
    have hm : ∀ d, impl_JoinTokens_1.f (K + d) x.f0 x.f1 x.f2 = some true := by
      intro d
      induction d with
      | zero => rw [Nat.add_zero, h0, hb]
      | succ d ih => exact impl_JoinTokens_1.mono x.f0 x.f1 x.f2 (K + d) _ ih
    have := (hm K2).symm.trans (k2 (K + K2) (by omega))
    exact hbx.1 (Option.some.inj this).symm
  · rintro ⟨x, hx, hw⟩
    obtain ⟨b, e, hbx⟩ := hq x hx
    obtain ⟨K2, k2⟩ := ev_at e
    rw [(hone (K + K2) (by omega)).2, List.any_eq_true]
    refine ⟨x, hx, ?_⟩
    rw [k2 (K + K2) (by omega), hbx.2 hw]
    rfl
theorem join_agree (l : List S29) (hl : l.length ≤ 1048576) (hs : ∀ x ∈ l, x.f2.size ≤ 1048576) : ∃ r : ByteArray × Int, Ev (fun k => spec_JoinTokens.f k l) r ∧ Ev (fun k => impl_JoinTokens.f k l) r := by
  by_cases h1 : (l.length : Int) > 4096
  · exact ⟨((⟨#[]⟩ : ByteArray), 2), ev_mk 0 fun k _ => by unfold spec_JoinTokens.f; rw [if_pos h1], ev_mk 0 fun k _ => by
      unfold impl_JoinTokens.f impl_Token_14.f
      rw [show decide ((l.length : Int) ≤ 4096) = false from decide_eq_false (by omega)]
      rfl⟩
  · have hd : decide ((l.length : Int) ≤ 4096) = true := decide_eq_true (by omega)
    by_cases h2 : (l.length : Int) > 4000
    · exact ⟨((⟨#[]⟩ : ByteArray), 6), ev_mk 0 fun k _ => by unfold spec_JoinTokens.f; rw [if_neg h1, if_pos h2], ev_mk 0 fun k _ => by
        unfold impl_JoinTokens.f impl_Token_14.f
        rw [hd, Option.bind_some, if_pos rfl, if_pos h2]⟩
    · obtain ⟨b, eb, hb⟩ := any_wrong l hs
      obtain ⟨K1, k1⟩ := ev_at eb
      cases b with
      | true =>
        obtain ⟨K2, k2⟩ := ev_at (tokens_wrong l (by omega) hs (hb.1 rfl))
        exact ⟨((⟨#[]⟩ : ByteArray), 1), ev_mk K2 fun k hk => by unfold spec_JoinTokens.f; rw [if_neg h1, if_neg h2]; exact k2 k hk, ev_mk K1 fun k hk => by
          unfold impl_JoinTokens.f impl_Token_14.f
          rw [hd, Option.bind_some, if_pos rfl, if_neg h2, k1 k hk, Option.bind_some, if_pos rfl]⟩
      | false =>
        have hall : ∀ x ∈ l, Right x := fun x hx => Classical.byContradiction fun hn => by
          have := hb.2 ⟨x, hx, hn⟩
          cases this
        obtain ⟨J, e1, e2, _⟩ := tokens_right l (by omega) hs hall
        obtain ⟨K2, k2⟩ := ev_at e1
        obtain ⟨K3, k3⟩ := ev_at e2
        exact ⟨(J, 0), ev_mk K2 fun k hk => by unfold spec_JoinTokens.f; rw [if_neg h1, if_neg h2]; exact k2 k hk, ev_mk (K1 + K3) fun k hk => by
          unfold impl_JoinTokens.f impl_Token_14.f
          rw [hd, Option.bind_some, if_pos rfl, if_neg h2, k1 k (by omega), Option.bind_some, if_neg (by simp), k3 k (by omega)]
          rfl⟩
end Go.Proofs.YtonofmbpjjckjaaGreatDoor.Pure2
namespace Go.Proofs.YtonofmbpjjckjaaGreatDoor.Pure2
open Go.RowKit Go.Proofs.YtonofmbpjjckjaaGreatDoor.Q Go.Proofs.YtonofmbpjjckjaaGreatDoorW.PrintWords Go.Proofs.YtonofmbpjjckjaaGreatDoorW.PrintLast
set_option linter.unusedVariables false
set_option linter.unusedSimpArgs false
/-! a right token's text is read back -/
def Stop (l : List UInt8) : Prop := l = [] ∨ ∃ b r, l = b :: r ∧ (b = 32 ∨ b = 44 ∨ b = 10)
theorem wl_stop {l : List UInt8} (h : Stop l) : wl l = 0 := by
  rcases h with rfl | ⟨b, r, rfl, h⟩
  · rfl
  · simp only [wl]
    rw [if_neg]
    rcases h with rfl | rfl | rfl <;> decide
theorem wl_app : ∀ (a l : List UInt8), (∀ b ∈ a, isL b.toNat = true ∨ isD b.toNat = true) → Stop l → wl (a ++ l) = a.length
  | [], l, _, h => wl_stop h
  | b :: a, l, ha, h => by
    rw [List.cons_append]
    simp only [wl]
    rw [if_pos (ha b List.mem_cons_self), wl_app a l (fun x hx => ha x (List.mem_cons_of_mem _ hx)) h, List.length_cons]
theorem name_all (s : ByteArray) (h : IsName s) (c : UInt8) (hc : c ∈ Lb s) : isL (c.toNat : Int) = true ∨ isD (c.toNat : Int) = true := by
  obtain ⟨i, hi, rfl⟩ := List.getElem_of_mem hc
  have hsz : (Lb s).length = s.size := lb_len s
  have hb : bt s (i : Int) = (((Lb s)[i]).toNat : Int) := by
    unfold bt
    rw [dif_pos (by rw [Int.toNat_natCast]; omega)]
    simp only [Int.toNat_natCast]
    rfl
  rw [← hb]
  cases i with
  | zero => exact .inl h.2.2.1
  | succ i => exact h.2.2.2 _ (by omega) (by omega)
theorem name_first (s : ByteArray) (h : IsName s) : ∃ b r, Lb s = b :: r ∧ isL (b.toNat : Int) = true := by
  obtain ⟨b, hb, he⟩ := lb_at s 0 (by have := h.1; omega)
  rw [List.drop_zero] at hb
  refine ⟨b, _, hb, ?_⟩
  rw [← he]
  exact h.2.2.1
theorem text_first (t : ByteArray) (b : UInt8) (r : List UInt8) (h : Lb t = b :: r) : bt t 0 = (b.toNat : Int) ∧ 0 < t.size := by
  have hl := congrArg List.length h
  rw [lb_len, List.length_cons] at hl
  obtain ⟨b', hb', he'⟩ := lb_at t 0 (by omega)
  rw [List.drop_zero, h] at hb'
  injection hb' with h1 h2
  subst h1
  exact ⟨he', by omega⟩
def TokAt (t : ByteArray) (x : S29) (m : Nat) : Prop := Ev (fun k => impl_tokenAt.f k t) (x.f0, x.f1, x.f2, (m : Int), true)
theorem read_name (t s : ByteArray) (l : List UInt8) (ht : t.size ≤ 1048576) (hn : IsName s) (hL : Lb t = Lb s ++ l) (hl : Stop l) : TokAt t ⟨1, 0, s⟩ s.size := by
  obtain ⟨b, r, hb, hL1⟩ := name_first s hn
  obtain ⟨het, hpos⟩ := text_first t b (r ++ l) (by rw [hL, hb]; rfl)
  have e1 := impl_word_len t ht
  rw [hL, wl_app _ _ (name_all s hn) hl, lb_len] at e1
  have hx : t.extract 0 s.size = s := lb_ext (by rw [lb_cut, List.drop_zero, hL, Nat.sub_zero, ← lb_len, List.take_left])
  obtain ⟨v, _, e4, hv⟩ := names_ev s (by have := hn.2.1; omega)
  have hv' : v = true := hv.2 hn
  subst hv'
  obtain ⟨K1, k1⟩ := ev_at e1
  obtain ⟨K4, k4⟩ := ev_at e4
  have hle : s.size ≤ t.size := by
    have := congrArg List.length hL
    rw [List.length_append, lb_len, lb_len] at this
    omega
  refine ev_mk (K1 + K4) fun k hk => ?_
  unfold impl_tokenAt.f
  rw [if_pos (by omega), het, impl_letter]
  simp only [Option.bind_some]
  rw [if_pos hL1, k1 k (by omega)]
  simp only [Option.bind_some]
  rw [if_pos (by omega), if_pos (by omega)]
  simp only [Int.toNat_natCast]
  rw [hx, k4 k (by omega)]
  rfl
theorem read_var (t s : ByteArray) (l : List UInt8) (ht : t.size ≤ 1048576) (hn : IsName s) (hL : Lb t = 36 :: Lb s ++ l) (hl : Stop l) : TokAt t ⟨3, 0, s⟩ (s.size + 1) := by
  obtain ⟨het, hpos⟩ := text_first t 36 (Lb s ++ l) hL
  have e1 := impl_word_len (t.extract 1 t.size) (size_cut t _ _ ht)
  rw [lb_from, hL] at e1
  simp only [List.cons_append, List.drop_succ_cons, List.drop_zero] at e1
  rw [wl_app _ _ (name_all s hn) hl, lb_len] at e1
  have hx : t.extract 1 (1 + s.size) = s := lb_ext (by rw [lb_cut, hL, List.cons_append, List.drop_succ_cons, List.drop_zero, Nat.add_sub_cancel_left, ← lb_len, List.take_left])
  obtain ⟨v, _, e4, hv⟩ := names_ev s (by have := hn.2.1; omega)
  have hv' : v = true := hv.2 hn
  subst hv'
  obtain ⟨K1, k1⟩ := ev_at e1
  obtain ⟨K4, k4⟩ := ev_at e4
  have hle : 1 + s.size ≤ t.size := by
    have := congrArg List.length hL
    rw [List.length_append, List.length_cons, lb_len, lb_len] at this
    omega
  have eL : impl_isLetter.f 36 = some false := by rw [impl_letter]; rfl
  have eD : impl_isDigit.f 36 = some false := by rw [impl_digit]; rfl
  have h36 : ((36 : UInt8).toNat : Int) = 36 := rfl
  have hwm : Unit → wrap64 (1 + (s.size : Int)) = ((1 + s.size : Nat) : Int) := fun _ => by unfold wrap64; omega
  refine ev_mk (K1 + K4 + 1) fun k hk => ?_
  obtain ⟨j, rfl⟩ : ∃ j, k = j + 1 := ⟨k - 1, by omega⟩
  unfold impl_tokenAt.f
  rw [if_pos (by omega), het, h36, eL]
  simp only [Option.bind_some]
  rw [if_neg (by simp), if_neg (by decide), eD]
  simp only [Option.bind_some, impl_tokenAt.j0]
  rw [if_neg (by simp), if_pos trivial, if_pos (by omega), k1 j (by omega)]
  rw [Option.bind_some, hwm (), if_pos (by omega), if_pos (by omega), Int.toNat_natCast, hx, k4 j (by omega), Option.bind_some, show ((1 + s.size : Nat) : Int) = ((s.size + 1 : Nat) : Int) by omega]
theorem itoa_cons (v : Int) : ∃ b r, Lib.itoa v = b :: r ∧ ((b.toNat : Int) = 45 ∨ isD b.toNat = true) ∧ ∀ c ∈ r, isL c.toNat = true ∨ isD c.toNat = true := by
  have dig : ∀ u, ∀ c ∈ Lib.decDigits u, isD (c.toNat : Int) = true := fun u c hc => by
    have := dec_digit u c hc
    unfold isD
    exact decide_eq_true (by omega)
  unfold Lib.itoa
  by_cases h : v < 0
  · rw [if_pos h]
    exact ⟨45, _, rfl, .inl rfl, fun c hc => .inr (dig _ c hc)⟩
  · rw [if_neg h]
    obtain ⟨b, r, e, _⟩ := dec_head v.toNat
    have hd := dig v.toNat
    rw [e] at hd ⊢
    exact ⟨b, r, rfl, .inr (hd b List.mem_cons_self), fun c hc => .inr (hd c (List.mem_cons_of_mem _ hc))⟩
theorem read_int (t s : ByteArray) (v : Int) (l : List UInt8) (ht : t.size ≤ 1048576) (hn : IntText s v) (hL : Lb t = Lb s ++ l) (hl : Stop l) : TokAt t ⟨2, v, ⟨#[]⟩⟩ s.size := by
  obtain ⟨b, r, hb, hD, hr⟩ := itoa_cons v
  have hs : Lb s = b :: r := hn.2.trans hb
  have hL2 : Lb t = b :: (r ++ l) := by rw [hL, hs]; rfl
  obtain ⟨het, hpos⟩ := text_first t b (r ++ l) hL2
  have e1 := impl_word_len (t.extract 1 t.size) (size_cut t _ _ ht)
  rw [lb_from, hL2] at e1
  simp only [List.drop_succ_cons, List.drop_zero] at e1
  rw [wl_app _ _ hr hl] at e1
  have hsz : s.size = 1 + r.length := by rw [← lb_len, hs, List.length_cons]; omega
  have hx : t.extract 0 (1 + r.length) = s := lb_ext (by rw [lb_cut, List.drop_zero, hL, Nat.sub_zero, ← hsz, ← lb_len, List.take_left])
  have hle : 1 + r.length ≤ t.size := by
    have := congrArg List.length hL2
    rw [List.length_cons, List.length_append, lb_len] at this
    omega
  obtain ⟨q, e4, _, hq⟩ := impl_int s (by omega)
  have hq' := hq v hn
  rw [hq'] at e4
  obtain ⟨K1, k1⟩ := ev_at e1
  have hno : isL (b.toNat : Int) = false := by
    rcases hD with h | h
    · rw [h]; rfl
    · unfold isD at h
      have h2 := of_decide_eq_true h
      unfold isL
      exact decide_eq_false (by omega)
  have eL : impl_isLetter.f (b.toNat : Int) = some false := by rw [impl_letter, hno]
  have hwm : Unit → wrap64 (1 + (r.length : Int)) = ((1 + r.length : Nat) : Int) := fun _ => by unfold wrap64; omega
  have gi : ∀ j, K1 ≤ j → impl_tokenAt.j0 (j + 1) t (b.toNat : Int) true = some (2, v, (⟨#[]⟩ : ByteArray), ((1 + r.length : Nat) : Int), true) := fun j hj => by
    simp only [impl_tokenAt.j0]
    rw [if_pos trivial, if_pos (by omega), k1 j hj]
    rw [Option.bind_some, hwm (), if_pos (by omega), if_pos (by omega), Int.toNat_natCast, hx, e4, Option.bind_some]
  refine ev_mk (K1 + 1) fun k hk => ?_
  obtain ⟨j, rfl⟩ : ∃ j, k = j + 1 := ⟨k - 1, by omega⟩
  unfold impl_tokenAt.f
  rw [if_pos (by omega), het, eL]
  simp only [Option.bind_some]
  rw [if_neg (by simp), hsz]
  by_cases h45 : (b.toNat : Int) = 45
  · rw [if_pos h45, gi j (by omega)]
  · rw [if_neg h45, impl_digit, hD.resolve_left h45]
    simp only [Option.bind_some]
    rw [gi j (by omega)]
theorem read_punct (t s : ByteArray) (l : List UInt8) (ht : t.size ≤ 1048576) (hn : IsPunct (Lb s)) (hL : Lb t = Lb s ++ l) : TokAt t ⟨4, 0, s⟩ s.size := by
  have hc : ∃ b r, Lb s = b :: r ∧ (r = [] ∧ IsPunct [b] ∨ b = 46 ∧ r = [46, 46]) ∧ isL (b.toNat : Int) = false ∧ isD (b.toNat : Int) = false ∧ ¬ (b.toNat : Int) = 45 ∧ ¬ (b.toNat : Int) = 36 := by
    rcases hn with h | h | h | h | h | h | h | h | h | h <;> rw [h] <;> exact ⟨_, _, rfl, by first | exact .inr ⟨rfl, rfl⟩ | exact .inl ⟨rfl, by simp [IsPunct]⟩, by decide, by decide, by decide, by decide⟩
  obtain ⟨b, r, hs, hbr, hno, hnd, h45, h36⟩ := hc
  have hL2 : Lb t = b :: (r ++ l) := by rw [hL, hs]; rfl
  obtain ⟨het, hpos⟩ := text_first t b (r ++ l) hL2
  have eL : impl_isLetter.f (b.toNat : Int) = some false := by rw [impl_letter, hno]
  have eD : impl_isDigit.f (b.toNat : Int) = some false := by rw [impl_digit, hnd]
  obtain ⟨P, hP, hPl, hhit⟩ := hit_puncts b (r ++ l)
  have e5 := impl_hit t P (by omega) P.length 0 (by omega)
  rw [List.drop_zero, hL2] at e5
  obtain ⟨K5, k5⟩ := ev_at e5
  have gi : Ev (fun k => impl_tokenAt.f k t) (hitP (b :: (r ++ l)) P) := ev_mk (K5 + 1) fun k hk => by
    obtain ⟨j, rfl⟩ : ∃ j, k = j + 1 := ⟨k - 1, by omega⟩
    unfold impl_tokenAt.f
    rw [if_pos (by omega), het, eL]
    simp only [Option.bind_some]
    rw [if_neg (by simp), if_neg h45, eD]
    simp only [Option.bind_some, impl_tokenAt.j0]
    rw [if_neg (by simp), if_neg h36, hP]
    simp only [Option.bind_some]
    exact k5 j (by omega)
  have hsz : s.size = 1 + r.length := by rw [← lb_len, hs, List.length_cons]; omega
  rcases hbr with ⟨hr, hp⟩ | ⟨hb, hr⟩
  · rcases hhit with ⟨_, c, hc, e⟩ | ⟨h, _⟩ | ⟨h, _⟩
    · rw [e] at gi
      have : c = s := lb_ext (by rw [hc, hs, hr])
      rw [this] at gi
      unfold TokAt
      rw [hsz, hr]
      exact gi
    · exact absurd hp h
    · exact absurd hp h
  · rcases hhit with ⟨h, _⟩ | ⟨_, _, e⟩ | ⟨_, h, _⟩
    · rw [hb] at h; simp [IsPunct] at h
    · rw [e] at gi
      have : (⟨#[46, 46, 46]⟩ : ByteArray) = s := lb_ext (by rw [hs, hb, hr]; rfl)
      rw [this] at gi
      unfold TokAt
      rw [hsz, hr]
      exact gi
    · rw [hb, hr] at h; exact absurd rfl h
theorem Lb_app (a b : ByteArray) : Lb (a ++ b) = Lb a ++ Lb b := by unfold Lb; rw [ByteArray.data_append, Array.toList_append]
/-- A right token's text, by its kind. -/
theorem txt_forms (x : S29) (hs : x.f2.size ≤ 1048576) (h : Right x) :
    (∃ s, x = ⟨1, 0, s⟩ ∧ IsName s ∧ Lb (txt x) = Lb s) ∨ (∃ s, x = ⟨3, 0, s⟩ ∧ IsName s ∧ Lb (txt x) = 36 :: Lb s) ∨ (∃ v, x = ⟨2, v, ⟨#[]⟩⟩ ∧ IntText (txt x) v) ∨ (∃ s, x = ⟨4, 0, s⟩ ∧ IsPunct (Lb s) ∧ Lb (txt x) = Lb s) := by
  obtain ⟨a, b, s⟩ := x
  rcases h with ⟨ha, hb, hn⟩ | ⟨ha, hb, hn⟩ | ⟨ha, hb, hn⟩
  · have hb' : b = 0 := hb
    subst hb'
    rcases ha with ha | ha
    · have ha' : a = 1 := ha
      subst ha'
      refine .inl ⟨s, rfl, hn, ?_⟩
      unfold txt impl_Token_text.f
      rw [if_neg (show ¬ (1 : Int) = 2 by decide), if_neg (show ¬ (1 : Int) = 3 by decide)]
      rfl
    · have ha' : a = 3 := ha
      subst ha'
      refine .inr (.inl ⟨s, rfl, hn, ?_⟩)
      unfold txt impl_Token_text.f
      have hs' : s.size ≤ 1048576 := hs
      rw [if_neg (show ¬ (3 : Int) = 2 by decide), if_pos (by rfl), if_pos (by show 1 + s.size ≤ _; omega)]
      show Lb ((⟨#[36]⟩ : ByteArray) ++ s) = _
      rw [Lb_app]
      rfl
  · have ha' : a = 2 := ha
    subst ha'
    have hs' : s = ⟨#[]⟩ := lb_ext (by rw [← lb_list]; exact hn)
    subst hs'
    refine .inr (.inr (.inl ⟨b, rfl, hb, ?_⟩))
    have e : strconv_Itoa.f b = some ⟨(Lib.itoa b).toArray⟩ := (digits_agree8 b hb.1 hb.2).2.1
    unfold txt impl_Token_text.f
    rw [if_pos (by rfl)]
    show Lb (((strconv_Itoa.f b).bind fun t102 => some t102).getD ByteArray.empty) = _
    rw [e]
    rfl
  · have ha' : a = 4 := ha
    have hb' : b = 0 := hb
    subst ha' hb'
    refine .inr (.inr (.inr ⟨s, rfl, by rw [← lb_list]; exact hn, ?_⟩))
    unfold txt impl_Token_text.f
    rw [if_neg (show ¬ (4 : Int) = 2 by decide), if_neg (show ¬ (4 : Int) = 3 by decide)]
    rfl
theorem tok_read (x : S29) (hs : x.f2.size ≤ 1048576) (h : Right x) (t : ByteArray) (ht : t.size ≤ 1048576) (l : List UInt8) (hL : Lb t = Lb (txt x) ++ l) (hl : Stop l) : TokAt t x (txt x).size := by
  have sz : ∀ (a b : ByteArray), Lb a = Lb b → a.size = b.size := fun a b e => by rw [← lb_len, e, lb_len]
  rcases txt_forms x hs h with ⟨s, rfl, hn, e⟩ | ⟨s, rfl, hn, e⟩ | ⟨v, rfl, hn⟩ | ⟨s, rfl, hn, e⟩
  · rw [sz _ _ e]
    exact read_name t s l ht hn (by rw [hL, e]) hl
  · have : (txt ⟨3, 0, s⟩).size = s.size + 1 := by rw [← lb_len, e, List.length_cons, lb_len]
    rw [this]
    exact read_var t s l ht hn (by rw [hL, e]) hl
  · exact read_int t _ v l ht hn hL hl
  · rw [sz _ _ e]
    exact read_punct t s l ht hn (by rw [hL, e])
/-- A right token's text begins with no blank and no #. -/
theorem txt_head (x : S29) (hs : x.f2.size ≤ 1048576) (h : Right x) : ∃ b r, Lb (txt x) = b :: r ∧ spc b.toNat = false ∧ b.toNat ≠ 35 ∧ (txt x).size ≤ x.f2.size + 12 := by
  have ltr : ∀ b : UInt8, isL (b.toNat : Int) = true → spc b.toNat = false ∧ b.toNat ≠ 35 := fun b hb => by
    unfold isL at hb
    have := of_decide_eq_true hb
    unfold spc
    exact ⟨decide_eq_false (by omega), by omega⟩
  have dig : ∀ b : UInt8, (b.toNat : Int) = 45 ∨ isD (b.toNat : Int) = true → spc b.toNat = false ∧ b.toNat ≠ 35 := fun b hb => by
    unfold spc
    rcases hb with hb | hb
    · exact ⟨decide_eq_false (by omega), by omega⟩
    · unfold isD at hb
      have := of_decide_eq_true hb
      exact ⟨decide_eq_false (by omega), by omega⟩
  have sz : ∀ (a b : ByteArray), Lb a = Lb b → a.size = b.size := fun a b e => by rw [← lb_len, e, lb_len]
  rcases txt_forms x hs h with ⟨s, rfl, hn, e⟩ | ⟨s, rfl, hn, e⟩ | ⟨v, rfl, hn⟩ | ⟨s, rfl, hn, e⟩
  · obtain ⟨b, r, hb, hL⟩ := name_first s hn
    exact ⟨b, r, e.trans hb, (ltr b hL).1, (ltr b hL).2, by rw [sz _ _ e]; show s.size ≤ s.size + 12; omega⟩
  · exact ⟨36, _, e, by decide, by decide, by rw [← lb_len, e, List.length_cons, lb_len]; show s.size + 1 ≤ s.size + 12; omega⟩
  · obtain ⟨b, r, hb, hD, _⟩ := itoa_cons v
    have hle := itoa_len v hn.1.1 hn.1.2
    exact ⟨b, r, hn.2.trans hb, (dig b hD).1, (dig b hD).2, by rw [← lb_len, hn.2]; omega⟩
  · have hc : ∃ b r, Lb s = b :: r ∧ spc b.toNat = false ∧ b.toNat ≠ 35 := by
      rcases hn with h | h | h | h | h | h | h | h | h | h <;> rw [h] <;> exact ⟨_, _, rfl, by decide, by decide⟩
    obtain ⟨b, r, hb, h1, h2⟩ := hc
    exact ⟨b, r, e.trans hb, h1, h2, by rw [sz _ _ e]; show s.size ≤ s.size + 12; omega⟩
/-! what a text reads as, byte by byte -/
def Rd (L : List UInt8) (out : List S29) (r : List S29 × Int) : Prop := ∀ t : ByteArray, Lb t = L → t.size ≤ 1048576 → Ev (fun k => goI k t out) r
theorem goI_at (t : ByteArray) (ht : t.size ≤ 1048576) (out : List S29) (r : List S29 × Int) : Ev (fun k => goI k t out) r ↔ Ev (fun k => impl_lex.l0 k (t.extract (sk false (Lb t)) t.size) out) r := by
  obtain ⟨K1, k1⟩ := ev_at (impl_pass t ht)
  have hsk := sk_le (Lb t) false
  rw [lb_len] at hsk
  have e : ∀ k, K1 ≤ k → goI k t out = impl_lex.l0 k (t.extract (sk false (Lb t)) t.size) out := fun k hk => by
    unfold goI
    rw [k1 k hk, Option.bind_some, if_pos (by omega), if_pos (by omega), Int.toNat_natCast]
  exact ⟨fun h => ev_same ⟨K1, fun k hk => (e k hk).symm⟩ h, fun h => ev_same ⟨K1, e⟩ h⟩
theorem rd_sep (sep L : List UInt8) (out : List S29) (r : List S29 × Int) (hs : sk false (sep ++ L) = sep.length + sk false L) (h : Rd L out r) : Rd (sep ++ L) out r := by
  intro t ht hz
  have hlen := congrArg List.length ht
  rw [lb_len, List.length_append] at hlen
  have hL : Lb (⟨L.toArray⟩ : ByteArray) = L := rfl
  have hLz : (⟨L.toArray⟩ : ByteArray).size = L.length := by rw [← lb_len, hL]
  have h1 := (goI_at ⟨L.toArray⟩ (by omega) out r).1 (h _ hL (by omega))
  refine (goI_at t hz out r).2 ?_
  rw [hL] at h1
  have e : t.extract (sk false (Lb t)) t.size = (⟨L.toArray⟩ : ByteArray).extract (sk false L) (⟨L.toArray⟩ : ByteArray).size := lb_ext (by rw [lb_from, lb_from, ht, hL, hs, List.drop_append, List.drop_of_length_le (by omega), Nat.add_sub_cancel_left, List.nil_append])
  rw [e]
  exact h1
theorem rd_end (out : List S29) : Rd [] out (out, 0) := by
  intro t ht hz
  refine (goI_at t hz out _).2 (ev_now ⟨0, fun k _ => ?_⟩)
  simp only [impl_lex.l0]
  rw [if_pos (by rw [lb_list, lb_from, ht]; rfl)]
theorem rd_tok (x : S29) (hs : x.f2.size ≤ 1048576) (h : Right x) (L : List UInt8) (hl : Stop L) (out : List S29) (ho : out.length < 4000) (r : List S29 × Int) (hr : Rd L (out ++ [x]) r) : Rd (Lb (txt x) ++ L) out r := by
  intro t ht hz
  obtain ⟨b, q, hb, h1, h2, _⟩ := txt_head x hs h
  have h0 : sk false (Lb t) = 0 := by
    rw [ht, hb, List.cons_append]
    simp only [sk]
    rw [if_neg (by rw [h1]; simp), if_neg h2]
  refine (goI_at t hz out _).2 ?_
  have hx : t.extract 0 t.size = t := lb_ext (by rw [lb_from, List.drop_zero])
  rw [h0, hx]
  obtain ⟨K1, k1⟩ := ev_at (tok_read x hs h t hz L ht hl)
  have hlen := congrArg List.length ht
  rw [lb_len, List.length_append, lb_len] at hlen
  have hcont := hr (t.extract (txt x).size t.size) (by rw [lb_from, ht, ← lb_len, List.drop_left]) (size_cut t _ _ hz)
  obtain ⟨K2, k2⟩ := ev_at hcont
  refine ev_mk (K1 + K2 + 1) fun k hk => ?_
  obtain ⟨j, rfl⟩ : ∃ j, k = j + 1 := ⟨k - 1, by omega⟩
  simp only [impl_lex.l0]
  rw [if_neg (by rw [lb_list, ht, hb]; simp), k1 j (by omega), Option.bind_some, if_pos rfl, if_neg (by omega), if_pos (by omega)]
  dsimp only
  rw [if_pos (by omega), if_pos (by omega), Int.toNat_natCast]
  exact k2 j (by omega)
end Go.Proofs.YtonofmbpjjckjaaGreatDoor.Pure2
namespace Go.Proofs.YtonofmbpjjckjaaGreatDoor.Pure2
open Go.RowKit Go.Proofs.YtonofmbpjjckjaaGreatDoor.Q Go.Proofs.YtonofmbpjjckjaaGreatDoorW.PrintWords Go.Proofs.YtonofmbpjjckjaaGreatDoorW.PrintLast
set_option linter.unusedVariables false
set_option linter.unusedSimpArgs false
/-! texts of tokens with blanks between -/
def SEPS : List (List UInt8) := [[32], [44], [10], [32, 44, 32, 35, 32, 120, 10]]
theorem sk_sep (sep : List UInt8) (h : sep ∈ SEPS) (L : List UInt8) : sk false (sep ++ L) = sep.length + sk false L := by
  simp only [SEPS, List.mem_cons, List.not_mem_nil, or_false] at h
  rcases h with rfl | rfl | rfl | rfl <;> simp [sk, spc] <;> omega
theorem sep_stop (sep : List UInt8) (h : sep ∈ SEPS) (L : List UInt8) : Stop (sep ++ L) := by
  simp only [SEPS, List.mem_cons, List.not_mem_nil, or_false] at h
  rcases h with rfl | rfl | rfl | rfl <;> exact .inr ⟨_, _, rfl, by simp⟩
theorem sep_len (sep : List UInt8) (h : sep ∈ SEPS) : sep.length ≤ 7 := by
  simp only [SEPS, List.mem_cons, List.not_mem_nil, or_false] at h
  rcases h with rfl | rfl | rfl | rfl <;> simp
def Good (x : S29) : Prop := Right x ∧ x.f2.size ≤ 8
def flat (ps : List (S29 × List UInt8)) : List UInt8 := ps.flatMap fun p => Lb (txt p.1) ++ p.2
theorem flat_cons (p : S29 × List UInt8) (ps : List (S29 × List UInt8)) (tail : List UInt8) : flat (p :: ps) ++ tail = Lb (txt p.1) ++ (p.2 ++ (flat ps ++ tail)) := by simp [flat]
theorem rd_flat : ∀ (ps : List (S29 × List UInt8)) (tail : List UInt8) (out : List S29) (r : List S29 × Int), (∀ p ∈ ps, Good p.1 ∧ p.2 ∈ SEPS) → out.length + ps.length ≤ 4000 → Rd tail (out ++ ps.map Prod.fst) r → Rd (flat ps ++ tail) out r
  | [], tail, out, r, _, _, h => by
    rw [List.map_nil, List.append_nil] at h
    exact h
  | p :: ps, tail, out, r, hp, hl, h => by
    rw [flat_cons]
    obtain ⟨⟨h1, h2⟩, h3⟩ := hp p List.mem_cons_self
    rw [List.length_cons] at hl
    refine rd_tok p.1 (by omega) h1 _ (sep_stop p.2 h3 _) out (by omega) r (rd_sep p.2 _ _ r (sk_sep p.2 h3 _) (rd_flat ps tail _ r (fun q hq => hp q (List.mem_cons_of_mem _ hq)) ?_ ?_))
    · rw [List.length_append, List.length_singleton]; omega
    · rw [List.append_assoc]
      exact h
theorem flat_len : ∀ (ps : List (S29 × List UInt8)), (∀ p ∈ ps, Good p.1 ∧ p.2 ∈ SEPS) → (flat ps).length ≤ 27 * ps.length
  | [], _ => by simp [flat]
  | p :: ps, hp => by
    have e := flat_cons p ps []
    rw [List.append_nil, List.append_nil] at e
    obtain ⟨⟨h1, h2⟩, h3⟩ := hp p List.mem_cons_self
    obtain ⟨_, _, _, _, _, h4⟩ := txt_head p.1 (by omega) h1
    have h5 := sep_len p.2 h3
    have ih := flat_len ps (fun q hq => hp q (List.mem_cons_of_mem _ hq))
    rw [e, List.length_append, List.length_append, lb_len, List.length_cons]
    omega
theorem rd_bad (out : List S29) : Rd [37] out ([], 3) := by
  intro t ht hz
  have h0 : sk false (Lb t) = 0 := by rw [ht]; rfl
  refine (goI_at t hz out _).2 ?_
  have hx : t.extract 0 t.size = t := lb_ext (by rw [lb_from, List.drop_zero])
  rw [h0, hx]
  obtain ⟨het, hpos⟩ := text_first t 37 [] ht
  have eL : impl_isLetter.f 37 = some false := by rw [impl_letter]; rfl
  have eD : impl_isDigit.f 37 = some false := by rw [impl_digit]; rfl
  have h37 : ((37 : UInt8).toNat : Int) = 37 := rfl
  obtain ⟨P, hP, hPl, hhit⟩ := hit_puncts 37 []
  have e5 := impl_hit t P (by omega) P.length 0 (by omega)
  rw [List.drop_zero, ht] at e5
  have e6 : hitP [37] P = (0, 0, ⟨#[]⟩, 0, false) := by
    rcases hhit with ⟨h, _⟩ | ⟨_, h, _⟩ | ⟨_, _, e⟩
    · simp [IsPunct] at h
    · simp at h
    · exact e
  rw [e6] at e5
  obtain ⟨K5, k5⟩ := ev_at e5
  refine ev_mk (K5 + 2) fun k hk => ?_
  obtain ⟨j, rfl⟩ : ∃ j, k = j + 2 := ⟨k - 2, by omega⟩
  have gi : impl_tokenAt.f (j + 1) t = some (0, 0, (⟨#[]⟩ : ByteArray), 0, false) := by
    unfold impl_tokenAt.f
    rw [if_pos (by omega), het, h37, eL]
    simp only [Option.bind_some]
    rw [if_neg (by simp), if_neg (by decide), eD]
    simp only [Option.bind_some, impl_tokenAt.j0]
    rw [if_neg (by simp), if_neg (by decide), hP]
    simp only [Option.bind_some]
    exact k5 j (by omega)
  simp only [impl_lex.l0]
  rw [if_neg (by rw [lb_list, ht]; simp), gi, Option.bind_some, if_neg (by simp)]
theorem lexed (s : ByteArray) (hs : s.size ≤ 65536) (r : List S29 × Int) (h : Rd (Lb s) [] r) : Ev (fun k => impl_Lex.f k s) r := by
  have htext : impl_isText.f [s] = some (!decide ((s.size : Int) > 65536)) := by
    unfold impl_isText.f impl_isText.p
    simp
  obtain ⟨K2, k2⟩ := ev_at (h s rfl (by omega))
  refine ev_mk K2 fun k hk => ?_
  unfold impl_Lex.f
  rw [htext, decide_eq_false (by omega)]
  show (impl_lex.f k s).bind _ = _
  rw [show impl_lex.f k s = some r from k2 k hk]
  rfl
theorem join_flat : ∀ (n : Nat) (xs : List (List UInt8)) (y : List UInt8), xs.length = n → Lib.join (xs ++ [y]) [32] = xs.flatMap (· ++ [32]) ++ y
  | 0, xs, y, h => by
    rw [List.length_eq_zero_iff.1 h]
    exact Lib.join_one y [32]
  | n + 1, xs, y, h => by
    rcases List.eq_nil_or_concat xs with e | ⟨ys, z, e⟩
    · rw [e] at h; cases h
    · rw [List.concat_eq_append] at e
      subst e
      rw [List.length_append, List.length_singleton] at h
      rw [join_snoc _ _ _ (by simp), join_flat n ys z (by omega), List.flatMap_append]
      simp
theorem flat_blank (l : List S29) : flat (l.map fun x => (x, [32])) = (l.map fun x => Lb (txt x)).flatMap (· ++ [32]) := by
  induction l with
  | nil => rfl
  | cons x l ih =>
    simp only [flat, List.map_cons, List.flatMap_cons] at ih ⊢
    rw [ih]
theorem joined_reads (l : List S29) (hl : l.length ≤ 100) (hg : ∀ x ∈ l, Good x) (J : ByteArray) (hJ : J.data.toList = Lib.join ((l.map txt).map (·.data.toList)) blank.data.toList) :
    Ev (fun k => impl_Lex.f k J) (l, 0) ∧ Ev (fun k => impl_Lex.f k (J ++ (⟨#[32, 37]⟩ : ByteArray))) ([], 3) ∧ J.size ≤ 2720 := by
  have hj : Lb J = Lib.join (l.map fun x => Lb (txt x)) [32] := by
    show J.data.toList = _
    rw [hJ, List.map_map]
    rfl
  have hps : ∀ (m : List S29), (∀ x ∈ m, Good x) → ∀ p ∈ (m.map fun x => ((x, [32]) : S29 × List UInt8)), Good p.1 ∧ p.2 ∈ SEPS := fun m hm p hp => by
    obtain ⟨x, hx, rfl⟩ := List.mem_map.1 hp
    exact ⟨hm x hx, by simp [SEPS]⟩
  have hfst : ∀ (m : List S29), (m.map fun x => ((x, [32]) : S29 × List UInt8)).map Prod.fst = m := fun m => by rw [List.map_map]; exact List.map_id m
  have hsz : Lb (J ++ (⟨#[32, 37]⟩ : ByteArray)) = Lb J ++ [32, 37] := Lb_app _ _
  have hz2 : (J ++ (⟨#[32, 37]⟩ : ByteArray)).size = J.size + 2 := ByteArray.size_append ..
  rcases List.eq_nil_or_concat l with e | ⟨l0, x, e⟩
  · subst e
    have hj0 : Lb J = [] := hj
    have hJz : J.size = 0 := by rw [← lb_len, hj0]; rfl
    refine ⟨lexed J (by omega) _ (by rw [hj0]; exact rd_end []), lexed _ (by omega) _ (by rw [hsz, hj0]; exact rd_sep [32] [37] [] _ (sk_sep [32] (by simp [SEPS]) _) (rd_bad [])), by omega⟩
  · rw [List.concat_eq_append] at e
    subst e
    rw [List.length_append, List.length_singleton] at hl
    have hg0 : ∀ y ∈ l0, Good y := fun y hy => hg y (List.mem_append_left _ hy)
    have hgx : Good x := hg x (by simp)
    have e1 : Lb J = flat (l0.map fun x => (x, [32])) ++ Lb (txt x) := by
      rw [hj, List.map_append, List.map_singleton, join_flat _ _ _ rfl, flat_blank]
    have e2 : Lb J ++ [32, 37] = flat ((l0 ++ [x]).map fun x => (x, [32])) ++ [37] := by
      rw [e1, List.map_append]
      simp [flat]
    have hlen := flat_len _ (hps l0 hg0)
    rw [List.length_map] at hlen
    obtain ⟨_, _, _, _, _, hx4⟩ := txt_head x (by have := hgx.2; omega) hgx.1
    have hJz : J.size ≤ 2720 := by
      rw [← lb_len, e1, List.length_append, lb_len]
      have := hgx.2
      omega
    refine ⟨lexed J (by omega) _ ?_, lexed _ (by omega) _ ?_, hJz⟩
    · rw [e1]
      refine rd_flat _ _ [] _ (hps l0 hg0) (by rw [List.length_map]; simp; omega) ?_
      rw [hfst]
      have h3 := rd_tok x (by have := hgx.2; omega) hgx.1 [] (.inl rfl) l0 (by omega) _ (rd_end (l0 ++ [x]))
      rw [List.append_nil] at h3
      exact h3
    · rw [hsz, e2]
      exact rd_flat _ _ [] _ (hps (l0 ++ [x]) hg) (by rw [List.length_map, List.length_append]; simp; omega) (rd_bad _)
end Go.Proofs.YtonofmbpjjckjaaGreatDoor.Pure2
namespace Go.Proofs.YtonofmbpjjckjaaGreatDoor.Pure2
open Go.RowKit Go.Proofs.YtonofmbpjjckjaaGreatDoor.Q Go.Proofs.YtonofmbpjjckjaaGreatDoorW.PrintWords Go.Proofs.YtonofmbpjjckjaaGreatDoorW.PrintLast
set_option linter.unusedVariables false
set_option linter.unusedSimpArgs false
/-! draws: a source of choices -/
def SrcOK (m a s : Int) : Prop := 0 ≤ a ∧ a ≤ m ∧ 0 ≤ s ∧ s < 2147483648
def CodeOK (code : List Int) : Prop := code.length ≤ 1048576 ∧ ∀ x ∈ code, 0 ≤ x ∧ x ≤ 255
theorem code_rd (code : List Int) (hc : CodeOK code) (i : Int) (h0 : 0 ≤ i) (h1 : i < (code.length : Int)) : 0 ≤ rd code i ∧ rd code i ≤ 255 := by
  have e : rd code i = code[i.toNat]'(by omega) := by
    unfold rd
    rw [List.getD_eq_getElem?_getD, List.getElem?_eq_getElem (by omega)]; rfl
  rw [e]
  exact hc.2 _ (List.getElem_mem _)
theorem byte_ok (code : List Int) (hc : CodeOK code) (m a s : Int) (hm : m ≤ 1000000000) (h : SrcOK m a s) : ∃ r a' s', spec_l00Src_byte.f code a s = some (r, a', s') ∧ 0 ≤ r ∧ r ≤ 255 ∧ SrcOK (m + 1) a' s' := by
  obtain ⟨h1, h2, h3, h4⟩ := h
  have hl := hc.1
  have w1 : wrap64 (a + 1) = a + 1 := by unfold wrap64; omega
  have w2 : wrap64 (a + 1 - 1) = a := by unfold wrap64; omega
  unfold spec_l00Src_byte.f
  rw [w1, w2]
  by_cases c1 : a + 1 ≤ (code.length : Int)
  · have hr := code_rd code hc a h1 (by omega)
    rw [if_pos c1, if_pos h1, if_pos (by omega)]
    generalize rd code a = x at *
    have w3 : wrap64 x = x := by unfold wrap64; omega
    have w4 : wrap64 (s * 31) = s * 31 := by unfold wrap64; omega
    have w5 : wrap64 (s * 31 + x) = s * 31 + x := by unfold wrap64; omega
    have w6 : wrap64 (s * 31 + x + 7) = s * 31 + x + 7 := by unfold wrap64; omega
    rw [w3, w4, w5, w6, Int.tmod_eq_emod_of_nonneg (by omega)]
    exact ⟨_, _, _, rfl, hr.1, hr.2, by omega, by omega, by omega, by omega⟩
  · rw [if_neg c1]
    by_cases c2 : a + 1 > 3000
    · rw [if_pos c2]
      exact ⟨_, _, _, rfl, by omega, by omega, by omega, by omega, h3, h4⟩
    · rw [if_neg c2]
      have w4 : wrap64 (s * 1103515245) = s * 1103515245 := by unfold wrap64; omega
      have w5 : wrap64 (s * 1103515245 + 12345) = s * 1103515245 + 12345 := by unfold wrap64; omega
      rw [w4, w5, Int.tmod_eq_emod_of_nonneg (a := s * 1103515245 + 12345) (by omega)]
      generalize hq : (s * 1103515245 + 12345) % 2147483648 = q
      have q0 : 0 ≤ q ∧ q < 2147483648 := by omega
      rw [Int.tdiv_eq_ediv_of_nonneg q0.1]
      have w6 : wrap64 (q / 65536) = q / 65536 := by unfold wrap64; omega
      rw [w6, Int.tmod_eq_emod_of_nonneg (by omega)]
      exact ⟨_, _, _, rfl, by omega, by omega, by omega, by omega, q0.1, q0.2⟩
theorem next_ok (code : List Int) (hc : CodeOK code) (m a s n : Int) (hm : m ≤ 1000000000) (hn : 1 ≤ n ∧ n ≤ 256) (h : SrcOK m a s) : ∃ r a' s', spec_l00Src_next.f code a s n = some (r, a', s') ∧ 0 ≤ r ∧ r < n ∧ SrcOK (m + 1) a' s' := by
  unfold spec_l00Src_next.f
  by_cases c1 : n ≤ 1
  · rw [if_pos c1]
    exact ⟨_, _, _, rfl, by omega, by omega, h.1, by have := h.2.1; omega, h.2.2⟩
  · obtain ⟨r, a', s', e, r0, r1, hs⟩ := byte_ok code hc m a s hm h
    rw [if_neg c1, if_pos hn.2, e]
    simp only [Option.bind_some]
    rw [if_neg (by omega), Int.tmod_eq_emod_of_nonneg r0]
    have h1 := Int.emod_nonneg r (show n ≠ 0 by omega)
    have h2 := Int.emod_lt_of_pos r (show 0 < n by omega)
    exact ⟨_, _, _, rfl, h1, h2, hs⟩
/-! drawn tokens -/
def nameB : List UInt8 → Bool
  | [] => false
  | b :: r => decide (r.length ≤ 39) && isL (b.toNat : Int) && r.all fun c => isL (c.toNat : Int) || isD (c.toNat : Int)
theorem name_of (s : ByteArray) (h : nameB (Lb s) = true) : IsName s := by
  obtain ⟨b, r, hb⟩ : ∃ b r, Lb s = b :: r := by
    cases hs : Lb s with
    | nil => rw [hs] at h; cases h
    | cons b r => exact ⟨b, r, rfl⟩
  have hlen := congrArg List.length hb
  rw [lb_len, List.length_cons] at hlen
  rw [hb] at h
  simp only [nameB, Bool.and_eq_true, decide_eq_true_eq] at h
  obtain ⟨⟨h1, h2⟩, h3⟩ := h
  refine ⟨by omega, by omega, by rw [(text_first s b r hb).1]; exact h2, fun i h0 hi => ?_⟩
  obtain ⟨n, rfl⟩ : ∃ n : Nat, i = ((n + 1 : Nat) : Int) := ⟨(i - 1).toNat, by omega⟩
  obtain ⟨c, hc, he⟩ := lb_at s (n + 1) (by omega)
  rw [hb, List.drop_succ_cons] at hc
  have hm : c ∈ r := List.mem_of_mem_drop (by rw [hc]; exact List.mem_cons_self)
  rw [he]
  simpa using List.all_eq_true.1 h3 c hm
theorem pick_ok (code : List Int) (hc : CodeOK code) (m a s : Int) (hm : m ≤ 1000000000) (P : List ByteArray) (hP : 1 ≤ P.length ∧ P.length ≤ 256) (h : SrcOK m a s) : ∃ x a' s', spec_l00Src_pick.f code a s P = some (x, a', s') ∧ x ∈ P ∧ SrcOK (m + 1) a' s' := by
  obtain ⟨r, a1, s1, e1, r0, r1, h1⟩ := next_ok code hc m a s (P.length : Int) hm (by omega) h
  unfold spec_l00Src_pick.f
  rw [if_neg (by omega), e1]
  simp only [Option.bind_some]
  rw [if_pos r0, if_pos r1]
  refine ⟨_, _, _, rfl, ?_, h1⟩
  unfold rdOf
  rw [List.getD_eq_getElem?_getD, List.getElem?_eq_getElem (show r.toNat < P.length by omega)]
  exact List.getElem_mem _
theorem good_name (P : List ByteArray) (hP : (P.all fun s => nameB (Lb s) && decide (s.size ≤ 8)) = true) (x : ByteArray) (hx : x ∈ P) : IsName x ∧ x.size ≤ 8 := by
  have h := List.all_eq_true.1 hP x hx
  rw [Bool.and_eq_true, decide_eq_true_eq] at h
  exact ⟨name_of x h.1, h.2⟩
theorem token_ok (code : List Int) (hc : CodeOK code) (m a s : Int) (hm : m ≤ 900000000) (h : SrcOK m a s) : ∃ (x : S29) (a' s' : Int), spec_l00Src_token.f code a s = some (x.f0, x.f1, x.f2, a', s') ∧ Good x ∧ SrcOK (m + 3) a' s' := by
  have up : ∀ m' a' s', m' ≤ m + 3 → SrcOK m' a' s' → SrcOK (m + 3) a' s' := fun m' a' s' hm' h' => by unfold SrcOK at h' ⊢; omega
  obtain ⟨r, a1, s1, e1, r0, r1, h1⟩ := next_ok code hc m a s 4 (by omega) (by omega) h
  unfold spec_l00Src_token.f
  rw [e1]
  simp only [Option.bind_some]
  by_cases c0 : r = 0
  · obtain ⟨x, a2, s2, e2, hx, h2⟩ := pick_ok code hc (m + 1) a1 s1 (by omega) [(⟨#[110, 111, 100, 101]⟩ : ByteArray), (⟨#[118, 97, 108, 117, 101]⟩ : ByteArray), (⟨#[105, 100]⟩ : ByteArray), (⟨#[113, 117, 101, 114, 121]⟩ : ByteArray)] (by decide) h1
    obtain ⟨hn, hz⟩ := good_name _ (by rfl) x hx
    rw [if_pos c0, e2]
    exact ⟨⟨1, 0, x⟩, a2, s2, rfl, ⟨.inl ⟨.inl rfl, rfl, hn⟩, hz⟩, up _ _ _ (by omega) h2⟩
  rw [if_neg c0]
  by_cases c1 : r = 1
  · obtain ⟨v, a2, s2, e2, v0, v1, h2⟩ := next_ok code hc (m + 1) a1 s1 20 (by omega) (by omega) h1
    obtain ⟨q, a3, s3, e3, q0, q1, h3⟩ := next_ok code hc (m + 1 + 1) a2 s2 9 (by omega) (by omega) h2
    rw [if_pos c1, e2]
    simp only [Option.bind_some]
    rw [e3]
    simp only [Option.bind_some]
    have w1 : wrap64 (v - 5) = v - 5 := by unfold wrap64; omega
    rw [Int.tdiv_eq_ediv_of_nonneg q0, w1]
    have w2 : wrap64 (q / 4) = q / 4 := by unfold wrap64; omega
    rw [w2, if_pos (by omega), if_pos (by simp; omega)]
    refine ⟨⟨2, rd [v - 5, 2147483647, -2147483648] (q / 4), ⟨#[]⟩⟩, a3, s3, rfl, ⟨.inr (.inl ⟨rfl, ?_, by rw [lb_list]; rfl⟩), by show (0 : Nat) ≤ 8; omega⟩, up _ _ _ (by omega) h3⟩
    show -2147483648 ≤ rd [v - 5, 2147483647, -2147483648] (q / 4) ∧ rd [v - 5, 2147483647, -2147483648] (q / 4) ≤ 2147483647
    rcases (show q / 4 = 0 ∨ q / 4 = 1 ∨ q / 4 = 2 by omega) with e | e | e <;> rw [e]
    · show -2147483648 ≤ v - 5 ∧ v - 5 ≤ 2147483647
      omega
    · show (-2147483648 : Int) ≤ 2147483647 ∧ (2147483647 : Int) ≤ 2147483647
      omega
    · show (-2147483648 : Int) ≤ -2147483648 ∧ (-2147483648 : Int) ≤ 2147483647
      omega
  rw [if_neg c1]
  by_cases c2 : r = 2
  · obtain ⟨x, a2, s2, e2, hx, h2⟩ := pick_ok code hc (m + 1) a1 s1 (by omega) [(⟨#[120]⟩ : ByteArray), (⟨#[121]⟩ : ByteArray)] (by decide) h1
    obtain ⟨hn, hz⟩ := good_name _ (by rfl) x hx
    rw [if_pos c2, e2]
    exact ⟨⟨3, 0, x⟩, a2, s2, rfl, ⟨.inl ⟨.inr rfl, rfl, hn⟩, hz⟩, up _ _ _ (by omega) h2⟩
  rw [if_neg c2]
  obtain ⟨x, a2, s2, e2, hx, h2⟩ := pick_ok code hc (m + 1) a1 s1 (by omega) [(⟨#[123]⟩ : ByteArray), (⟨#[125]⟩ : ByteArray), (⟨#[40]⟩ : ByteArray), (⟨#[41]⟩ : ByteArray), (⟨#[58]⟩ : ByteArray), (⟨#[46, 46, 46]⟩ : ByteArray), (⟨#[64]⟩ : ByteArray), (⟨#[33]⟩ : ByteArray)] (by decide) h1
  have hn : IsPunct x.toList ∧ x.size ≤ 8 := by
    rw [lb_list]
    simp only [List.mem_cons, List.not_mem_nil, or_false] at hx
    rcases hx with rfl | rfl | rfl | rfl | rfl | rfl | rfl | rfl <;> exact ⟨by simp [IsPunct, Lb], by decide⟩
  rw [e2]
  exact ⟨⟨4, 0, x⟩, a2, s2, rfl, ⟨.inr (.inr ⟨rfl, rfl, hn.1⟩), hn.2⟩, up _ _ _ (by omega) h2⟩
theorem tokens_loop (code : List Int) (hc : CodeOK code) : ∀ (d : Nat) (m a s : Int) (x : List S29), d ≤ 11 → m + 3 * d ≤ 800000000 → x.length + d ≤ 1000 → SrcOK m a s →
    ∃ (l : List S29) (a' s' : Int), Ev (fun k => spec_l00Src_tokens.l0 k x (d : Int) code a s) (x ++ l, a', s') ∧ l.length ≤ d ∧ (∀ p ∈ l, Good p) := by
  intro d
  induction d with
  | zero =>
    intro m a s x _ _ _ h
    exact ⟨[], a, s, ev_now ⟨0, fun k _ => by simp only [spec_l00Src_tokens.l0]; rw [if_neg (by omega), List.append_nil]⟩, by simp, by simp⟩
  | succ d ih =>
    intro m a s x hd hm hx h
    obtain ⟨p, a1, s1, e1, hp, h1⟩ := token_ok code hc m a s (by omega) h
    obtain ⟨l, a2, s2, e2, hl, hps⟩ := ih (m + 3) a1 s1 (x ++ [p]) (by omega) (by omega) (by simp; omega) h1
    refine ⟨p :: l, a2, s2, ev_step ⟨0, fun k _ => ?_⟩ (by rw [List.append_assoc] at e2; exact e2), by simp; omega, fun q hq => ?_⟩
    · have w : wrap64 (((d + 1 : Nat) : Int) - 1) = (d : Int) := by unfold wrap64; omega
      conv => lhs; simp only [spec_l00Src_tokens.l0]
      rw [if_pos (by omega), e1]
      simp only [Option.bind_some]
      rw [if_pos (by omega), w]
    · rcases List.mem_cons.1 hq with rfl | hq
      · exact hp
      · exact hps q hq
theorem tokens_of (code : List Int) (hc : CodeOK code) : ∃ l : List S29, Ev (fun k => spec_TokensOf.f k code) l ∧ l.length ≤ 11 ∧ ∀ p ∈ l, Good p := by
  have h0 : SrcOK 0 0 ((code.length : Int) % 1000) := ⟨by omega, by omega, by omega, by omega⟩
  obtain ⟨r, a1, s1, e1, r0, r1, h1⟩ := next_ok code hc 0 0 _ 12 (by omega) (by omega) h0
  obtain ⟨n, rfl⟩ : ∃ n : Nat, r = (n : Int) := ⟨r.toNat, by omega⟩
  obtain ⟨l, a2, s2, e2, hl, hg⟩ := tokens_loop code hc n 1 a1 s1 [] (by omega) (by omega) (by simp; omega) (by simpa using h1)
  obtain ⟨K, hK⟩ := ev_at e2
  refine ⟨l, ev_mk K fun k hk => ?_, by omega, hg⟩
  unfold spec_TokensOf.f spec_l00Source.f
  simp only [Option.bind_some]
  unfold spec_l00Src_tokens.f
  rw [e1]
  simp only [Option.bind_some]
  rw [hK k hk]
  simp
theorem at_ok (more : List Int) (hc : CodeOK more) (i : Nat) (hi : i ≤ 1000) : ∃ q : Int, laws_at.f more (i : Int) 4 = some q ∧ 0 ≤ q ∧ q < 4 := by
  have hl := hc.1
  have fin : ∀ x : Int, 0 ≤ x → 0 ≤ Int.tmod x 4 ∧ Int.tmod x 4 < 4 := fun x hx => by
    rw [Int.tmod_eq_emod_of_nonneg hx]
    omega
  unfold laws_at.f
  rw [if_neg (by omega)]
  by_cases h0 : (more.length : Int) = 0
  · rw [if_pos h0, if_neg (by decide)]
    have w1 : wrap64 ((i : Int) * 7) = (i : Int) * 7 := by unfold wrap64; omega
    rw [w1]
    exact ⟨_, rfl, fin _ (by omega)⟩
  · have hp : (0 : Int) < (more.length : Int) := by omega
    have m1 : ∀ x : Int, 0 ≤ x → 0 ≤ Int.tmod x (more.length : Int) ∧ Int.tmod x (more.length : Int) < (more.length : Int) := fun x hx => by
      rw [Int.tmod_eq_emod_of_nonneg hx]
      exact ⟨Int.emod_nonneg _ (by omega), Int.emod_lt_of_pos _ hp⟩
    have w1 : wrap64 ((i : Int) + 1) = (i : Int) + 1 := by unfold wrap64; omega
    have a1 := m1 (i : Int) (by omega)
    have a2 := m1 ((i : Int) + 1) (by omega)
    rw [if_neg h0, if_pos a1.1, if_pos a1.2, w1, if_pos a2.1, if_pos a2.2, if_neg (by decide)]
    have b1 := code_rd more hc _ a1.1 a1.2
    have b2 := code_rd more hc _ a2.1 a2.2
    have d1 : 0 ≤ Int.tdiv (i : Int) (more.length : Int) ∧ Int.tdiv (i : Int) (more.length : Int) ≤ 1000 := by
      rw [Int.tdiv_eq_ediv_of_nonneg (by omega)]
      exact ⟨Int.ediv_nonneg (by omega) (by omega), Int.le_trans (Int.ediv_le_self _ (by omega)) (by omega)⟩
    generalize rd more (Int.tmod (i : Int) (more.length : Int)) = x at b1
    generalize rd more (Int.tmod ((i : Int) + 1) (more.length : Int)) = y at b2
    generalize Int.tdiv (i : Int) (more.length : Int) = z at d1
    have w2 : wrap64 x = x := by unfold wrap64; omega
    have w3 : wrap64 y = y := by unfold wrap64; omega
    have w4 : wrap64 z = z := by unfold wrap64; omega
    rw [w2, w3, w4]
    have w5 : wrap64 (x * 31) = x * 31 := by unfold wrap64; omega
    rw [w5]
    have w6 : wrap64 (x * 31 + y) = x * 31 + y := by unfold wrap64; omega
    rw [w6]
    have w7 : wrap64 (x * 31 + y + z) = x * 31 + y + z := by unfold wrap64; omega
    rw [w7]
    exact ⟨_, rfl, fin _ (by omega)⟩
end Go.Proofs.YtonofmbpjjckjaaGreatDoor.Pure2
namespace Go.Proofs.YtonofmbpjjckjaaGreatDoor.Pure2
open Go.RowKit Go.Proofs.YtonofmbpjjckjaaGreatDoor.Q Go.Proofs.YtonofmbpjjckjaaGreatDoorW.PrintWords Go.Proofs.YtonofmbpjjckjaaGreatDoorW.PrintLast
set_option linter.unusedVariables false
set_option linter.unusedSimpArgs false
def sepOf (q : Int) : ByteArray := rdOf ByteArray.empty [(⟨#[32]⟩ : ByteArray), (⟨#[44]⟩ : ByteArray), (⟨#[10]⟩ : ByteArray), (⟨#[32, 44, 32, 35, 32, 120, 10]⟩ : ByteArray)] q
theorem sep_in (q : Int) (h0 : 0 ≤ q) (h1 : q < 4) : Lb (sepOf q) ∈ SEPS ∧ (sepOf q).size ≤ 7 := by
  rcases (show q = 0 ∨ q = 1 ∨ q = 2 ∨ q = 3 by omega) with rfl | rfl | rfl | rfl
  · exact ⟨by show ([32] : List UInt8) ∈ SEPS; simp [SEPS], by show 1 ≤ 7; omega⟩
  · exact ⟨by show ([44] : List UInt8) ∈ SEPS; simp [SEPS], by show 1 ≤ 7; omega⟩
  · exact ⟨by show ([10] : List UInt8) ∈ SEPS; simp [SEPS], by show 1 ≤ 7; omega⟩
  · exact ⟨by show ([32, 44, 32, 35, 32, 120, 10] : List UInt8) ∈ SEPS; simp [SEPS], by show 7 ≤ 7; omega⟩
theorem good_text (x : S29) (h : Good x) : Ev (fun k => impl_TokenText.f k x.f0 x.f1 x.f2) (txt x, 0) ∧ Ev (fun k => impl_TokenOK.f k x.f0 x.f1 x.f2) true := by
  have hz : x.f2.size ≤ 1048576 := by have := h.2; omega
  obtain ⟨b, _, e, hb⟩ := token_agree x.f0 x.f1 x.f2 hz
  have hb' : b = true := hb.2 h.1
  subst hb'
  rename_i e0
  have ht := (txt_of x hz h.1).2.1
  obtain ⟨K, hK⟩ := ev_at e
  refine ⟨ev_mk K fun k hk => ?_, e⟩
  unfold impl_TokenText.f
  rw [hK k hk, Option.bind_some, if_pos rfl, ht]
  rfl
theorem law_l0 (more : List Int) (hm : CodeOK more) (J J' : ByteArray) (c c' : Int) (r : Bool) : ∀ (rest done : List S29) (wide : ByteArray), (∀ x ∈ rest, Good x) → done.length + rest.length ≤ 100 → wide.size + 27 * rest.length ≤ 100000 →
    ∃ (ps : List (S29 × List UInt8)) (wide' : ByteArray), ps.map Prod.fst = rest ∧ (∀ p ∈ ps, Good p.1 ∧ p.2 ∈ SEPS) ∧ Lb wide' = Lb wide ++ flat ps ∧
      (Ev (fun k => laws_FnLex.l0 k more (done ++ rest) J c J' wide' ((done.length + rest.length : Nat) : Int)) r → Ev (fun k => laws_FnLex.l0 k more (done ++ rest) J c J' wide (done.length : Int)) r)
  | [], done, wide, _, _, _ => ⟨[], wide, rfl, (fun _ h => nomatch h), by simp [flat], fun h => h⟩
  | x :: rest, done, wide, hg, hl, hw => by
    rw [List.length_cons] at hl hw
    have hx := hg x List.mem_cons_self
    obtain ⟨e1, e2⟩ := good_text x hx
    obtain ⟨q, hq, q0, q1⟩ := at_ok more hm done.length (by omega)
    obtain ⟨s1, s2⟩ := sep_in q q0 q1
    obtain ⟨b, z, hb, _, _, hz⟩ := txt_head x (by have := hx.2; omega) hx.1
    have hz2 := hx.2
    have hsz : (txt x ++ sepOf q).size = (txt x).size + (sepOf q).size := ByteArray.size_append ..
    have hwz : (wide ++ (txt x ++ sepOf q)).size = wide.size + (txt x ++ sepOf q).size := ByteArray.size_append ..
    obtain ⟨ps, wide', h1, h2, h3, h4⟩ := law_l0 more hm J J' c c' r rest (done ++ [x]) (wide ++ (txt x ++ sepOf q)) (fun y hy => hg y (List.mem_cons_of_mem _ hy)) (by simp; omega) (by omega)
    refine ⟨(x, Lb (sepOf q)) :: ps, wide', by rw [List.map_cons, h1], fun p hp => ?_, ?_, fun h => ?_⟩
    · rcases List.mem_cons.1 hp with rfl | hp
      · exact ⟨hx, s1⟩
      · exact h2 p hp
    · rw [h3, Lb_app, Lb_app]
      simp [flat]
    · have hlist : done ++ x :: rest = (done ++ [x]) ++ rest := by simp
      have hlen : (((done ++ [x]).length + rest.length : Nat) : Int) = ((done.length + (x :: rest).length : Nat) : Int) := by simp; omega
      have h5 := h4 (by rw [hlen, ← hlist]; exact h)
      rw [← hlist] at h5
      obtain ⟨K1, k1⟩ := ev_at e1
      obtain ⟨K2, k2⟩ := ev_at e2
      obtain ⟨K5, k5⟩ := ev_at h5
      have hne : ¬ ((txt x).size : Int) = 0 := by
        have := congrArg List.length hb
        rw [lb_len, List.length_cons] at this
        omega
      have hrd : rd_T29 (done ++ x :: rest) (done.length : Int) = x := by
        show (done ++ x :: rest).getD done.length z29 = _
        simp
      refine ev_mk (K1 + K2 + K5 + 1) fun k hk => ?_
      obtain ⟨j, rfl⟩ : ∃ j, k = j + 1 := ⟨k - 1, by omega⟩
      simp only [laws_FnLex.l0]
      rw [if_pos (by simp; omega), if_pos (by omega), hrd, k1 j (by omega)]
      simp only [Option.bind_some]
      rw [if_pos trivial, if_neg hne, k2 j (by omega)]
      simp only [Option.bind_some]
      rw [if_pos trivial, hq]
      simp only [Option.bind_some]
      rw [if_pos q0, if_pos (by show q < 4; omega)]
      show (if (txt x).size + (sepOf q).size ≤ 9223372036854775807 then (if wide.size + (txt x ++ sepOf q).size ≤ 9223372036854775807 then laws_FnLex.l0 j more (done ++ x :: rest) J c J' (wide ++ (txt x ++ sepOf q)) (wrap64 ((done.length : Int) + 1)) else none) else none) = some r
      rw [if_pos (by omega), if_pos (by omega)]
      have hi : wrap64 ((done.length : Int) + 1) = (((done ++ [x]).length : Nat) : Int) := by simp only [List.length_append, List.length_singleton]; unfold wrap64; omega
      rw [hi]
      exact k5 j (by omega)
theorem same_tok (x : S29) : ¬ ((!((x.f0 == x.f0)) || (!((x.f1 == x.f1)) || (!((x.f2.toList == x.f2.toList))))) = true) := by simp
theorem law_l1 (l : List S29) (hl : l.length ≤ 100) (J : ByteArray) (r : Bool) : ∀ (d n : Nat), n + d = l.length → Ev (fun k => laws_FnLex.l1 k l J l l (l.length : Int)) r → Ev (fun k => laws_FnLex.l1 k l J l l (n : Int)) r := by
  intro d
  induction d with
  | zero =>
    intro n h e
    rw [show n = l.length by omega]
    exact e
  | succ d ih =>
    intro n h e
    have hw := wnext (n := n) (by omega)
    refine ev_step ⟨0, fun k _ => ?_⟩ (ih (n + 1) (by omega) e)
    simp only [laws_FnLex.l1]
    rw [if_pos (by omega), if_pos (by omega), if_pos (by omega), if_neg (same_tok _), if_pos (by omega), if_neg (same_tok _), hw]
theorem code_ok (y : List Int) (hl : y.length ≤ 1048576) (h : ∀ x ∈ y, (Lit.int .u8 x).wf = true) : CodeOK y := by
  refine ⟨hl, fun x hx => ?_⟩
  have := h x hx
  simpa [Lit.wf, IntKind.min, IntKind.max, IntKind.bits, IntKind.signed] using this
theorem FnLex : laws_FnLex.Pure2 := by
  intro y0 y1 ⟨_, h0⟩ ⟨_, h1⟩
  by_cases c0 : (y0.length : Int) > 1048576
  · refine ⟨1, ?_⟩
    unfold laws_FnLex.f
    rw [if_pos c0]
    simp only [laws_FnLex.j0]
    rw [if_pos trivial]
  by_cases c1 : (y1.length : Int) > 1048576
  · refine ⟨1, ?_⟩
    unfold laws_FnLex.f
    rw [if_neg c0, decide_eq_true c1]
    simp only [laws_FnLex.j0]
    rw [if_pos trivial]
  obtain ⟨l, el, hl, hg⟩ := tokens_of y0 (code_ok y0 (by omega) h0)
  have hm := code_ok y1 (by omega) h1
  have hs : ∀ x ∈ l, x.f2.size ≤ 1048576 := fun x hx => by have := (hg x hx).2; omega
  obtain ⟨J, ej1, ej2, hJ⟩ := tokens_right l (by omega) hs (fun x hx => (hg x hx).1)
  obtain ⟨lx1, lx3, hJz⟩ := joined_reads l (by omega) hg J hJ
  have hW : (⟨#[32, 35, 32, 98, 101, 103, 105, 110, 10]⟩ : ByteArray).size = 9 := rfl
  obtain ⟨ps, wide, p1, p2, p3, p4⟩ := law_l0 y1 hm J J 0 0 true l [] (⟨#[32, 35, 32, 98, 101, 103, 105, 110, 10]⟩ : ByteArray) hg (by simp; omega) (by rw [hW]; omega)
  have hfl := flat_len ps p2
  have hpl : ps.length = l.length := by rw [← p1, List.length_map]
  have hwz : wide.size ≤ 400 := by
    rw [← lb_len, p3, List.length_append, lb_len, hW]
    omega
  have hskip : ∀ L : List UInt8, sk false ([32, 35, 32, 98, 101, 103, 105, 110, 10] ++ L) = ([32, 35, 32, 98, 101, 103, 105, 110, 10] : List UInt8).length + sk false L := fun L => by
    simp [sk, spc]; omega
  have lx2 : Ev (fun k => impl_Lex.f k wide) (l, 0) := lexed wide (by omega) _ (by
    rw [p3]
    refine rd_sep [32, 35, 32, 98, 101, 103, 105, 110, 10] (flat ps) [] _ (hskip _) ?_
    have h := rd_flat ps [] [] (l, 0) p2 (by simp; omega) (by rw [p1]; exact rd_end l)
    rw [List.append_nil] at h
    exact h)
  have fin1 : Ev (fun k => laws_FnLex.l1 k l J l l (l.length : Int)) true := by
    obtain ⟨K, hK⟩ := ev_at lx3
    refine ev_mk (K + 1) fun k hk => ?_
    obtain ⟨j, rfl⟩ : ∃ j, k = j + 1 := ⟨k - 1, by omega⟩
    simp only [laws_FnLex.l1]
    rw [if_neg (by omega), if_pos (by omega), hK j (by omega)]
    simp only [Option.bind_some]
    rw [if_pos trivial, impl_in1, impl_in1]
    rfl
  have e1 := law_l1 l (by omega) J true l.length 0 (by omega) fin1
  have e0 : Ev (fun k => laws_FnLex.l0 k y1 l J 0 J wide (l.length : Int)) true := by
    obtain ⟨K1, k1⟩ := ev_at lx1
    obtain ⟨K2, k2⟩ := ev_at lx2
    obtain ⟨K3, k3⟩ := ev_at e1
    refine ev_mk (K1 + K2 + K3 + 2) fun k hk => ?_
    obtain ⟨j, rfl⟩ : ∃ j, k = j + 2 := ⟨k - 2, by omega⟩
    simp only [laws_FnLex.l0]
    rw [if_neg (by omega), k1 (j + 1) (by omega)]
    simp only [Option.bind_some]
    rw [k2 (j + 1) (by omega)]
    simp only [Option.bind_some, if_true]
    simp only [laws_FnLex.j2]
    rw [if_neg (by simp)]
    exact k3 j (by omega)
  have e3 := p4 (by rw [List.nil_append, List.length_nil, Nat.zero_add]; exact e0)
  rw [List.nil_append] at e3
  obtain ⟨K0, k0⟩ := ev_at el
  obtain ⟨K3, k3⟩ := ev_at e3
  obtain ⟨b, eb, hb⟩ := any_wrong l hs
  have hb' : b = false := by
    cases b with
    | false => rfl
    | true =>
      obtain ⟨x, hx, hn⟩ := hb.1 rfl
      exact absurd (hg x hx).1 hn
  subst hb'
  obtain ⟨K4, k4⟩ := ev_at eb
  obtain ⟨K5, k5⟩ := ev_at ej1
  obtain ⟨K6, k6⟩ := ev_at ej2
  refine ⟨K0 + K3 + K4 + K5 + K6 + 1, ?_⟩
  unfold laws_FnLex.f
  rw [if_neg c0, decide_eq_false c1]
  simp only [laws_FnLex.j0]
  rw [if_neg (by simp), k0 _ (by omega)]
  simp only [Option.bind_some]
  have ei : ∀ k, K4 + K6 ≤ k → impl_JoinTokens.f k l = some (J, 0) := fun k hk => by
    unfold impl_JoinTokens.f impl_Token_14.f
    rw [show decide ((l.length : Int) ≤ 4096) = true from decide_eq_true (by omega), Option.bind_some, if_pos rfl, if_neg (by omega), k4 k (by omega), Option.bind_some, if_neg (by simp), k6 k (by omega)]
    rfl
  have es : ∀ k, K5 ≤ k → spec_JoinTokens.f k l = some (J, 0) := fun k hk => by
    unfold spec_JoinTokens.f
    rw [if_neg (by omega), if_neg (by omega)]
    exact k5 k hk
  rw [ei _ (by omega)]
  simp only [Option.bind_some]
  rw [es _ (by omega)]
  simp only [Option.bind_some]
  exact k3 _ (by omega)
end Go.Proofs.YtonofmbpjjckjaaGreatDoor.Pure2
