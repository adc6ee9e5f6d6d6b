/- Texts of the claim on FnExactKeysSince, gathered by a program of this session: what the program's functions compute (proved by walks), and the plain part. -/
import Derived.Test.YtkijkmmeilaljaaKFnExactKeysSincec
namespace Go.Proofs.Ytkijkmmeilaljaa.Pure2
open Go.RowKit Go.Proofs.Ytkijkmmeilaljaa.Q Go.Proofs.YtkijkmmeilaljaaW.PrintWords Go.Proofs.YtkijkmmeilaljaaW.PrintLast
set_option linter.unusedVariables false
set_option linter.unusedSimpArgs false
theorem keys_from (cs : List (List S61)) (now ts : Int) (hl : cs.length = 16) (hx : ∀ x ∈ cs, x.length ≤ 1048576) : ∀ (d j : Nat) (ys : List Int), j ≤ 16 → 16 - j = d → ys.length ≤ j →
    ∃ r : List Int × Int, Ev (fun k => spec_KeysSince.l0 k ts ys (j : Int) cs now) r ∧ Ev (fun k => impl_KeysSince.l0 k ts ys (j : Int) cs now) r ∧ r.1.length ≤ 16 := by
  intro d
  induction d with
  | zero =>
    intro j ys hj hd hy
    obtain rfl : j = 16 := by omega
    exact ⟨(ys, 0), ev_now ⟨0, fun k _ => by simp only [spec_KeysSince.l0]; rw [if_neg (by omega)]⟩, ev_now ⟨0, fun k _ => by simp only [impl_KeysSince.l0]; rw [if_neg (by omega)]⟩, hy⟩
  | succ d ih =>
    intro j ys hj hd hy
    obtain ⟨c, g1, g2⟩ := changed_some cs now (j : Int) ts hl (by omega) (by omega) hx
    cases c with
    | true =>
      obtain ⟨r, e1, e2, hr⟩ := ih (j + 1) (ys ++ [(j : Int)]) (by omega) (by omega) (by simp; omega)
      refine ⟨r, ev_step ⟨0, fun k _ => ?_⟩ e1, ev_step ⟨0, fun k _ => ?_⟩ e2, hr⟩
      · simp only [spec_KeysSince.l0]; rw [if_pos (by omega), g1]; simp only [Option.bind_some, if_true]; rw [if_pos (by omega), wsucc (n := 16) (by omega) (by omega)]
      · simp only [impl_KeysSince.l0]; rw [if_pos (by omega), g2]; simp only [Option.bind_some, if_true]; rw [if_pos (by omega), wsucc (n := 16) (by omega) (by omega)]
    | false =>
      obtain ⟨r, e1, e2, hr⟩ := ih (j + 1) ys (by omega) (by omega) (by omega)
      refine ⟨r, ev_step ⟨0, fun k _ => ?_⟩ e1, ev_step ⟨0, fun k _ => ?_⟩ e2, hr⟩
      · simp only [spec_KeysSince.l0]; rw [if_pos (by omega), g1]; simp only [Option.bind_some]; rw [if_neg (by simp), wsucc (n := 16) (by omega) (by omega)]
      · simp only [impl_KeysSince.l0]; rw [if_pos (by omega), g2]; simp only [Option.bind_some]; rw [if_neg (by simp), wsucc (n := 16) (by omega) (by omega)]
theorem keys_agree (cs : List (List S61)) (now ts : Int) (hx : ∀ x ∈ cs, x.length ≤ 1048576) :
    ∃ r : List Int × Int, Ev (fun k => spec_KeysSince.f k cs now ts) r ∧ Ev (fun k => impl_KeysSince.f k cs now ts) r ∧ r.1.length ≤ 16 := by
  obtain ⟨b, e1, e2, hb⟩ := stores_agree cs now hx
  obtain ⟨K1, h1⟩ := ev_at e1
  obtain ⟨K2, h2⟩ := ev_at e2
  cases b with
  | false =>
    refine ⟨([], 1), ev_mk K1 fun k hk => ?_, ev_mk K2 fun k hk => ?_, by simp⟩
    · unfold spec_KeysSince.f spec_l06Ask.f; rw [h1 k hk]; simp
    · unfold impl_KeysSince.f; rw [h2 k hk]; simp
  | true =>
    have hs := hb.1 rfl
    by_cases ht : 0 ≤ ts ∧ ts ≤ now
    · obtain ⟨r, f1, f2, hr⟩ := keys_from cs now ts hs.1 hx 16 0 [] (by omega) (by omega) (by simp)
      obtain ⟨K3, h3⟩ := ev_at f1
      obtain ⟨K4, h4⟩ := ev_at f2
      refine ⟨r, ev_mk (K1 + K3) fun k hk => ?_, ev_mk (K2 + K4) fun k hk => ?_, hr⟩
      · unfold spec_KeysSince.f spec_l06Ask.f; rw [h1 k (by omega), spec_in, spec_in]
        simp only [Option.bind_some, if_true, decide_eq_true ht, show decide ((0 : Int) ≤ 0 ∧ (0 : Int) ≤ 15) = true by decide]
        exact h3 k (by omega)
      · unfold impl_KeysSince.f impl_Store_isHour.f; rw [h2 k (by omega), impl_in]
        simp only [Option.bind_some, if_true, decide_eq_true ht]
        exact h4 k (by omega)
    · refine ⟨([], 4), ev_mk K1 fun k hk => ?_, ev_mk K2 fun k hk => ?_, by simp⟩
      · unfold spec_KeysSince.f spec_l06Ask.f; rw [h1 k hk, spec_in, spec_in]
        simp only [Option.bind_some, if_true, decide_eq_false ht, show decide ((0 : Int) ≤ 0 ∧ (0 : Int) ≤ 15) = true by decide]
        rfl
      · unfold impl_KeysSince.f impl_Store_isHour.f; rw [h2 k hk, impl_in]
        simp only [Option.bind_some, if_true, decide_eq_false ht]
        rfl
end Go.Proofs.Ytkijkmmeilaljaa.Pure2
namespace Go.Proofs.Ytkijkmmeilaljaa.Pure2
open Go.RowKit Go.Proofs.Ytkijkmmeilaljaa.Q Go.Proofs.YtkijkmmeilaljaaW.PrintWords Go.Proofs.YtkijkmmeilaljaaW.PrintLast
set_option linter.unusedVariables false
set_option linter.unusedSimpArgs false
theorem eq_ints (l : List Int) (hl : l.length ≤ 1048576) : Ev (fun k => laws_eqIntS.f k l l) true := by
  obtain ⟨r, hr, he⟩ := count_loop l.length (fun k i => laws_eqIntS.l0 k l l i) (fun _ r => r = true) ⟨true, rfl, ev_now ⟨0, fun k _ => by simp only [laws_eqIntS.l0]; rw [if_neg (by omega)]⟩⟩
    (fun j hj r hr he => ⟨r, hr, ev_step ⟨0, fun k _ => by simp only [laws_eqIntS.l0]; rw [if_pos (by omega), if_pos (by omega), if_pos (by omega), if_pos trivial, wsucc hj (by omega)]⟩ he⟩) 0 (by omega)
  subst hr
  exact ev_same ⟨0, fun k _ => by unfold laws_eqIntS.f; rw [if_pos rfl]; rfl⟩ he
/-! marks of whole numbers -/
def mkI (m : Int) (n : Nat) : List Int := (List.range n).map (fun (j : Nat) => m + (j : Int))
theorem mkI_len (m : Int) (n : Nat) : (mkI m n).length = n := by simp [mkI]
theorem mkI_at (m : Int) (n i : Nat) (h : i < n) : (mkI m n)[i]? = some (m + (i : Int)) := by simp [mkI, h]
theorem mark_ints (l : List Int) (m : Int) (h0 : 0 ≤ m) (hm : m ≤ 4611686018427387904) (hl : l.length ≤ 1048576) : Ev (fun k => laws_markIntS.f k l m) (m + (l.length : Int), mkI m l.length) := by
  obtain ⟨r, hr, he⟩ := state_loop l.length (fun k (s : List Int × Int) i => laws_markIntS.l0 k s.1 s.2 i) (fun j s => s.2 = m + (j : Int) ∧ s.1.length = l.length ∧ ∀ i, i < j → s.1[i]? = some (m + (i : Int))) (fun _ _ r => r = (m + (l.length : Int), mkI m l.length))
    (fun s hi => ⟨(s.2, s.1), by
      obtain ⟨h1, h2, h3⟩ := hi
      refine Prod.ext h1 (List.ext_getElem? fun i => ?_)
      by_cases h : i < l.length
      · rw [h3 i h, mkI_at m _ i h]
      · rw [List.getElem?_eq_none (show s.1.length ≤ i by omega), List.getElem?_eq_none (by rw [mkI_len]; omega)], ev_now ⟨0, fun k _ => by
        have h2 := hi.2.1
        simp only [laws_markIntS.l0]; rw [if_neg (by omega)]⟩⟩)
    (fun j s hj hi => by
      obtain ⟨h1, h2, h3⟩ := hi
      have hw : wrap64 (s.2 + 1) = s.2 + 1 := by unfold wrap64; omega
      refine .inr ⟨(s.1.set j s.2, s.2 + 1), ⟨by show s.2 + 1 = _; omega, by simp [h2], fun i hij => ?_⟩, fun r h => h, 0, fun k _ => ?_⟩
      · by_cases he : i = j
        · subst he
          rw [List.getElem?_set_self (by omega), h1]
        · rw [List.getElem?_set_ne (by omega)]
          exact h3 i (by omega)
      · simp only [laws_markIntS.l0]
        rw [if_pos (by omega), if_pos (by omega), hw, wsucc hj (by omega), Int.toNat_natCast]) 0 (l, m) (by omega) ⟨by show m = _; omega, rfl, fun i hi => by omega⟩
  subst hr
  exact ev_same ⟨0, fun k _ => by unfold laws_markIntS.f; rfl⟩ he
theorem held_ints (n : Nat) (m : Int) (h0 : 0 ≤ m) (hm : m ≤ 4611686018427387904) (hl : n ≤ 1048576) : Ev (fun k => laws_heldIntS.f k (mkI m n) m) (m + (n : Int)) := by
  have hlen := mkI_len m n
  obtain ⟨r, hr, he⟩ := state_loop n (fun k (s : Int) i => laws_heldIntS.l0 k (mkI m n) s i) (fun j s => s = m + (j : Int)) (fun _ _ r => r = m + (n : Int))
    (fun s hi => ⟨s, hi, ev_now ⟨0, fun k _ => by simp only [laws_heldIntS.l0]; rw [if_neg (by omega)]⟩⟩)
    (fun j s hj hi => by
      have hw : wrap64 (s + 1) = s + 1 := by unfold wrap64; omega
      have hg : rd (mkI m n) (j : Int) = m + (j : Int) := by
        show (mkI m n).getD j 0 = _
        rw [List.getD_eq_getElem?_getD, mkI_at m n j hj]; rfl
      refine .inr ⟨s + 1, by show s + 1 = _; omega, fun r h => h, 0, fun k _ => ?_⟩
      simp only [laws_heldIntS.l0]
      rw [if_pos (by omega), if_pos (by omega), hg, if_pos hi.symm, hw, wsucc hj (by omega)]) 0 m (by omega) (by omega)
  subst hr
  exact ev_same ⟨0, fun k _ => by unfold laws_heldIntS.f; rfl⟩ he
end Go.Proofs.Ytkijkmmeilaljaa.Pure2
namespace Go.Proofs.Ytkijkmmeilaljaa.Pure2
open Go.RowKit Go.Proofs.Ytkijkmmeilaljaa.Q Go.Proofs.YtkijkmmeilaljaaW.PrintWords Go.Proofs.YtkijkmmeilaljaaW.PrintLast
set_option linter.unusedVariables false
set_option linter.unusedSimpArgs false
theorem FnExactKeysSince : laws_FnExactKeysSince.Pure2 := by
  intro y ts hy _
  obtain ⟨r, he, hr⟩ := sz_store y 1048576 (by omega) (by omega) hy
  refine Ev.rounds (r := true) ?_
  obtain ⟨K1, h1⟩ := ev_at he
  rcases hr with hr | ⟨_, _, hs⟩
  · exact ev_mk K1 fun k hk => by unfold laws_FnExactKeysSince.f; rw [h1 k hk]; simp only [Option.bind_some]; rw [if_pos hr]
  · obtain ⟨K2, h2⟩ := ev_at (to_store y.f0 y.f1 hs)
    obtain ⟨⟨ks, c⟩, e1, e2, hk16⟩ := keys_agree (cvS y.f0) y.f1 ts (small_cv _ hs).2
    have hks : ks.length ≤ 1048576 := by have : ks.length ≤ 16 := hk16; omega
    obtain ⟨K3, h3⟩ := ev_at e1
    obtain ⟨K4, h4⟩ := ev_at e2
    obtain ⟨K5, h5⟩ := ev_at (eq_store (cvS y.f0) y.f1 (small_cv _ hs).1 (small_cv _ hs).2)
    obtain ⟨K6, h6⟩ := ev_at (eq_ints ks hks)
    obtain ⟨m, l', e7, hm⟩ := mark_store1 (cvS y.f0) y.f1 (small_cv _ hs).1 (small_cv _ hs).2
    obtain ⟨K7, h7⟩ := ev_at e7
    obtain ⟨K8, h8⟩ := ev_at (mark_ints ks 1 (by omega) (by omega) hks)
    obtain ⟨K9, h9⟩ := ev_at (held_ints ks.length 1 (by omega) (by omega) hks)
    refine ev_mk (K1 + K2 + K3 + K4 + K5 + K6 + K7 + K8 + K9 + 1) fun k hk => ?_
    unfold laws_FnExactKeysSince.f
    rw [h1 _ (by omega)]; simp only [Option.bind_some]; rw [if_neg (by omega), h2 _ (by omega)]; simp only [Option.bind_some]
    rw [h3 _ (by omega)]; simp only [Option.bind_some]; rw [h4 _ (by omega)]; simp only [Option.bind_some]
    rw [h6 _ (by omega)]; simp only [Option.bind_some, if_true]; rw [h5 _ (by omega)]; simp only [Option.bind_some, if_true]
    rw [h7 _ (by omega)]; simp only [Option.bind_some]; rw [if_pos (by omega)]
    rw [h8 _ (by omega)]; simp only [Option.bind_some]; rw [h9 _ (by omega)]; simp only [Option.bind_some]
    rw [if_pos (by omega)]; simp only [if_true]; rw [if_pos (by omega)]
end Go.Proofs.Ytkijkmmeilaljaa.Pure2
