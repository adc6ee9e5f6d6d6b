/- Texts of the claim on FnForget, gathered by a program of this session: what the program's functions compute (proved by walks), and the plain part. -/
import Derived.Test.YtfiboooflebdpaaKFnForgetd
namespace Go.Proofs.Ytfiboooflebdpaa.Pure2
open Go.RowKit Go.Proofs.Ytfiboooflebdpaa.Q Go.Proofs.YtfiboooflebdpaaW.PrintWords Go.Proofs.YtfiboooflebdpaaW.PrintLast
set_option linter.unusedVariables false
set_option linter.unusedSimpArgs false
/-! a store's copy -/
theorem clone_row (c : List S43) (h : c.length ≤ 1048576) : impl_Version.f c = some c := by
  unfold impl_Version.f
  rw [if_pos qa34]
theorem row_mem (cs : List (List S43)) (j : Nat) (h : j < cs.length) : cs.getD j [] ∈ cs := by rw [List.getD_eq_getElem?_getD, List.getElem?_eq_getElem h]; exact List.getElem_mem h
theorem take_next (cs : List (List S43)) (j : Nat) (h : j < cs.length) : cs.take (j + 1) = cs.take j ++ [cs.getD j []] := by
  rw [List.take_add_one, List.getElem?_eq_getElem h, List.getD_eq_getElem?_getD, List.getElem?_eq_getElem h]; rfl
theorem impl_copy (cs : List (List S43)) (now : Int) (hl : cs.length ≤ 1048576) (hx : ∀ x ∈ cs, x.length ≤ 1048576) : Ev (fun k => impl_copyStore.f k cs now) (cs, now) := by
  obtain ⟨r, hr, he⟩ := state_loop cs.length (fun k (s : List (List S43)) i => impl_copyStore.l0 k cs (cs.length : Int) i s now) (fun j s => s = cs.take j) (fun _ _ r => r = (cs, now))
    (fun s hi => ⟨(cs, now), rfl, ev_now ⟨0, fun k _ => by simp only [impl_copyStore.l0]; rw [if_neg qa34, hi, List.take_length]⟩⟩)
    (fun j s hj hi => by
      have hn : s.length = j := by rw [hi, List.length_take]; omega
      refine .inr ⟨cs.take (j + 1), rfl, fun r h => h, 0, fun k _ => ?_⟩; have e : impl_Version.f (rd_L4 cs (j : Int)) = some (cs.getD j []) := clone_row _ (hx _ (row_mem cs j hj)); simp only [impl_copyStore.l0]; rw [if_pos qa34, if_pos qa34, if_pos qa34, e]; simp only [Option.bind_some]; rw [if_pos qa34, wsucc hj qa34, take_next cs j hj, hi]) 0 [] qa34 rfl
  subst hr
  exact ev_same ⟨0, fun k _ => by unfold impl_copyStore.f; rfl⟩ he
theorem spec_own (cs : List (List S43)) (now : Int) (hl : cs.length ≤ 1048576) (hx : ∀ x ∈ cs, x.length ≤ 1048576) : Ev (fun k => spec_l06Own.f k cs now) (cs, now) := by
  obtain ⟨r, hr, he⟩ := state_loop cs.length (fun k (s : List (List S43)) i => spec_l06Own.l0 k i cs now s now) (fun j s => s = cs.take j) (fun _ _ r => r = (cs, now))
    (fun s hi => ⟨(cs, now), rfl, ev_now ⟨0, fun k _ => by simp only [spec_l06Own.l0]; rw [if_neg qa34, hi, List.take_length]⟩⟩)
    (fun j s hj hi => by
      have hn : s.length = j := by rw [hi, List.length_take]; omega
      refine .inr ⟨cs.take (j + 1), rfl, fun r h => h, 0, fun k _ => ?_⟩; have hd : rd_L4 cs (j : Int) = cs.getD j [] := rfl; have hc := hx _ (row_mem cs j hj); simp only [spec_l06Own.l0, Option.bind_some]; rw [if_pos qa34, if_pos qa34, hd, List.length_nil, if_pos qa34, if_pos qa34, wsucc hj qa34, take_next cs j hj, hi, List.nil_append]) 0 [] qa34 rfl
  subst hr
  exact ev_same ⟨0, fun k _ => by unfold spec_l06Own.f; rfl⟩ he
/-! what is forgotten -/
def gone (c : List S43) (low : Int) (g : Nat) : Nat := if h : g + 1 < c.length ∧ (c.getD (g + 1) z43).f0 ≤ low then gone c low (g + 1) else g
termination_by c.length - g
theorem gone_step (c : List S43) (low : Int) (g : Nat) (h : g + 1 < c.length ∧ (c.getD (g + 1) z43).f0 ≤ low) : gone c low g = gone c low (g + 1) := by
  rw [gone]; exact dif_pos h
theorem gone_stop (c : List S43) (low : Int) (g : Nat) (h : ¬ (g + 1 < c.length ∧ (c.getD (g + 1) z43).f0 ≤ low)) : gone c low g = g := by
  rw [gone]; exact dif_neg h
theorem gone_le (c : List S43) (low : Int) : ∀ (m g : Nat), c.length - g = m → g ≤ c.length → g ≤ gone c low g ∧ gone c low g ≤ c.length := by
  intro m
  induction m with
  | zero => intro g hm hg; rw [gone_stop c low g qa34]; omega
  | succ m ih =>
    intro g hm hg
    by_cases h : g + 1 < c.length ∧ (c.getD (g + 1) z43).f0 ≤ low
    · rw [gone_step c low g h]
      have := ih (g + 1) qa34 qa34
      omega
    · rw [gone_stop c low g h]; omega
def fgt (low : Int) (c : List S43) : List S43 := c.drop (gone c low 0)
theorem fgt_len (low : Int) (c : List S43) : (fgt low c).length ≤ c.length := by unfold fgt; rw [List.length_drop]; omega
def tot (cs : List (List S43)) (low : Int) (j : Nat) : Nat := ((cs.take j).map (fun c => gone c low 0)).sum
theorem tot_next (cs : List (List S43)) (low : Int) (j : Nat) (h : j < cs.length) : tot cs low (j + 1) = tot cs low j + gone (cs.getD j []) low 0 := by
  unfold tot
  rw [take_next cs j h]
  simp
theorem tot_le (cs : List (List S43)) (low : Int) (hx : ∀ x ∈ cs, x.length ≤ 1048576) : ∀ j, j ≤ cs.length → tot cs low j ≤ 1048576 * j := by
  intro j
  induction j with
  | zero => intro _; simp [tot]
  | succ j ih =>
    intro h; have := ih qa34; have := hx _ (row_mem cs j qa34); have := (gone_le (cs.getD j []) low _ 0 rfl qa34).2; rw [tot_next cs low j qa34]
    omega
theorem spec_inner (cs : List (List S43)) (now low : Int) (c : List S43) (hc : c.length ≤ 1048576) (j : Nat) (hj : j < 16) (n : Nat) (hn : n ≤ 33554432) (ys : List (List S43)) (hy : ys.length ≤ 16) (r : List (List S43) × Int × Int) : ∀ (m g : Nat), c.length - g = m → g ≤ c.length →
    Ev (fun k => spec_l06Forget.l0 k low ((n + gone c low g : Nat) : Int) ((j + 1 : Nat) : Int) cs now (ys ++ [c.drop (gone c low g)]) now) r → Ev (fun k => spec_l06Forget.l1 k low (n : Int) (j : Int) c (g : Int) cs now ys now) r := by
  intro m
  induction m with
  | zero =>
    intro g hm hg h; rw [gone_stop c low g qa34] at h; have hw : wrap64 ((g : Int) + 1) = ((g + 1 : Nat) : Int) := by unfold wrap64; omega
    have hw2 : wrap64 ((n : Int) + (g : Int)) = ((n + g : Nat) : Int) := by unfold wrap64; omega
    refine ev_step ⟨0, fun k _ => ?_⟩ h; simp only [spec_l06Forget.l1, Option.bind_some, List.nil_append, List.length_nil, Nat.zero_add, List.length_drop, Int.toNat_natCast]; rw [hw, if_neg qa34, if_pos qa34, if_pos qa34, if_pos qa34, if_pos qa34, hw2, wsucc (n := 16) hj qa34]
  | succ m ih =>
    intro g hm hg h; have hw : wrap64 ((g : Int) + 1) = ((g + 1 : Nat) : Int) := by unfold wrap64; omega
    have hw2 : wrap64 ((n : Int) + (g : Int)) = ((n + g : Nat) : Int) := by unfold wrap64; omega
    have hd : rd_T43 c ((g + 1 : Nat) : Int) = c.getD (g + 1) z43 := rfl
    by_cases h1 : g + 1 < c.length
    · by_cases h2 : (c.getD (g + 1) z43).f0 ≤ low
      · rw [gone_step c low g ⟨h1, h2⟩] at h
        refine ev_step ⟨0, fun k _ => ?_⟩ (ih (g + 1) qa34 qa34 h)
        conv => lhs; simp only [spec_l06Forget.l1]
        rw [hw, if_pos qa34, if_pos qa34, hd, if_pos h2]
      · rw [gone_stop c low g (fun h3 => h2 h3.2)] at h
        refine ev_step ⟨0, fun k _ => ?_⟩ h; simp only [spec_l06Forget.l1, Option.bind_some, List.nil_append, List.length_nil, Nat.zero_add, List.length_drop, Int.toNat_natCast]; rw [hw, if_pos qa34, if_pos qa34, hd, if_neg h2, if_pos qa34, if_pos qa34, if_pos qa34, if_pos qa34, hw2, wsucc (n := 16) hj qa34]
    · rw [gone_stop c low g (fun h3 => h1 h3.1)] at h
      refine ev_step ⟨0, fun k _ => ?_⟩ h; simp only [spec_l06Forget.l1, Option.bind_some, List.nil_append, List.length_nil, Nat.zero_add, List.length_drop, Int.toNat_natCast]; rw [hw, if_neg qa34, if_pos qa34, if_pos qa34, if_pos qa34, if_pos qa34, hw2, wsucc (n := 16) hj qa34]
theorem spec_forget (cs : List (List S43)) (now low : Int) (hl : cs.length = 16) (hx : ∀ x ∈ cs, x.length ≤ 1048576) : Ev (fun k => spec_l06Forget.f k cs now low) (cs.map (fgt low), now, (tot cs low 16 : Int)) := by
  have key : ∀ d j, j ≤ 16 → 16 - j = d → Ev (fun k => spec_l06Forget.l0 k low (tot cs low j : Int) (j : Int) cs now ((cs.take j).map (fgt low)) now) (cs.map (fgt low), now, (tot cs low 16 : Int)) := by
    intro d
    induction d with
    | zero =>
      intro j hj hd; obtain rfl : j = 16 := by omega
      exact ev_now ⟨0, fun k _ => by simp only [spec_l06Forget.l0]; rw [if_neg qa34, List.take_of_length_le qa34]⟩
    | succ d ih =>
      intro j hj hd; have h := ih (j + 1) qa34 qa34; have ht := tot_le cs low hx j qa34; have hc := hx _ (row_mem cs j qa34); have hr : rd_L4 cs (j : Int) = cs.getD j [] := rfl; rw [tot_next cs low j qa34, take_next cs j qa34, List.map_append] at h; refine ev_step ⟨0, fun k _ => ?_⟩ (spec_inner cs now low (cs.getD j []) hc j qa34 (tot cs low j) qa34 ((cs.take j).map (fgt low)) (by rw [List.length_map, List.length_take]; omega) _ _ 0 rfl qa34 h)
      conv => lhs; simp only [spec_l06Forget.l0]
      rw [if_pos qa34, if_pos qa34, if_pos qa34, hr]
      rfl
  have h := key 16 0 qa34 qa34
  exact ev_same ⟨0, fun k _ => by unfold spec_l06Forget.f; rfl⟩ h
theorem impl_inner (now low : Int) (c : List S43) (hc : c.length ≤ 1048576) (j : Nat) (hj : j < 16) (n : Nat) (hn : n ≤ 33554432) (ys : List (List S43)) (hy : ys.length = 16) (r : List (List S43) × Int × Int) : ∀ (m g : Nat), c.length - g = m → g ≤ c.length →
    Ev (fun k => impl_Store_forget.l0 k low ((n + gone c low g : Nat) : Int) 16 ((j + 1 : Nat) : Int) (ys.set j (c.drop (gone c low g))) now) r → Ev (fun k => impl_Store_forget.l1 k low (n : Int) (j : Int) c (g : Int) 16 (j : Int) ys now) r := by
  intro m; have cl : ∀ g : Nat, impl_Version.f (c.drop g) = some (c.drop g) := fun g => clone_row _ (by rw [List.length_drop]; omega)
  induction m with
  | zero =>
    intro g hm hg h; rw [gone_stop c low g qa34] at h; have hw : wrap64 ((g : Int) + 1) = ((g + 1 : Nat) : Int) := by unfold wrap64; omega
    have hw2 : wrap64 ((n : Int) + (g : Int)) = ((n + g : Nat) : Int) := by unfold wrap64; omega
    refine ev_step ⟨0, fun k _ => ?_⟩ h; simp only [impl_Store_forget.l1, Int.toNat_natCast]; rw [hw, if_neg qa34, if_pos qa34, if_pos qa34, cl]; simp only [Option.bind_some]; rw [if_pos qa34, if_pos qa34, hw2, wsucc (n := 16) hj qa34]
  | succ m ih =>
    intro g hm hg h; have hw : wrap64 ((g : Int) + 1) = ((g + 1 : Nat) : Int) := by unfold wrap64; omega
    have hw2 : wrap64 ((n : Int) + (g : Int)) = ((n + g : Nat) : Int) := by unfold wrap64; omega
    have hd : rd_T43 c ((g + 1 : Nat) : Int) = c.getD (g + 1) z43 := rfl
    by_cases h1 : g + 1 < c.length
    · by_cases h2 : (c.getD (g + 1) z43).f0 ≤ low
      · rw [gone_step c low g ⟨h1, h2⟩] at h
        refine ev_step ⟨0, fun k _ => ?_⟩ (ih (g + 1) qa34 qa34 h)
        conv => lhs; simp only [impl_Store_forget.l1]
        rw [hw, if_pos qa34, if_pos qa34, hd, if_pos h2]
      · rw [gone_stop c low g (fun h3 => h2 h3.2)] at h
        refine ev_step ⟨0, fun k _ => ?_⟩ h; simp only [impl_Store_forget.l1, Int.toNat_natCast]; rw [hw, if_pos qa34, if_pos qa34, hd, if_neg h2, if_pos qa34, if_pos qa34, cl]; simp only [Option.bind_some]; rw [if_pos qa34, if_pos qa34, hw2, wsucc (n := 16) hj qa34]
    · rw [gone_stop c low g (fun h3 => h1 h3.1)] at h
      refine ev_step ⟨0, fun k _ => ?_⟩ h; simp only [impl_Store_forget.l1, Int.toNat_natCast]; rw [hw, if_neg qa34, if_pos qa34, if_pos qa34, cl]; simp only [Option.bind_some]; rw [if_pos qa34, if_pos qa34, hw2, wsucc (n := 16) hj qa34]
theorem impl_forget (cs : List (List S43)) (now low : Int) (hl : cs.length = 16) (hx : ∀ x ∈ cs, x.length ≤ 1048576) : Ev (fun k => impl_Store_forget.f k cs now low) (cs.map (fgt low), now, (tot cs low 16 : Int)) := by
  have key : ∀ d j (ys : List (List S43)), j ≤ 16 → 16 - j = d → ys.length = 16 → (∀ i, i < j → ys[i]? = (cs.map (fgt low))[i]?) → (∀ i, j ≤ i → ys[i]? = cs[i]?) →
      Ev (fun k => impl_Store_forget.l0 k low (tot cs low j : Int) 16 (j : Int) ys now) (cs.map (fgt low), now, (tot cs low 16 : Int)) := by
    intro d
    induction d with
    | zero =>
      intro j ys hj hd hy h1 h2; obtain rfl : j = 16 := by omega
      have e : ys = cs.map (fgt low) := List.ext_getElem? fun i => by
        by_cases h : i < 16
        · exact h1 i h
        · rw [List.getElem?_eq_none qa34, List.getElem?_eq_none (by simp; omega)]
      exact ev_now ⟨0, fun k _ => by simp only [impl_Store_forget.l0]; rw [if_neg qa34, e]⟩
    | succ d ih =>
      intro j ys hj hd hy h1 h2; have ht := tot_le cs low hx j qa34; have hc := hx _ (row_mem cs j qa34)
      have hr : rd_L4 ys (j : Int) = cs.getD j [] := by
        show ys.getD j [] = _
        rw [List.getD_eq_getElem?_getD, List.getD_eq_getElem?_getD, h2 j (Nat.le_refl _)]
      have h := ih (j + 1) (ys.set j (fgt low (cs.getD j []))) qa34 qa34 (by simp [hy]) (fun i hi => by
        by_cases he : i = j
        · subst he
          rw [List.getElem?_set_self qa34, List.getElem?_map, List.getElem?_eq_getElem qa34, List.getD_eq_getElem?_getD, List.getElem?_eq_getElem qa34]; rfl
        · rw [List.getElem?_set_ne qa34]; exact h1 i qa34) (fun i hi => by rw [List.getElem?_set_ne qa34]; exact h2 i qa34)
      rw [tot_next cs low j qa34] at h; refine ev_step ⟨0, fun k _ => ?_⟩ (impl_inner now low (cs.getD j []) hc j qa34 (tot cs low j) qa34 ys hy _ _ 0 rfl qa34 h)
      conv => lhs; simp only [impl_Store_forget.l0]
      rw [if_pos qa34, if_pos qa34, if_pos qa34, hr]
      rfl
  obtain ⟨K1, e1⟩ := ev_at (impl_copy cs now qa34 hx); obtain ⟨K2, e2⟩ := ev_at (key 16 0 cs qa34 qa34 hl (fun i hi => by omega) (fun i _ => rfl)); refine ev_mk (K1 + K2) fun k hk => ?_
  unfold impl_Store_forget.f
  rw [e1 k qa34]; simp only [Option.bind_some, hl]
  exact e2 k qa34
theorem ask_forget (cs : List (List S43)) (now low : Int) (hx : ∀ x ∈ cs, x.length ≤ 1048576) :
    ∃ r : List (List S43) × Int × Int × Int, Ev (fun k => spec_Forget.f k cs now low) r ∧ Ev (fun k => impl_Forget.f k cs now low) r ∧ r.1.length ≤ 1048576 ∧ ∀ x ∈ r.1, x.length ≤ 1048576 := by
  obtain ⟨b, e1, e2, hb⟩ := stores_agree cs now hx; obtain ⟨K1, h1⟩ := ev_at e1; obtain ⟨K2, h2⟩ := ev_at e2
  cases b with
  | false =>
    refine ⟨([], 0, 0, 1), ev_mk K1 fun k hk => ?_, ev_mk K2 fun k hk => ?_, qa119, qa119⟩
    · unfold spec_Forget.f spec_l06Ask.f; rw [h1 k hk]; simp
    · unfold impl_Forget.f; rw [h2 k hk]; simp
  | true =>
    have hs := hb.1 rfl
    by_cases ht : 0 ≤ low ∧ low ≤ now
    · obtain ⟨K3, h3⟩ := ev_at (spec_forget cs now low hs.1 hx)
      obtain ⟨K4, h4⟩ := ev_at (impl_forget cs now low hs.1 hx); refine ⟨(cs.map (fgt low), now, (tot cs low 16 : Int), 0), ev_mk (K1 + K3) fun k hk => ?_, ev_mk (K2 + K4) fun k hk => ?_, by show (cs.map (fgt low)).length ≤ _; rw [List.length_map, hs.1]; omega, fun x hx' => ?_⟩
      · unfold spec_Forget.f spec_l06Ask.f; rw [h1 k qa34, spec_in, spec_in]
        simp only [Option.bind_some, if_true, decide_eq_true ht, show decide ((0 : Int) ≤ 0 ∧ (0 : Int) ≤ 15) = true by decide]; rw [h3 k qa34]; rfl
      · unfold impl_Forget.f impl_Store_isHour.f; rw [h2 k qa34, impl_in]
        simp only [Option.bind_some, if_true, decide_eq_true ht]; rw [h4 k qa34]; rfl
      · obtain ⟨c, hc, rfl⟩ := List.mem_map.1 hx'
        exact Nat.le_trans (fgt_len low c) (hx c hc)
    · refine ⟨([], 0, 0, 4), ev_mk K1 fun k hk => ?_, ev_mk K2 fun k hk => ?_, qa119, qa119⟩
      · unfold spec_Forget.f spec_l06Ask.f; rw [h1 k hk, spec_in, spec_in]
        simp only [Option.bind_some, if_true, decide_eq_false ht, show decide ((0 : Int) ≤ 0 ∧ (0 : Int) ≤ 15) = true by decide]
        rfl
      · unfold impl_Forget.f impl_Store_isHour.f; rw [h2 k hk, impl_in]
        simp only [Option.bind_some, if_true, decide_eq_false ht]
        rfl
end Go.Proofs.Ytfiboooflebdpaa.Pure2
namespace Go.Proofs.Ytfiboooflebdpaa.Q
open Go.RowKit Go.Proofs.YtfiboooflebdpaaW.PrintWords Go.Proofs.YtfiboooflebdpaaW.PrintLast Go.Proofs.YtfiboooflebdpaaW.PrintMore
attribute [local go_sem] max2_int min2_int max_two min_two max_three min_three max_four min_four
set_option linter.unusedVariables false
set_option linter.unusedSimpArgs false

def spec_l06Read.l0 : Nat → Int → Int → Int → Int → List (List (S43)) → Int → Option (Int)
 | 0, _, _, _, _, _, _ => none
 | k + 1, x1, x2, x7, x8, x102000, x102001 => if 0 ≤ x1 then (if x1 < (x102000.length : Int) then (if x8 < ((rd_L4 x102000 x1).length : Int) then (if 0 ≤ x8 then (if ((rd_T43 (rd_L4 x102000 x1) x8).f0) ≤ x2 then (spec_l06Read.l0 k x1 x2 ((rd_T43 (rd_L4 x102000 x1) x8).f1) (wrap64 (x8 + 1)) x102000 x102001) else (spec_l06Read.l0 k x1 x2 x7 (wrap64 (x8 + 1)) x102000 x102001)) else (none)) else (some x7)) else (none)) else (none)
def spec_l06Read.f (k : Nat) (l0_0 : List (List (S43))) (a0_1 : Int) (a1 : Int) (a2 : Int) : Option (Int) := spec_l06Read.l0 k a1 a2 0 0 l0_0 a0_1
set_option maxHeartbeats 8000000 in
set_option maxRecDepth 100000 in
theorem spec_l06Read.calls (k : Nat) (A0_0 : Option Addr) (c0_0 : Nat) (l0_0 : List (List (S43))) (a0_1 : Int) (a1 : Int) (a2 : Int) (r : Int) (w : World) (hr0_0 : Kd.C (Kd.slice 43 k43) w A0_0 l0_0.length l0_0) (hc0_0 : l0_0.length ≤ c0_0) (h : spec_l06Read.f k l0_0 a0_1 a1 a2 = some r) :
  Calls Try.prog 126 #[.agg #[.slice A0_0 l0_0.length c0_0, .int .i64 a0_1], .int .i64 a1, .int .i64 a2] w fun e w' => e = .returned (.int .i64 r) ∧ Below w.heap.size w w' := by
 have hu28 := Try.underlying28; have HR0_0 := qO hr0_0; have HC0_0 := qO hc0_0; clear hr0_0 hc0_0; have HB := qO (Below.refl w.heap.size w); have H : (spec_l06Read.l0 k a1 a2 0 0 l0_0 a0_1) = some r := h; clear h; have H' := qO H; clear H
 go_enter Try.func126, Try.ntmps126
 go_wp2_with (first | ((with_reducible refine gate_dst (N := 3) rfl ?_); refine qX 3 #[.slice A0_0 l0_0.length c0_0, .int .i64 a0_1] 28 ?_; intro gb101 hg w4 hbox hb; have hx_ := qHX HB hb qa1; have BK101 := qO (hbox); have GW101 := qO ((qa20 : w.heap.size ≤ gb101)); have GE101 := GW101; replace HB := qO (below_step (below_step HB.out hx_) hb); clear hx_ hb hbox hg))
 go_loopg [7, 8] k (fun kq v7 v8 w' => ∃ (x7_1 : Int) (x8_1 : Int), v7 = .int .i64 x7_1 ∧ v8 = .int .i64 x8_1 ∧ Aside0 (spec_l06Read.l0 kq a1 a2 x7_1 x8_1 l0_0 a0_1 = some r) ∧ Aside0 (kq ≤ k) ∧ Aside0 (w'.heap[gb101]? = some (.cells #[(.slice A0_0 l0_0.length c0_0), .int .i64 a0_1] 28 (0, 0))) ∧ Aside0 (Below w.heap.size w w'))
 case atStart => exact ⟨(0), (0), qa16, qa16, H', ⟨Nat.le_refl _⟩, ⟨qa4⟩, ⟨qa9⟩⟩
 case round =>
  clear H'
  try clear c1
  try clear p2
  obtain ⟨x7_1, x8_1, rfl, rfl, HA, HK1, BK101, HB⟩ := hrel
  cases gk with
  | zero => exact absurd HA.out (by simp [spec_l06Read.l0])
  | succ k1 =>
   have H := HA.out; clear HA; simp only [spec_l06Read.l0] at H
   by_cases c5 : 0 ≤ a1
   ·rw [if_pos c5] at H
    have c5b0 : decide (0 ≤ a1) = true := decide_eq_true c5; clear c5
    by_cases c6 : a1 < (l0_0.length : Int)
    ·rw [if_pos c6] at H
     have c6b0 : decide (a1 < (l0_0.length : Int)) = true := decide_eq_true c6; clear c6
     by_cases c7 : x8_1 < ((rd_L4 l0_0 a1).length : Int)
     ·rw [if_pos c7] at H
      have c7b0 : decide (x8_1 < ((rd_L4 l0_0 a1).length : Int)) = true := decide_eq_true c7; clear c7
      by_cases c8 : 0 ≤ x8_1
      ·rw [if_pos c8] at H
       have c8b0 : decide (0 ≤ x8_1) = true := decide_eq_true c8; clear c8
       by_cases c9 : ((rd_T43 (rd_L4 l0_0 a1) x8_1).f0) ≤ a2
       ·rw [if_pos c9] at H
        have c9b0 : decide (((rd_T43 (rd_L4 l0_0 a1) x8_1).f0) ≤ a2) = true := decide_eq_true c9; clear c9; have H' := qO H; clear H; obtain ⟨hcz10_0, hcz10_1, hfz10_0, hfz10_1⟩ := qb2 BK101.out; have p102 : 0 ≤ (a1 : Int) := qT qa2; have q102 : a1 < (l0_0.length : Int) := qT qa2; obtain ⟨ad102, A102_0, c102_0, e102, hx102_0, hl102_0, hi102_0⟩ := at_L4 HR0_0.out a1 p102 q102
        cases e102
        replace hx102_0 := (HB.out.cell (qL w _ hx102_0)).trans hx102_0; have HR102_0 := qO hi102_0; have HC102_0 := qO hl102_0; clear hi102_0 hl102_0; replace p102 := eq_true p102; replace q102 := eq_true q102; have p103 : 0 ≤ (a1 : Int) := qT qa2; have q103 : a1 < (l0_0.length : Int) := qT qa2; obtain ⟨ad103, A103_0, c103_0, e103, hx103_0, hl103_0, hi103_0⟩ := at_L4 HR0_0.out a1 p103 q103; obtain rfl : ad102 = ad103 := qa200; replace hx103_0 := (HB.out.cell (qL w _ hx103_0)).trans hx103_0; have HR103_0 := qO hi103_0; have HC103_0 := qO hl103_0; clear hi103_0 hl103_0; replace p103 := eq_true p103; replace q103 := eq_true q103; have ea_ := Option.some.inj (hx102_0.symm.trans hx103_0); injection ea_ with ea_ en_ ec_; subst ea_; subst ec_; clear en_; have p104 : 0 ≤ (x8_1 : Int) := qT qa2; have q104 : x8_1 < ((rd_L4 l0_0 a1).length : Int) := qT qa2; obtain ⟨ad104, e104, hx104_0, hx104_1⟩ := at_T43 HR103_0.out x8_1 p104 q104
        cases e104
        replace hx104_0 := (HB.out.cell (qL w _ hx104_0)).trans hx104_0; replace hx104_1 := (HB.out.cell (qL w _ hx104_1)).trans hx104_1; replace p104 := eq_true p104; replace q104 := eq_true q104; have p105 : 0 ≤ (a1 : Int) := qT qa2; have q105 : a1 < (l0_0.length : Int) := qT qa2; obtain ⟨ad105, A105_0, c105_0, e105, hx105_0, hl105_0, hi105_0⟩ := at_L4 HR0_0.out a1 p105 q105; obtain rfl : ad102 = ad105 := (by injection e105); replace hx105_0 := (HB.out.cell (qL w _ hx105_0)).trans hx105_0; have HR105_0 := qO hi105_0; have HC105_0 := qO hl105_0; clear hi105_0 hl105_0; replace p105 := eq_true p105; replace q105 := eq_true q105; have ea_ := Option.some.inj (hx102_0.symm.trans hx105_0); injection ea_ with ea_ en_ ec_; subst ea_; subst ec_; clear en_; have p106 : 0 ≤ (x8_1 : Int) := qT qa2; have q106 : x8_1 < ((rd_L4 l0_0 a1).length : Int) := qT qa2; obtain ⟨ad106, e106, hx106_0, hx106_1⟩ := at_T43 HR105_0.out x8_1 p106 q106
        cases e106
        replace hx106_0 := (HB.out.cell (qL w _ hx106_0)).trans hx106_0; replace hx106_1 := (HB.out.cell (qL w _ hx106_1)).trans hx106_1; replace p106 := eq_true p106; replace q106 := eq_true q106; go_wp2
        go_roundg k1
        case measure => have := HK1.out; omega
        case rel => exact ⟨((rd_T43 (rd_L4 l0_0 a1) x8_1).f1), (wrap64 (x8_1 + 1)), qa16, qa16, H', ⟨qa155⟩, ⟨qa4⟩, ⟨qa9⟩⟩
       ·rw [if_neg c9] at H
        have c9b0 : decide (((rd_T43 (rd_L4 l0_0 a1) x8_1).f0) ≤ a2) = false := decide_eq_false c9; clear c9; have H' := qO H; clear H; obtain ⟨hcz11_0, hcz11_1, hfz11_0, hfz11_1⟩ := qb2 BK101.out; have p102 : 0 ≤ (a1 : Int) := qT qa2; have q102 : a1 < (l0_0.length : Int) := qT qa2; obtain ⟨ad102, A102_0, c102_0, e102, hx102_0, hl102_0, hi102_0⟩ := at_L4 HR0_0.out a1 p102 q102
        cases e102
        replace hx102_0 := (HB.out.cell (qL w _ hx102_0)).trans hx102_0; have HR102_0 := qO hi102_0; have HC102_0 := qO hl102_0; clear hi102_0 hl102_0; replace p102 := eq_true p102; replace q102 := eq_true q102; have p103 : 0 ≤ (a1 : Int) := qT qa2; have q103 : a1 < (l0_0.length : Int) := qT qa2; obtain ⟨ad103, A103_0, c103_0, e103, hx103_0, hl103_0, hi103_0⟩ := at_L4 HR0_0.out a1 p103 q103; obtain rfl : ad102 = ad103 := qa200; replace hx103_0 := (HB.out.cell (qL w _ hx103_0)).trans hx103_0; have HR103_0 := qO hi103_0; have HC103_0 := qO hl103_0; clear hi103_0 hl103_0; replace p103 := eq_true p103; replace q103 := eq_true q103; have ea_ := Option.some.inj (hx102_0.symm.trans hx103_0); injection ea_ with ea_ en_ ec_; subst ea_; subst ec_; clear en_; have p104 : 0 ≤ (x8_1 : Int) := qT qa2; have q104 : x8_1 < ((rd_L4 l0_0 a1).length : Int) := qT qa2; obtain ⟨ad104, e104, hx104_0, hx104_1⟩ := at_T43 HR103_0.out x8_1 p104 q104
        cases e104
        replace hx104_0 := (HB.out.cell (qL w _ hx104_0)).trans hx104_0; replace hx104_1 := (HB.out.cell (qL w _ hx104_1)).trans hx104_1; replace p104 := eq_true p104; replace q104 := eq_true q104; go_wp2
        go_roundg k1
        case measure => have := HK1.out; omega
        case rel => exact ⟨(x7_1), (wrap64 (x8_1 + 1)), qa16, qa16, H', ⟨qa155⟩, ⟨qa4⟩, ⟨qa9⟩⟩
      ·rw [if_neg c8] at H
       exact absurd H qa119
     ·rw [if_neg c7] at H
      have c7b0 : decide (x8_1 < ((rd_L4 l0_0 a1).length : Int)) = false := decide_eq_false c7; clear c7; obtain rfl := Option.some.inj H; obtain ⟨hcz12_0, hcz12_1, hfz12_0, hfz12_1⟩ := qb2 BK101.out; have p102 : 0 ≤ (a1 : Int) := qT qa2; have q102 : a1 < (l0_0.length : Int) := qT qa2; obtain ⟨ad102, A102_0, c102_0, e102, hx102_0, hl102_0, hi102_0⟩ := at_L4 HR0_0.out a1 p102 q102
      cases e102
      replace hx102_0 := (HB.out.cell (qL w _ hx102_0)).trans hx102_0; have HR102_0 := qO hi102_0; have HC102_0 := qO hl102_0; clear hi102_0 hl102_0; replace p102 := eq_true p102; replace q102 := eq_true q102; go_wp2
      go_ret
      exact ⟨qa10, qa9⟩
    ·rw [if_neg c6] at H
     exact absurd H qa119
   ·rw [if_neg c5] at H
    exact absurd H qa119

end Go.Proofs.Ytfiboooflebdpaa.Q
namespace Go.Proofs.Ytfiboooflebdpaa.Pure2
open Go.RowKit Go.Proofs.Ytfiboooflebdpaa.Q Go.Proofs.YtfiboooflebdpaaW.PrintWords Go.Proofs.YtfiboooflebdpaaW.PrintLast
set_option linter.unusedVariables false
set_option linter.unusedSimpArgs false
/-! what a chain tells at an hour -/
def lastVal (c : List S43) (ts : Int) : Nat → Int
  | 0 => 0
  | j + 1 => if (c.getD j z43).f0 ≤ ts then (c.getD j z43).f1 else lastVal c ts j
theorem back_val (c : List S43) (ts : Int) : ∀ (m : Nat) (h : Nat → Int), (match ((List.range m).map (fun k => (h k, c.getD (m - 1 - k) z43))).find? (fun p => decide (p.2.f0 ≤ ts)) with | some p => p.2.f1 | none => 0) = lastVal c ts m := by
  intro m
  induction m with
  | zero => intro h; rfl
  | succ m ih =>
    intro h
    have e : (List.range (m + 1)).map (fun k => (h k, c.getD (m + 1 - 1 - k) z43)) = (h 0, c.getD m z43) :: (List.range m).map (fun k => ((fun k => h (k + 1)) k, c.getD (m - 1 - k) z43)) := by
      rw [List.range_succ_eq_map, List.map_cons, List.map_map]
      congr 1
      refine List.map_congr_left fun k _ => ?_
      show (h (k + 1), c.getD (m + 1 - 1 - (k + 1)) z43) = _
      rw [show m + 1 - 1 - (k + 1) = m - 1 - k by omega]
    rw [e, List.find?_cons]
    unfold lastVal
    by_cases hc : (c.getD m z43).f0 ≤ ts
    · simp only [hc, decide_true, if_true]
    · simp only [hc, decide_false, if_false]
      exact ih _
theorem val_last (c : List S43) (ts : Int) : bw.val c ts = lastVal c ts c.length := back_val c ts c.length (fun k => ((c.length - 1 - k : Nat) : Int))
theorem read_agree (cs : List (List S43)) (now key ts : Int) (hl : cs.length = 16) (h0 : 0 ≤ key) (h1 : key ≤ 15) (hx : ∀ x ∈ cs, x.length ≤ 1048576) :
    Ev (fun k => spec_l06Read.f k cs now key ts) (bw.val (rd_L4 cs key) ts) ∧ impl_Store_readAt.f cs now key ts = some (bw.val (rd_L4 cs key) ts) := by
  refine ⟨?_, by unfold impl_Store_readAt.f; rw [if_pos h0, if_pos (by omega)]⟩
  have hc : (rd_L4 cs key).length ≤ 1048576 := by
    refine hx _ ?_
    show cs.getD key.toNat [] ∈ cs
    rw [List.getD_eq_getElem?_getD, List.getElem?_eq_getElem qa34]
    exact List.getElem_mem qa34
  rw [val_last]
  obtain ⟨r, hr, he⟩ := state_loop (rd_L4 cs key).length (fun k (v : Int) i => spec_l06Read.l0 k key ts v i cs now) (fun j v => v = lastVal (rd_L4 cs key) ts j) (fun _ _ r => r = lastVal (rd_L4 cs key) ts (rd_L4 cs key).length)
    (fun v hi => ⟨v, hi, ev_now ⟨0, fun k _ => by simp only [spec_l06Read.l0]; rw [if_pos h0, if_pos qa34, if_neg qa34]⟩⟩)
    (fun j v hj hi => by
      have hd : rd_T43 (rd_L4 cs key) (j : Int) = (rd_L4 cs key).getD j z43 := rfl; refine .inr ⟨lastVal (rd_L4 cs key) ts (j + 1), rfl, fun r h => h, 0, fun k _ => ?_⟩; simp only [spec_l06Read.l0]; rw [if_pos h0, if_pos qa34, if_pos qa34, if_pos qa34, hd, wsucc hj qa34]
      unfold lastVal
      by_cases hcmp : ((rd_L4 cs key).getD j z43).f0 ≤ ts
      · rw [if_pos hcmp, if_pos hcmp]
      · rw [if_neg hcmp, if_neg hcmp, hi]) 0 0 qa34 rfl
  subst hr
  exact ev_same ⟨0, fun k _ => by unfold spec_l06Read.f; rfl⟩ he
/-! chains that are right: their hours rise; what they tell at an hour -/
theorem getD_at {α : Type} (c : List α) (z : α) (j : Nat) (hj : j < c.length) : c.getD j z = c[j] := by rw [List.getD_eq_getElem?_getD, List.getElem?_eq_getElem hj]; rfl
def Rw (now : Int) (key : Nat) (c : List S43) : Prop := c.Pairwise (fun a b => a.f0 < b.f0) ∧ ∀ v ∈ c, 1 ≤ v.f0 ∧ v.f0 ≤ now ∧ fitsB key v.f1 = true
theorem rw_of (now : Int) (key : Nat) (c : List S43) (h : ∀ j, j < c.length → VerOK now key c j) : Rw now key c := by
  have up : ∀ j, ∀ i, i < j → j < c.length → (c.getD i z43).f0 < (c.getD j z43).f0 := by
    intro j
    induction j with
    | zero => intro i hi; omega
    | succ j ih =>
      intro i hi hj; have h1 := (h (j + 1) hj).2.2.2 qa34; rw [Nat.add_sub_cancel] at h1
      rcases Nat.lt_or_eq_of_le (Nat.le_of_lt_succ hi) with h2 | rfl
      · have := ih i h2 qa34; omega
      · exact h1
  refine ⟨List.pairwise_iff_getElem.2 fun i j hi hj hij => ?_, fun v hv => ?_⟩
  · have := up j i hij hj
    rw [getD_at c _ i hi, getD_at c _ j hj] at this
    exact this
  · obtain ⟨j, hj, rfl⟩ := List.getElem_of_mem hv
    have := h j hj
    unfold VerOK at this
    rw [getD_at c _ j hj] at this
    exact ⟨this.1, this.2.1, this.2.2.1⟩
theorem of_rw (now : Int) (key : Nat) (c : List S43) (h : Rw now key c) : ∀ j, j < c.length → VerOK now key c j := by
  intro j hj; have hm := h.2 c[j] (List.getElem_mem hj)
  unfold VerOK
  rw [getD_at c _ j hj]; refine ⟨hm.1, hm.2.1, hm.2.2, fun h0 => ?_⟩; rw [getD_at c _ (j - 1) qa34]
  exact List.pairwise_iff_getElem.1 h.1 (j - 1) j qa34 hj qa34
theorem store_rw (cs : List (List S43)) (now : Int) : IsStore cs now ↔ cs.length = 16 ∧ 0 ≤ now ∧ now ≤ 100000 ∧ ∀ i, i < 16 → Rw now i (cs.getD i []) :=
  ⟨fun h => ⟨h.1, h.2.1, h.2.2.1, fun i hi => rw_of now i _ (h.2.2.2 i hi)⟩, fun h => ⟨h.1, h.2.1, h.2.2.1, fun i hi => of_rw now i _ (h.2.2.2 i hi)⟩⟩
theorem new_store : IsStore (List.replicate 16 []) 0 := by
  refine ⟨qa119, qa34, qa34, fun i hi j hj => ?_⟩; rw [List.getD_eq_getElem?_getD, List.getElem?_replicate] at hj
  simp [hi] at hj
/-- What a chain tells at an hour. -/
def vl (c : List S43) (ts : Int) : Int := match (c.filter (fun v => decide (v.f0 ≤ ts))).getLast? with | some v => v.f1 | none => 0
theorem vl_snoc (c : List S43) (v : S43) (ts : Int) : vl (c ++ [v]) ts = if v.f0 ≤ ts then v.f1 else vl c ts := by
  unfold vl
  rw [List.filter_append]
  by_cases h : v.f0 ≤ ts
  · rw [if_pos h, List.filter_cons_of_pos (by simpa using h)]; simp
  · rw [if_neg h, List.filter_cons_of_neg (by simpa using h)]; simp
theorem vl_app (a b : List S43) (ts : Int) (h : ∃ x ∈ b, x.f0 ≤ ts) : vl (a ++ b) ts = vl b ts := by
  obtain ⟨x, hx, hts⟩ := h
  unfold vl
  rw [List.filter_append, List.getLast?_append]; have hne : b.filter (fun v => decide (v.f0 ≤ ts)) ≠ [] := List.ne_nil_of_mem (List.mem_filter.2 ⟨hx, by simpa using hts⟩); rw [List.getLast?_eq_some_getLast hne]
  rfl
theorem vl_same (c : List S43) (ts us : Int) (h1 : ∀ x ∈ c, x.f0 ≤ ts) (h2 : ∀ x ∈ c, x.f0 ≤ us) : vl c ts = vl c us := by
  unfold vl
  rw [List.filter_congr (q := fun v => decide (v.f0 ≤ us)) (fun x hx => by rw [decide_eq_true (h1 x hx), decide_eq_true (h2 x hx)])]
theorem last_vl (c : List S43) (ts : Int) : ∀ j, j ≤ c.length → lastVal c ts j = vl (c.take j) ts := by
  intro j
  induction j with
  | zero => intro _; rfl
  | succ j ih =>
    intro hj; rw [List.take_add_one, List.getElem?_eq_getElem (show j < c.length by omega)]
    show _ = vl (c.take j ++ [c[j]]) ts
    rw [vl_snoc, ← ih qa34]
    show (if _ then _ else _) = _
    rw [getD_at c _ j qa34]
theorem val_vl (c : List S43) (ts : Int) : bw.val c ts = vl c ts := by
  rw [val_last, last_vl c ts c.length (Nat.le_refl _), List.take_length]
/-! what both read of a right store -/
theorem read_right (cs : List (List S43)) (now : Int) (h : IsStore cs now) (hx : ∀ x ∈ cs, x.length ≤ 1048576) (key : Nat) (ts : Int) (hk : key < 16) (h0 : 0 ≤ ts) (h1 : ts ≤ now) :
    Ev (fun k => impl_ReadAt.f k cs now (key : Int) ts) (vl (cs.getD key []) ts, 0) := by
  obtain ⟨b, e1, e2, hb⟩ := stores_agree cs now hx; obtain ⟨K2, h2⟩ := ev_at e2; rw [hb.2 h] at h2; have g2 := (read_agree cs now (key : Int) ts h.1 qa34 qa34 hx).2; have hd : rd_L4 cs (key : Int) = cs.getD key [] := rfl; rw [hd, val_vl] at g2; refine ev_mk K2 fun k hk' => ?_
  unfold impl_ReadAt.f impl_isKey.f impl_Store_isHour.f
  rw [h2 k hk', impl_in, impl_in, g2]; simp only [Option.bind_some, if_true, decide_eq_true (show (0 : Int) ≤ (key : Int) ∧ (key : Int) ≤ 15 by omega), decide_eq_true (show 0 ≤ ts ∧ ts ≤ now from ⟨h0, h1⟩)]
theorem ok_right (cs : List (List S43)) (now : Int) (h : IsStore cs now) (hx : ∀ x ∈ cs, x.length ≤ 1048576) : Ev (fun k => impl_StoreOK.f k cs now) true := by
  obtain ⟨b, e1, e2, hb⟩ := stores_agree cs now hx; rw [hb.2 h] at e2
  exact e2
theorem same_right (cs ds : List (List S43)) (na nb : Int) (ha : IsStore cs na) (hb : IsStore ds nb) (hxa : ∀ x ∈ cs, x.length ≤ 1048576) (hxb : ∀ x ∈ ds, x.length ≤ 1048576) (he : ∀ i, i < 16 → vl (cs.getD i []) na = vl (ds.getD i []) nb) :
    Ev (fun k => impl_SameAt.f k cs na ds nb) (true, 0) := by
  have key : ∀ (d j : Nat), j ≤ 16 → 16 - j = d → Ev (fun k => impl_sameNow.l0 k (j : Int) cs na ds nb) true := by
    intro d
    induction d with
    | zero =>
      intro j hj hd; obtain rfl : j = 16 := by omega
      exact ev_now ⟨0, fun k _ => by simp only [impl_sameNow.l0]; rw [if_neg qa34]⟩
    | succ d ih =>
      intro j hj hd; have g2 := (read_agree cs na (j : Int) na ha.1 qa34 qa34 hxa).2; have f2 := (read_agree ds nb (j : Int) nb hb.1 qa34 qa34 hxb).2
      have hv : bw.val (rd_L4 cs (j : Int)) na = bw.val (rd_L4 ds (j : Int)) nb := by
        have hd1 : rd_L4 cs (j : Int) = cs.getD j [] := rfl; have hd2 : rd_L4 ds (j : Int) = ds.getD j [] := rfl; rw [hd1, hd2, val_vl, val_vl]
        exact he j qa34
      refine ev_step ⟨0, fun k _ => ?_⟩ (ih (j + 1) qa34 qa34); simp only [impl_sameNow.l0]; rw [if_pos qa34, g2]; simp only [Option.bind_some]; rw [f2]; simp only [Option.bind_some]; rw [if_pos hv, wsucc (n := 16) qa34 qa34]
  obtain ⟨K1, h1⟩ := ev_at (ok_right cs na ha hxa); obtain ⟨K2, h2⟩ := ev_at (ok_right ds nb hb hxb); obtain ⟨K3, h3⟩ := ev_at (key 16 0 qa34 qa34); refine ev_mk (K1 + K2 + K3) fun k hk => ?_
  have h3' : impl_sameNow.l0 k 0 cs na ds nb = some true := h3 k qa34
  unfold impl_SameAt.f impl_sameNow.f
  rw [h1 k qa34]; simp only [Option.bind_some, if_true]; rw [h2 k qa34]; simp only [Option.bind_some, if_true]; rw [h3']; rfl
/-! one store is the same as itself, told by the laws -/
theorem same_store (cs : List (List S43)) (now : Int) (hl : cs.length = 16) (hx : ∀ x ∈ cs, x.length ≤ 1048576) : Ev (fun k => laws_sameStore.f k cs now cs now) true := by
  have key : ∀ (d j : Nat), j ≤ 16 → 16 - j = d → Ev (fun k => laws_sameStore.l0 k (j : Int) cs now cs now) true := by
    intro d
    induction d with
    | zero =>
      intro j hj hd; obtain rfl : j = 16 := by omega
      exact ev_now ⟨0, fun k _ => by simp only [laws_sameStore.l0]; rw [if_neg qa34]⟩
    | succ d ih =>
      intro j hj hd; have hn := ih (j + 1) qa34 qa34; have hd' : rd_L4 cs (j : Int) = cs.getD j [] := rfl; have hm := hx _ (row_mem cs j qa34)
      have inner : ∀ (e i : Nat), i ≤ (cs.getD j []).length → (cs.getD j []).length - i = e → Ev (fun k => laws_sameStore.l1 k (j : Int) (i : Int) cs now cs now) true := by
        intro e
        induction e with
        | zero =>
          intro i hi he; refine ev_step ⟨0, fun k _ => ?_⟩ hn; simp only [laws_sameStore.l1]; rw [if_pos qa34, if_pos qa34, hd', if_neg qa34, wsucc (n := 16) qa34 qa34]
        | succ e ih2 =>
          intro i hi he; refine ev_step ⟨0, fun k _ => ?_⟩ (ih2 (i + 1) qa34 qa34)
          conv => lhs; simp only [laws_sameStore.l1]
          rw [if_pos qa34, if_pos qa34, hd', if_pos qa34, if_pos qa34, if_pos qa34, if_pos qa34, if_neg qa119, wsucc (n := (cs.getD j []).length) qa34 qa34]
      refine ev_step ⟨0, fun k _ => ?_⟩ (inner _ 0 qa34 rfl)
      conv => lhs; simp only [laws_sameStore.l0]
      rw [if_pos qa34, if_pos qa34, if_pos qa34]; simp only [if_true]
      rfl
  refine ev_step (f := fun k => laws_sameStore.l0 k 0 cs now cs now) ⟨0, fun k _ => ?_⟩ (key 16 0 qa34 qa34)
  unfold laws_sameStore.f
  rw [if_pos rfl]; simp only [laws_sameStore.j0, bne_self_eq_false]; rw [if_neg qa119]
end Go.Proofs.Ytfiboooflebdpaa.Pure2
namespace Go.Proofs.Ytfiboooflebdpaa.Q
open Go.RowKit Go.Proofs.YtfiboooflebdpaaW.PrintWords Go.Proofs.YtfiboooflebdpaaW.PrintLast Go.Proofs.YtfiboooflebdpaaW.PrintMore
attribute [local go_sem] max2_int min2_int max_two min_two max_three min_three max_four min_four
set_option linter.unusedVariables false
set_option linter.unusedSimpArgs false

def impl_isPut.f (a0_0 : Int) (a0_1 : Int) : Option (Bool) := (impl_isKey.f a0_0).bind fun t102 => (if t102 = true then ((impl_fits.f a0_0 a0_1).bind fun t103 => (some t103)) else (some false))
set_option maxHeartbeats 8000000 in
set_option maxRecDepth 100000 in
theorem impl_isPut.calls (a0_0 : Int) (a0_1 : Int) (r : Bool) (w : World) (h : impl_isPut.f a0_0 a0_1 = some r) :
  Calls Try.prog 84 #[.agg #[.int .i64 a0_0, .int .i64 a0_1]] w fun e w' => e = .returned (.bool r) ∧ Below w.heap.size w w' := by
 have hu58 := Try.underlying58; have HB := qO (Below.refl w.heap.size w); have H : ((impl_isKey.f a0_0).bind fun t102 => (if t102 = true then ((impl_fits.f a0_0 a0_1).bind fun t103 => (some t103)) else (some false))) = some r := h; clear h; replace H := Option.bind_eq_some_iff.mp H; obtain ⟨t102, A20, H⟩ := H; replace H : (if t102 = true then ((impl_fits.f a0_0 a0_1).bind fun t103 => (some t103)) else (some false)) = some r := H; have A2 := qO A20; clear A20
 by_cases c3 : t102 = true
 ·subst c3
  have H1 : ((impl_fits.f a0_0 a0_1).bind fun t103 => (some t103)) = some r := by rw [if_pos rfl] at H; exact H
  clear H; have H := H1; clear H1; replace H := Option.bind_eq_some_iff.mp H; obtain ⟨t103, A40, H⟩ := H; replace H : (some t103) = some r := H; have A4 := qO A40; clear A40; obtain rfl := Option.some.inj H
  go_enter Try.func84, Try.ntmps84
  go_wp2_with (first | ((with_reducible refine gate_dst (N := 1) rfl ?_); refine qX 1 #[.int .i64 a0_0, .int .i64 a0_1] 58 ?_; intro gb101 hg w5 hbox hb; have hx_ := qHX HB hb qa1; have BK101 := qO (hbox); have GW101 := qO ((qa20 : w.heap.size ≤ gb101)); have GE101 := GW101; replace HB := qO (below_step (below_step HB.out hx_) hb); clear hx_ hb hbox hg; obtain ⟨hcz6_0, hcz6_1, hfz6_0, hfz6_1⟩ := qb2 BK101.out) | ((with_reducible refine gate_callee (f := 67) rfl ?_); refine goesL_ (some 5) rfl rfl Try.func67 qa6 rfl #[.int .i64 a0_0] rfl qa0 ?_; (with_reducible refine (impl_isKey.calls a0_0 true _ A2.out).mono ?_); rintro e w' ⟨rfl, ⟨nd, rfl⟩⟩; refine ⟨_, rfl, ?_⟩) | (go_at_call 66; (with_reducible refine (impl_fits.calls a0_0 a0_1 t103 _ A4.out).mono ?_); rintro e w' ⟨rfl, ⟨nd, rfl⟩⟩))
  go_ret
  exact ⟨qa10, qa9⟩
 ·replace c3 := Bool.eq_false_iff.mpr c3
  subst c3; have H1 : (some false) = some r := by rw [if_neg (show ¬ (false = true) by decide)] at H; exact H
  clear H; have H := H1; clear H1; obtain rfl := Option.some.inj H
  go_enter Try.func84, Try.ntmps84
  go_wp2_with (first | ((with_reducible refine gate_dst (N := 1) rfl ?_); refine qX 1 #[.int .i64 a0_0, .int .i64 a0_1] 58 ?_; intro gb101 hg w7 hbox hb; have hx_ := qHX HB hb qa1; have BK101 := qO (hbox); have GW101 := qO ((qa20 : w.heap.size ≤ gb101)); have GE101 := GW101; replace HB := qO (below_step (below_step HB.out hx_) hb); clear hx_ hb hbox hg; obtain ⟨hcz8_0, hcz8_1, hfz8_0, hfz8_1⟩ := qb2 BK101.out) | ((with_reducible refine gate_callee (f := 67) rfl ?_); refine goesL_ (some 5) rfl rfl Try.func67 qa6 rfl #[.int .i64 a0_0] rfl qa0 ?_; (with_reducible refine (impl_isKey.calls a0_0 false _ A2.out).mono ?_); rintro e w' ⟨rfl, ⟨nd, rfl⟩⟩; refine ⟨_, rfl, ?_⟩))
  go_ret
  exact ⟨qa10, qa9⟩


def impl_arePuts_1.f (a0_0 : Int) (a0_1 : Int) : Option (Bool) := (impl_isPut.f a0_0 a0_1).bind fun t102 => (some (!t102))
set_option maxHeartbeats 8000000 in
set_option maxRecDepth 100000 in
theorem impl_arePuts_1.calls (a0_0 : Int) (a0_1 : Int) (r : Bool) (w : World) (h : impl_arePuts_1.f a0_0 a0_1 = some r) :
  Calls Try.prog 115 #[.agg #[.int .i64 a0_0, .int .i64 a0_1]] w fun e w' => e = .returned (.bool r) ∧ Below w.heap.size w w' := by
 have hu58 := Try.underlying58; have HB := qO (Below.refl w.heap.size w); have H : ((impl_isPut.f a0_0 a0_1).bind fun t102 => (some (!t102))) = some r := h; clear h; replace H := Option.bind_eq_some_iff.mp H; obtain ⟨t102, A20, H⟩ := H; replace H : (some (!t102)) = some r := H; have A2 := qO A20; clear A20; obtain rfl := Option.some.inj H
 go_enter Try.func115, Try.ntmps115
 go_wp2_with (first | ((with_reducible refine gate_dst (N := 1) rfl ?_); refine qX 1 #[.int .i64 a0_0, .int .i64 a0_1] 58 ?_; intro gb101 hg w3 hbox hb; have hx_ := qHX HB hb qa1; have BK101 := qO (hbox); have GW101 := qO ((qa20 : w.heap.size ≤ gb101)); have GE101 := GW101; replace HB := qO (below_step (below_step HB.out hx_) hb); clear hx_ hb hbox hg; obtain ⟨hcz4_0, hcz4_1, hfz4_0, hfz4_1⟩ := qb2 BK101.out) | ((with_reducible refine gate_callee (f := 84) rfl ?_); refine goesL_ (some 4) rfl rfl Try.func84 qa6 rfl #[.agg #[.int .i64 a0_0, .int .i64 a0_1]] rfl qa0 ?_; (with_reducible refine (impl_isPut.calls a0_0 a0_1 t102 _ A2.out).mono ?_); rintro e w5 ⟨rfl, hb⟩; have hx_ := qHX HB hb qa1; refine ⟨_, rfl, ?_⟩; replace BK101 := qO (qB BK101.out hx_ hb); replace HB := qO (below_step (below_step HB.out hx_) hb); clear hx_; (try clear hb); (try clear hb2); (try clear hk); (try clear hi)))
 go_ret
 exact ⟨qa10, qa9⟩


def spec_l06Puts.l0 : Nat → List (S58) → Int → Option (Bool)
 | 0, _, _ => none
 | k + 1, x0, x3 => if x3 < (x0.length : Int) then (if 0 ≤ x3 then ((spec_l01In.f ((rd_T58 x0 x3).f0) 0 15).bind fun t102 => (if t102 = true then ((spec_l06Value.f ((rd_T58 x0 x3).f0) ((rd_T58 x0 x3).f1)).bind fun t105 => (if t105 = true then (spec_l06Puts.l0 k x0 (wrap64 (x3 + 1))) else (some false))) else (some false))) else (none)) else (some (decide ((x0.length : Int) ≤ 400)))
def spec_l06Puts.f (k : Nat) (l0 : List (S58)) : Option (Bool) := spec_l06Puts.l0 k l0 0
set_option maxHeartbeats 8000000 in
set_option maxRecDepth 100000 in
theorem spec_l06Puts.calls (k : Nat) (A0 : Option Addr) (c0 : Nat) (l0 : List (S58)) (r : Bool) (w : World) (hr0 : Kd.C k58 w A0 l0.length l0) (hc0 : l0.length ≤ c0) (h : spec_l06Puts.f k l0 = some r) :
  Calls Try.prog 71 #[.slice A0 l0.length c0] w fun e w' => e = .returned (.bool r) ∧ Drawn0 w w' := by
 have HR0 := qO hr0; have HC0 := qO hc0; clear hr0 hc0; have H : (spec_l06Puts.l0 k l0 0) = some r := h; clear h; have H' := qO H; clear H
 go_enter Try.func71, Try.ntmps71
 go_wp2
 repeat (go_quiet (fail); try go_wp2)
 go_loopg [3] k (fun kq v3 w' => ∃ (x3_1 : Int), v3 = .int .i64 x3_1 ∧ Aside0 (spec_l06Puts.l0 kq l0 x3_1 = some r) ∧ Aside0 (kq ≤ k) ∧ Drawn0 w w')
 case atStart => exact ⟨(0), qa16, H', ⟨Nat.le_refl _⟩, qa82⟩
 case round =>
  clear H'; obtain ⟨x3_1, rfl, HA, HK1, ⟨m1, rfl⟩⟩ := hrel
  cases gk with
  | zero => exact absurd HA.out (by simp [spec_l06Puts.l0])
  | succ k1 =>
   have H := HA.out; clear HA; simp only [spec_l06Puts.l0] at H
   by_cases c2 : x3_1 < (l0.length : Int)
   ·rw [if_pos c2] at H
    have c2b0 : decide (x3_1 < (l0.length : Int)) = true := decide_eq_true c2; clear c2
    by_cases c3 : 0 ≤ x3_1
    ·rw [if_pos c3] at H
     have c3b0 : decide (0 ≤ x3_1) = true := decide_eq_true c3; clear c3; replace H := Option.bind_eq_some_iff.mp H; obtain ⟨t102, A40, H⟩ := H; replace H : (if t102 = true then ((spec_l06Value.f ((rd_T58 l0 x3_1).f0) ((rd_T58 l0 x3_1).f1)).bind fun t105 => (if t105 = true then (spec_l06Puts.l0 k1 l0 (wrap64 (x3_1 + 1))) else (some false))) else (some false)) = some r := H; have A4 := qO A40; clear A40
     by_cases c5 : t102 = true
     ·subst c5
      have H1 : ((spec_l06Value.f ((rd_T58 l0 x3_1).f0) ((rd_T58 l0 x3_1).f1)).bind fun t105 => (if t105 = true then (spec_l06Puts.l0 k1 l0 (wrap64 (x3_1 + 1))) else (some false))) = some r := by rw [if_pos rfl] at H; exact H
      clear H; have H := H1; clear H1; replace H := Option.bind_eq_some_iff.mp H; obtain ⟨t105, A60, H⟩ := H; replace H : (if t105 = true then (spec_l06Puts.l0 k1 l0 (wrap64 (x3_1 + 1))) else (some false)) = some r := H; have A6 := qO A60; clear A60
      by_cases c7 : t105 = true
      ·subst c7
       have H1 : (spec_l06Puts.l0 k1 l0 (wrap64 (x3_1 + 1))) = some r := by rw [if_pos rfl] at H; exact H
       clear H; have H := H1; clear H1; have H' := qO H; clear H; have p101 : 0 ≤ (x3_1 : Int) := qT qa2; have q101 : x3_1 < (l0.length : Int) := qT qa2; obtain ⟨ad101, e101, hx101_0, hx101_1⟩ := at_T58 HR0.out x3_1 p101 q101
       cases e101
       replace p101 := eq_true p101; replace q101 := eq_true q101
       go_wp2_with (first | (go_at_call 96; (with_reducible refine (spec_l01In.calls ((rd_T58 l0 x3_1).f0) 0 15 true _ A4.out).mono ?_); rintro e w' ⟨rfl, ⟨nd, rfl⟩⟩; (try first | exact ⟨rfl, _, World.drewN_drewN _ _ _⟩ | exact ⟨rfl, _, Eq.trans (World.drewN_drewN _ _ _) (congrArg (World.drewN _) (Nat.add_assoc _ _ _))⟩); have p103 : 0 ≤ (x3_1 : Int) := qT qa2; have q103 : x3_1 < (l0.length : Int) := qT qa2; obtain ⟨ad103, e103, hx103_0, hx103_1⟩ := at_T58 HR0.out x3_1 p103 q103; obtain rfl : ad101 = ad103 := qa200; replace p103 := eq_true p103; replace q103 := eq_true q103; have p104 : 0 ≤ (x3_1 : Int) := qT qa2; have q104 : x3_1 < (l0.length : Int) := qT qa2; obtain ⟨ad104, e104, hx104_0, hx104_1⟩ := at_T58 HR0.out x3_1 p104 q104; obtain rfl : ad101 = ad104 := qa191; replace p104 := eq_true p104; replace q104 := eq_true q104) | (go_at_call 113; (with_reducible refine (spec_l06Value.calls ((rd_T58 l0 x3_1).f0) ((rd_T58 l0 x3_1).f1) true _ A6.out).mono ?_); rintro e w' ⟨rfl, ⟨nd, rfl⟩⟩; (try first | exact ⟨rfl, _, World.drewN_drewN _ _ _⟩ | exact ⟨rfl, _, Eq.trans (World.drewN_drewN _ _ _) (congrArg (World.drewN _) (Nat.add_assoc _ _ _))⟩)))
       repeat (go_quiet (first | (go_at_call 96; (with_reducible refine (spec_l01In.calls ((rd_T58 l0 x3_1).f0) 0 15 true _ A4.out).mono ?_); rintro e w' ⟨rfl, ⟨nd, rfl⟩⟩; (try first | exact ⟨rfl, _, World.drewN_drewN _ _ _⟩ | exact ⟨rfl, _, Eq.trans (World.drewN_drewN _ _ _) (congrArg (World.drewN _) (Nat.add_assoc _ _ _))⟩); have p103 : 0 ≤ (x3_1 : Int) := qT qa2; have q103 : x3_1 < (l0.length : Int) := qT qa2; obtain ⟨ad103, e103, hx103_0, hx103_1⟩ := at_T58 HR0.out x3_1 p103 q103; obtain rfl : ad101 = ad103 := qa200; replace p103 := eq_true p103; replace q103 := eq_true q103; have p104 : 0 ≤ (x3_1 : Int) := qT qa2; have q104 : x3_1 < (l0.length : Int) := qT qa2; obtain ⟨ad104, e104, hx104_0, hx104_1⟩ := at_T58 HR0.out x3_1 p104 q104; obtain rfl : ad101 = ad104 := qa191; replace p104 := eq_true p104; replace q104 := eq_true q104) | (go_at_call 113; (with_reducible refine (spec_l06Value.calls ((rd_T58 l0 x3_1).f0) ((rd_T58 l0 x3_1).f1) true _ A6.out).mono ?_); rintro e w' ⟨rfl, ⟨nd, rfl⟩⟩; (try first | exact ⟨rfl, _, World.drewN_drewN _ _ _⟩ | exact ⟨rfl, _, Eq.trans (World.drewN_drewN _ _ _) (congrArg (World.drewN _) (Nat.add_assoc _ _ _))⟩))); try go_wp2_with (first | (go_at_call 96; (with_reducible refine (spec_l01In.calls ((rd_T58 l0 x3_1).f0) 0 15 true _ A4.out).mono ?_); rintro e w' ⟨rfl, ⟨nd, rfl⟩⟩; (try first | exact ⟨rfl, _, World.drewN_drewN _ _ _⟩ | exact ⟨rfl, _, Eq.trans (World.drewN_drewN _ _ _) (congrArg (World.drewN _) (Nat.add_assoc _ _ _))⟩); have p103 : 0 ≤ (x3_1 : Int) := qT qa2; have q103 : x3_1 < (l0.length : Int) := qT qa2; obtain ⟨ad103, e103, hx103_0, hx103_1⟩ := at_T58 HR0.out x3_1 p103 q103; obtain rfl : ad101 = ad103 := qa200; replace p103 := eq_true p103; replace q103 := eq_true q103; have p104 : 0 ≤ (x3_1 : Int) := qT qa2; have q104 : x3_1 < (l0.length : Int) := qT qa2; obtain ⟨ad104, e104, hx104_0, hx104_1⟩ := at_T58 HR0.out x3_1 p104 q104; obtain rfl : ad101 = ad104 := qa191; replace p104 := eq_true p104; replace q104 := eq_true q104) | (go_at_call 113; (with_reducible refine (spec_l06Value.calls ((rd_T58 l0 x3_1).f0) ((rd_T58 l0 x3_1).f1) true _ A6.out).mono ?_); rintro e w' ⟨rfl, ⟨nd, rfl⟩⟩; (try first | exact ⟨rfl, _, World.drewN_drewN _ _ _⟩ | exact ⟨rfl, _, Eq.trans (World.drewN_drewN _ _ _) (congrArg (World.drewN _) (Nat.add_assoc _ _ _))⟩))))
       go_roundg k1
       case measure => have := HK1.out; omega
       case rel => exact ⟨(wrap64 (x3_1 + 1)), qa16, H', ⟨qa155⟩, qa82⟩
      ·replace c7 := Bool.eq_false_iff.mpr c7
       subst c7; have H1 : (some false) = some r := by rw [if_neg (show ¬ (false = true) by decide)] at H; exact H
       clear H; have H := H1; clear H1; obtain rfl := Option.some.inj H; have p101 : 0 ≤ (x3_1 : Int) := qT qa2; have q101 : x3_1 < (l0.length : Int) := qT qa2; obtain ⟨ad101, e101, hx101_0, hx101_1⟩ := at_T58 HR0.out x3_1 p101 q101
       cases e101
       replace p101 := eq_true p101; replace q101 := eq_true q101
       go_wp2_with (first | (go_at_call 96; (with_reducible refine (spec_l01In.calls ((rd_T58 l0 x3_1).f0) 0 15 true _ A4.out).mono ?_); rintro e w' ⟨rfl, ⟨nd, rfl⟩⟩; (try first | exact ⟨rfl, _, World.drewN_drewN _ _ _⟩ | exact ⟨rfl, _, Eq.trans (World.drewN_drewN _ _ _) (congrArg (World.drewN _) (Nat.add_assoc _ _ _))⟩); have p103 : 0 ≤ (x3_1 : Int) := qT qa2; have q103 : x3_1 < (l0.length : Int) := qT qa2; obtain ⟨ad103, e103, hx103_0, hx103_1⟩ := at_T58 HR0.out x3_1 p103 q103; obtain rfl : ad101 = ad103 := qa200; replace p103 := eq_true p103; replace q103 := eq_true q103; have p104 : 0 ≤ (x3_1 : Int) := qT qa2; have q104 : x3_1 < (l0.length : Int) := qT qa2; obtain ⟨ad104, e104, hx104_0, hx104_1⟩ := at_T58 HR0.out x3_1 p104 q104; obtain rfl : ad101 = ad104 := qa191; replace p104 := eq_true p104; replace q104 := eq_true q104) | (go_at_call 113; (with_reducible refine (spec_l06Value.calls ((rd_T58 l0 x3_1).f0) ((rd_T58 l0 x3_1).f1) false _ A6.out).mono ?_); rintro e w' ⟨rfl, ⟨nd, rfl⟩⟩; (try first | exact ⟨rfl, _, World.drewN_drewN _ _ _⟩ | exact ⟨rfl, _, Eq.trans (World.drewN_drewN _ _ _) (congrArg (World.drewN _) (Nat.add_assoc _ _ _))⟩)))
       repeat (go_quiet (first | (go_at_call 96; (with_reducible refine (spec_l01In.calls ((rd_T58 l0 x3_1).f0) 0 15 true _ A4.out).mono ?_); rintro e w' ⟨rfl, ⟨nd, rfl⟩⟩; (try first | exact ⟨rfl, _, World.drewN_drewN _ _ _⟩ | exact ⟨rfl, _, Eq.trans (World.drewN_drewN _ _ _) (congrArg (World.drewN _) (Nat.add_assoc _ _ _))⟩); have p103 : 0 ≤ (x3_1 : Int) := qT qa2; have q103 : x3_1 < (l0.length : Int) := qT qa2; obtain ⟨ad103, e103, hx103_0, hx103_1⟩ := at_T58 HR0.out x3_1 p103 q103; obtain rfl : ad101 = ad103 := qa200; replace p103 := eq_true p103; replace q103 := eq_true q103; have p104 : 0 ≤ (x3_1 : Int) := qT qa2; have q104 : x3_1 < (l0.length : Int) := qT qa2; obtain ⟨ad104, e104, hx104_0, hx104_1⟩ := at_T58 HR0.out x3_1 p104 q104; obtain rfl : ad101 = ad104 := qa191; replace p104 := eq_true p104; replace q104 := eq_true q104) | (go_at_call 113; (with_reducible refine (spec_l06Value.calls ((rd_T58 l0 x3_1).f0) ((rd_T58 l0 x3_1).f1) false _ A6.out).mono ?_); rintro e w' ⟨rfl, ⟨nd, rfl⟩⟩; (try first | exact ⟨rfl, _, World.drewN_drewN _ _ _⟩ | exact ⟨rfl, _, Eq.trans (World.drewN_drewN _ _ _) (congrArg (World.drewN _) (Nat.add_assoc _ _ _))⟩))); try go_wp2_with (first | (go_at_call 96; (with_reducible refine (spec_l01In.calls ((rd_T58 l0 x3_1).f0) 0 15 true _ A4.out).mono ?_); rintro e w' ⟨rfl, ⟨nd, rfl⟩⟩; (try first | exact ⟨rfl, _, World.drewN_drewN _ _ _⟩ | exact ⟨rfl, _, Eq.trans (World.drewN_drewN _ _ _) (congrArg (World.drewN _) (Nat.add_assoc _ _ _))⟩); have p103 : 0 ≤ (x3_1 : Int) := qT qa2; have q103 : x3_1 < (l0.length : Int) := qT qa2; obtain ⟨ad103, e103, hx103_0, hx103_1⟩ := at_T58 HR0.out x3_1 p103 q103; obtain rfl : ad101 = ad103 := qa200; replace p103 := eq_true p103; replace q103 := eq_true q103; have p104 : 0 ≤ (x3_1 : Int) := qT qa2; have q104 : x3_1 < (l0.length : Int) := qT qa2; obtain ⟨ad104, e104, hx104_0, hx104_1⟩ := at_T58 HR0.out x3_1 p104 q104; obtain rfl : ad101 = ad104 := qa191; replace p104 := eq_true p104; replace q104 := eq_true q104) | (go_at_call 113; (with_reducible refine (spec_l06Value.calls ((rd_T58 l0 x3_1).f0) ((rd_T58 l0 x3_1).f1) false _ A6.out).mono ?_); rintro e w' ⟨rfl, ⟨nd, rfl⟩⟩; (try first | exact ⟨rfl, _, World.drewN_drewN _ _ _⟩ | exact ⟨rfl, _, Eq.trans (World.drewN_drewN _ _ _) (congrArg (World.drewN _) (Nat.add_assoc _ _ _))⟩))))
       go_ret
       exact ⟨qa16, qa82⟩
     ·replace c5 := Bool.eq_false_iff.mpr c5
      subst c5; have H1 : (some false) = some r := by rw [if_neg (show ¬ (false = true) by decide)] at H; exact H
      clear H; have H := H1; clear H1; obtain rfl := Option.some.inj H; have p101 : 0 ≤ (x3_1 : Int) := qT qa2; have q101 : x3_1 < (l0.length : Int) := qT qa2; obtain ⟨ad101, e101, hx101_0, hx101_1⟩ := at_T58 HR0.out x3_1 p101 q101
      cases e101
      replace p101 := eq_true p101; replace q101 := eq_true q101
      go_wp2_with (first | (go_at_call 96; (with_reducible refine (spec_l01In.calls ((rd_T58 l0 x3_1).f0) 0 15 false _ A4.out).mono ?_); rintro e w' ⟨rfl, ⟨nd, rfl⟩⟩; (try first | exact ⟨rfl, _, World.drewN_drewN _ _ _⟩ | exact ⟨rfl, _, Eq.trans (World.drewN_drewN _ _ _) (congrArg (World.drewN _) (Nat.add_assoc _ _ _))⟩)))
      repeat (go_quiet (first | (go_at_call 96; (with_reducible refine (spec_l01In.calls ((rd_T58 l0 x3_1).f0) 0 15 false _ A4.out).mono ?_); rintro e w' ⟨rfl, ⟨nd, rfl⟩⟩; (try first | exact ⟨rfl, _, World.drewN_drewN _ _ _⟩ | exact ⟨rfl, _, Eq.trans (World.drewN_drewN _ _ _) (congrArg (World.drewN _) (Nat.add_assoc _ _ _))⟩))); try go_wp2_with (first | (go_at_call 96; (with_reducible refine (spec_l01In.calls ((rd_T58 l0 x3_1).f0) 0 15 false _ A4.out).mono ?_); rintro e w' ⟨rfl, ⟨nd, rfl⟩⟩; (try first | exact ⟨rfl, _, World.drewN_drewN _ _ _⟩ | exact ⟨rfl, _, Eq.trans (World.drewN_drewN _ _ _) (congrArg (World.drewN _) (Nat.add_assoc _ _ _))⟩))))
      go_ret
      exact ⟨qa16, qa82⟩
    ·rw [if_neg c3] at H
     exact absurd H qa119
   ·rw [if_neg c2] at H
    have c2b0 : decide (x3_1 < (l0.length : Int)) = false := decide_eq_false c2; clear c2; obtain rfl := Option.some.inj H; go_wp2
    repeat (go_quiet (fail); try go_wp2)
    go_ret
    exact ⟨qa16, qa82⟩


/-- The first place at which p holds, or -1. -/
def impl_Put_132.fp (p : (S58) → Bool) (l0 : List (S58)) : Int := match l0.findIdx? p with | some i => (i : Int) | none => -1
theorem impl_Put_132.hit (p : (S58) → Bool) (l0 : List (S58)) (kk : Nat) (x : (S58)) (hx : l0[kk]? = some x) (hp : p x = true) (hno : ∀ j, j < kk → ∀ x, l0[j]? = some x → p x = false) : impl_Put_132.fp p l0 = kk := by
 unfold impl_Put_132.fp
 have h : l0.findIdx? p = some kk := by
  rw [List.findIdx?_eq_some_iff_getElem]; obtain ⟨hl, he⟩ := List.getElem?_eq_some_iff.1 hx
  exact ⟨hl, by rw [he]; exact hp, fun j hj => by rw [hno j hj _ (List.getElem?_eq_getElem (Nat.lt_trans hj hl))]; simp⟩
 rw [h]
theorem impl_Put_132.miss (p : (S58) → Bool) (l0 : List (S58)) (hno : ∀ j, j < l0.length → ∀ x, l0[j]? = some x → p x = false) : impl_Put_132.fp p l0 = -1 := by
 unfold impl_Put_132.fp
 have h : l0.findIdx? p = none := by
  rw [List.findIdx?_eq_none_iff]; intro x hx; obtain ⟨j, hj⟩ := List.getElem?_of_mem hx
  exact hno j (List.getElem?_eq_some_iff.1 hj).1 x hj
 rw [h]
set_option maxHeartbeats 4000000 in
set_option maxRecDepth 100000 in
theorem impl_Put_132.callsP (A0 : Option Addr) (c0 : Nat) (l0 : List (S58)) (g : Nat) (cb : Array Value) (p : (S58) → Bool) (w : World) (eg : ∀ args w, (callFunc g args).run Try.prog w = .ok (.enter g args) w) (hr0 : Kd.C k58 w A0 l0.length l0)
  (hp : ∀ (W : World) (x : (S58)), x ∈ l0 → Below w.heap.size w W → Calls Try.prog g (#[.agg #[.int .i64 x.f0, .int .i64 x.f1]] ++ cb) W fun e w' => e = .returned (.bool (p x)) ∧ Below w.heap.size w w') :
  Calls Try.prog 132 #[.slice A0 l0.length c0, .func (.func g) #[] cb] w fun e w' => e = .returned (.int .i64 (impl_Put_132.fp p l0)) ∧ Below w.heap.size w w' := by
 have hlen := hr0.2.1; have HR := qO hr0; have HP := qO hp; clear hr0 hp; have isagg := Try.isAgg58
 go_enter Try.func132, Try.ntmps132
 go_wp2
 go_loopg [5, 8] l0.length (fun gg _ s8 wr => ∃ kk : Nat, kk ≤ l0.length ∧ l0.length - kk ≤ gg ∧ s8 = .int .i64 kk ∧ Aside0 (Below w.heap.size w wr) ∧ Aside0 (∀ j, j < kk → ∀ x, l0[j]? = some x → p x = false))
 case atStart => exact ⟨0, Nat.zero_le _, qa34, rfl, ⟨Below.refl _ w⟩, ⟨fun j hj => absurd hj (Nat.not_lt_zero _)⟩⟩
 case round =>
  obtain ⟨kk, hkk, hg, rfl, BW, No⟩ := hrel
  by_cases hlt : kk < l0.length
  ·have hltz : (kk : Int) < (l0.length : Int) := by omega
   obtain ⟨ad, e, hx0, hx1⟩ := at_T58 HR.out (kk : Int) qa34 hltz
   cases e
   replace hx0 := (BW.out.cell (qL w _ hx0)).trans hx0; replace hx1 := (BW.out.cell (qL w _ hx1)).trans hx1; simp only [Int.toNat_natCast] at hx0; simp only [Int.toNat_natCast] at hx1
   have hx : l0[kk]? = some (rd_T58 l0 (kk : Int)) := by
    rw [List.getElem?_eq_getElem hlt]
    show some l0[kk] = some (l0.getD (kk : Int).toNat _)
    rw [Int.toNat_natCast, List.getD_eq_getElem?_getD, List.getElem?_eq_getElem hlt]
    rfl
   skip
   have hcall := HP.out wr (rd_T58 l0 (kk : Int)) (List.mem_of_getElem? hx) BW.out; have HX := qO hx; clear hx; generalize rd_T58 l0 (kk : Int) = x at hcall HX hx0 hx1
   cases hq : p x with
   | true =>
    have HQ := qO hq; rw [hq] at hcall; clear hq
    go_wp2_with (go_at_fn g; refine hcall.mono ?_; rintro e w' ⟨rfl, hb'⟩)
    go_ret
    exact ⟨by rw [impl_Put_132.hit p l0 kk x HX.out HQ.out No.out]; rfl, hb'⟩
   | false =>
    have HQ := qO hq; rw [hq] at hcall; clear hq
    go_wp2_with (go_at_fn g; refine hcall.mono ?_; rintro e w' ⟨rfl, hb'⟩)
    go_roundg (l0.length - (kk + 1))
    case measure => omega
    case rel =>
     refine ⟨kk + 1, qa34, qa34, by go_num, ⟨hb'⟩, ⟨fun j hj x' hx' => ?_⟩⟩
     by_cases e : j = kk
     ·subst e
      rw [HX.out] at hx'; obtain rfl := Option.some.inj hx'
      exact HQ.out
     ·exact No.out j qa34 x' hx'
  ·have hltz : ¬ (kk : Int) < (l0.length : Int) := by omega
   have hk : kk = l0.length := by omega
   have HK := qO hk; clear hk; go_wp2
   go_ret
   exact ⟨by rw [impl_Put_132.miss p l0 (fun j hj => No.out j (by rw [HK.out]; exact hj))]; rfl, BW.out⟩


set_option maxHeartbeats 4000000 in
set_option maxRecDepth 100000 in
theorem impl_Put_114.callsP (A0 : Option Addr) (c0 : Nat) (l0 : List (S58)) (g : Nat) (cb : Array Value) (p : (S58) → Bool) (w : World) (eg : ∀ args w, (callFunc g args).run Try.prog w = .ok (.enter g args) w) (hr0 : Kd.C k58 w A0 l0.length l0)
  (hp : ∀ (W : World) (x : (S58)), x ∈ l0 → Below w.heap.size w W → Calls Try.prog g (#[.agg #[.int .i64 x.f0, .int .i64 x.f1]] ++ cb) W fun e w' => e = .returned (.bool (p x)) ∧ Below w.heap.size w w') :
  Calls Try.prog 114 #[.slice A0 l0.length c0, .func (.func g) #[] cb] w fun e w' => e = .returned (.bool (l0.any p)) ∧ Below w.heap.size w w' := by
 have hc := impl_Put_132.callsP A0 c0 l0 g cb p w eg hr0 hp
 have hany : decide (0 ≤ impl_Put_132.fp p l0) = l0.any p := by
  unfold impl_Put_132.fp
  cases hf : l0.findIdx? p with
  | none =>
   have h := List.findIdx?_eq_none_iff.1 hf
   have h2 : l0.any p = false := by
    rw [List.any_eq_false]; intro x hx; rw [h x hx]
    simp
   rw [h2]
   rfl
  | some i =>
   obtain ⟨hl, hi, _⟩ := List.findIdx?_eq_some_iff_getElem.1 hf; have h2 : l0.any p = true := List.any_eq_true.2 ⟨l0[i], List.getElem_mem hl, hi⟩; rw [h2]
   simp
 have HA := qO hany; clear hany hp; generalize impl_Put_132.fp p l0 = q at hc HA
 go_enter Try.func114, Try.ntmps114
 go_wp2_with (go_at_call 132; refine hc.mono ?_; rintro e w' ⟨rfl, hb'⟩)
 go_ret
 exact ⟨by rw [← HA.out]; rfl, hb'⟩


def impl_arePuts.p (x : S58) : Bool := match impl_arePuts_1.f x.f0 x.f1 with | some b => b | none => false
theorem impl_arePuts.pe (x : S58) : impl_arePuts_1.f x.f0 x.f1 = some (impl_arePuts.p x) := by
 have h1 : ∀ a b c, ∃ r, impl_within.f a b c = some r := by
  intro a b c
  unfold impl_within.f
  split <;> exact ⟨_, rfl⟩
 have h2 : ∀ a, ∃ r, impl_isKey.f a = some r := by
  intro a; obtain ⟨r, h⟩ := h1 a 0 15
  exact ⟨r, by unfold impl_isKey.f; rw [h]; rfl⟩
 have h3 : ∀ a b, ∃ r, impl_fits.f a b = some r := by
  intro a b
  unfold impl_fits.f impl_IsInt.f
  split
  ·obtain ⟨r, h⟩ := h1 b 0 8
   exact ⟨r, by rw [h]; rfl⟩
  ·obtain ⟨r, h⟩ := h1 b (-2147483648) 2147483647
   exact ⟨r, by rw [h]; rfl⟩
 have h4 : ∃ r, impl_arePuts_1.f x.f0 x.f1 = some r := by
  obtain ⟨a, ha⟩ := h2 x.f0; obtain ⟨b, hb⟩ := h3 x.f0 x.f1
  unfold impl_arePuts_1.f impl_isPut.f
  rw [ha]
  cases a
  ·exact ⟨_, rfl⟩
  ·simp only [Option.bind_some, if_true]
   rw [hb]
   exact ⟨_, rfl⟩
 obtain ⟨r, h⟩ := h4
 unfold impl_arePuts.p
 rw [h]
def impl_arePuts.f (l0 : List (S58)) : Option Bool := if (l0.length : Int) ≤ 400 then some (!(l0.any impl_arePuts.p)) else some false
set_option maxHeartbeats 4000000 in
set_option maxRecDepth 100000 in
theorem impl_arePuts.calls (A0 : Option Addr) (c0 : Nat) (l0 : List (S58)) (r : Bool) (w : World) (hr0 : Kd.C k58 w A0 l0.length l0) (hc0 : l0.length ≤ c0) (h : impl_arePuts.f l0 = some r) :
  Calls Try.prog 75 #[.slice A0 l0.length c0] w fun e w' => e = .returned (.bool r) ∧ Below w.heap.size w w' := by
 unfold impl_arePuts.f at h
 have eg : ∀ args w, (callFunc 115 args).run Try.prog w = .ok (.enter 115 args) w := enters_of Try.func115 qa6 rfl; have hcon := impl_Put_114.callsP A0 c0 l0 115 #[] impl_arePuts.p w eg hr0 (fun W x _ hb => (impl_arePuts_1.calls x.f0 x.f1 (impl_arePuts.p x) W (impl_arePuts.pe x)).mono (by rintro e w' ⟨rfl, h2⟩; exact ⟨rfl, below_step hb h2⟩)); clear hr0 hc0 eg; generalize l0.any impl_arePuts.p = q at h hcon
 by_cases hle : (l0.length : Int) ≤ 400
 ·rw [if_pos hle] at h
  obtain rfl := Option.some.inj h; have hd : decide ((l0.length : Int) ≤ 400) = true := decide_eq_true hle; have hd2 : decide (l0.length ≤ 400) = true := decide_eq_true qa34; clear hle h
  go_enter Try.func75, Try.ntmps75
  go_wp2_with (go_at_call 114; refine hcon.mono ?_; rintro e w' ⟨rfl, hb'⟩)
  go_ret
  exact ⟨rfl, hb'⟩
 ·rw [if_neg hle] at h
  obtain rfl := Option.some.inj h; have hd : decide ((l0.length : Int) ≤ 400) = false := decide_eq_false hle; have hd2 : decide (l0.length ≤ 400) = false := decide_eq_false qa34; clear hle h hcon
  go_enter Try.func75, Try.ntmps75
  go_wp2
  go_ret
  exact ⟨rfl, Below.refl _ _⟩

end Go.Proofs.Ytfiboooflebdpaa.Q
namespace Go.Proofs.Ytfiboooflebdpaa.Pure2
open Go.RowKit Go.Proofs.Ytfiboooflebdpaa.Q Go.Proofs.YtfiboooflebdpaaW.PrintWords Go.Proofs.YtfiboooflebdpaaW.PrintLast
set_option linter.unusedVariables false
set_option linter.unusedSimpArgs false
/-! puts that are right -/
def IsPut (x : S58) : Prop := (0 ≤ x.f0 ∧ x.f0 ≤ 15) ∧ fitsB x.f0 x.f1 = true
def IsPuts (l : List S58) : Prop := l.length ≤ 400 ∧ ∀ j, j < l.length → IsPut (l.getD j z58)
theorem spec_puts (l : List S58) (hl : l.length ≤ 1048576) : ∃ r, Ev (fun k => spec_l06Puts.f k l) r ∧ (r = true ↔ IsPuts l) := by
  obtain ⟨r, hr, he⟩ := count_loop l.length (fun k i => spec_l06Puts.l0 k l i) (fun j r => r = true ↔ l.length ≤ 400 ∧ ∀ j', j ≤ j' → j' < l.length → IsPut (l.getD j' z58))
    ⟨decide ((l.length : Int) ≤ 400), ⟨fun h => ⟨by have := qT h; omega, fun j' h1 h2 => by omega⟩, fun h => decide_eq_true (by have := h.1; omega)⟩, ev_now ⟨0, fun k _ => by simp only [spec_l06Puts.l0]; rw [if_neg qa34]⟩⟩
    (fun j hj r hr he => by
      have hd : rd_T58 l (j : Int) = l.getD j z58 := rfl
      have hh : ∀ k, spec_l06Puts.l0 (k + 1) l (j : Int) = if decide (0 ≤ (l.getD j z58).f0 ∧ (l.getD j z58).f0 ≤ 15) = true then (if fitsB (l.getD j z58).f0 (l.getD j z58).f1 = true then spec_l06Puts.l0 k l ((j + 1 : Nat) : Int) else some false) else some false := by
        intro k
        conv => lhs; simp only [spec_l06Puts.l0]
        rw [if_pos qa34, if_pos qa34, hd, spec_in, spec_fits]; simp only [Option.bind_some, wsucc hj qa34]
      by_cases h1 : 0 ≤ (l.getD j z58).f0 ∧ (l.getD j z58).f0 ≤ 15
      · by_cases h2 : fitsB (l.getD j z58).f0 (l.getD j z58).f1 = true
        · refine ⟨r, hr.trans ⟨fun h => ⟨h.1, fun j' h3 h4 => ?_⟩, fun h => ⟨h.1, fun j' h3 h4 => h.2 j' qa34 h4⟩⟩, ev_step ⟨0, fun k _ => by rw [hh, if_pos (decide_eq_true h1), if_pos h2]⟩ he⟩
          rcases Nat.lt_or_eq_of_le h3 with h5 | rfl
          · exact h.2 j' h5 h4
          · exact ⟨h1, h2⟩
        · exact ⟨false, ⟨fun h => (by cases h), fun h => absurd (h.2 j (Nat.le_refl _) hj).2 h2⟩, ev_now ⟨0, fun k _ => by rw [hh, if_pos (decide_eq_true h1), if_neg h2]⟩⟩
      · exact ⟨false, ⟨fun h => (by cases h), fun h => absurd (h.2 j (Nat.le_refl _) hj).1 h1⟩, ev_now ⟨0, fun k _ => by rw [hh, if_neg (by simpa using h1)]⟩⟩) 0 qa34
  exact ⟨r, ev_same ⟨0, fun k _ => by unfold spec_l06Puts.f; rfl⟩ he, hr.trans ⟨fun h => ⟨h.1, fun j hj => h.2 j qa34 hj⟩, fun h => ⟨h.1, fun j _ hj => h.2 j hj⟩⟩⟩
theorem impl_put (a b : Int) : impl_isPut.f a b = some (decide (0 ≤ a ∧ a ≤ 15) && fitsB a b) := by
  unfold impl_isPut.f impl_isKey.f
  rw [impl_in, impl_fits]
  by_cases h : 0 ≤ a ∧ a ≤ 15
  · simp [h]
  · simp only [Option.bind_some, decide_eq_false h]; rfl
theorem impl_puts (l : List S58) : ∃ r, impl_arePuts.f l = some r ∧ (r = true ↔ IsPuts l) := by
  have hp : ∀ x, impl_arePuts.p x = false ↔ IsPut x := by
    intro x
    unfold impl_arePuts.p impl_arePuts_1.f
    rw [impl_put]; simp only [Option.bind_some, IsPut]
    by_cases h : 0 ≤ x.f0 ∧ x.f0 ≤ 15
    · simp [h]
    · simp only [decide_eq_false h, Bool.false_and, Bool.not_false]
      exact ⟨fun h2 => (by cases h2), fun h2 => absurd h2.1 h⟩
  unfold impl_arePuts.f
  by_cases hl : (l.length : Int) ≤ 400
  · rw [if_pos hl]
    refine ⟨_, rfl, ?_⟩; rw [Bool.not_eq_true', List.any_eq_false]
    constructor
    · intro h
      refine ⟨qa34, fun j hj => ?_⟩; rw [List.getD_eq_getElem?_getD, List.getElem?_eq_getElem hj]
      exact (hp _).1 (by simpa using h _ (List.getElem_mem hj))
    · rintro ⟨_, h⟩ x hx
      obtain ⟨j, hj, rfl⟩ := List.getElem_of_mem hx; have := h j hj; rw [List.getD_eq_getElem?_getD, List.getElem?_eq_getElem hj] at this
      simpa using (hp _).2 this
  · rw [if_neg hl]
    exact ⟨false, rfl, ⟨fun h => (by cases h), fun h => absurd h.1 qa34⟩⟩
/-! draws: a source of choices -/
def SrcOK (m a s : Int) : Prop := 0 ≤ a ∧ a ≤ m ∧ 0 ≤ s ∧ s < 2147483648
def CodeOK (code : List Int) : Prop := code.length ≤ 1048576 ∧ ∀ x ∈ code, 0 ≤ x ∧ x ≤ 255
theorem code_rd (code : List Int) (hc : CodeOK code) (i : Int) (h0 : 0 ≤ i) (h1 : i < (code.length : Int)) : 0 ≤ rd code i ∧ rd code i ≤ 255 := by
  have e : rd code i = code[i.toNat]'qa34 := by
    unfold rd
    rw [List.getD_eq_getElem?_getD, List.getElem?_eq_getElem qa34]; rfl
  rw [e]
  exact hc.2 _ (List.getElem_mem _)
theorem byte_ok (code : List Int) (hc : CodeOK code) (m a s : Int) (hm : m ≤ 1000000000) (h : SrcOK m a s) : ∃ r a' s', spec_l00Src_byte.f code a s = some (r, a', s') ∧ 0 ≤ r ∧ r ≤ 255 ∧ SrcOK (m + 1) a' s' := by
  obtain ⟨h1, h2, h3, h4⟩ := h; have hl := hc.1; have w1 : wrap64 (a + 1) = a + 1 := by unfold wrap64; omega
  have w2 : wrap64 (a + 1 - 1) = a := by unfold wrap64; omega
  unfold spec_l00Src_byte.f
  rw [w1, w2]
  by_cases c1 : a + 1 ≤ (code.length : Int)
  · have hr := code_rd code hc a h1 qa34
    rw [if_pos c1, if_pos h1, if_pos qa34]; generalize rd code a = x at *; have w3 : wrap64 x = x := by unfold wrap64; omega
    have w4 : wrap64 (s * 31) = s * 31 := by unfold wrap64; omega
    have w5 : wrap64 (s * 31 + x) = s * 31 + x := by unfold wrap64; omega
    have w6 : wrap64 (s * 31 + x + 7) = s * 31 + x + 7 := by unfold wrap64; omega
    rw [w3, w4, w5, w6, Int.tmod_eq_emod_of_nonneg qa34]
    exact ⟨_, _, _, rfl, hr.1, hr.2, qa34, qa34, qa34, qa34⟩
  · rw [if_neg c1]
    by_cases c2 : a + 1 > 3000
    · rw [if_pos c2]
      exact ⟨_, _, _, rfl, qa34, qa34, qa34, qa34, h3, h4⟩
    · rw [if_neg c2]
      have w4 : wrap64 (s * 1103515245) = s * 1103515245 := by unfold wrap64; omega
      have w5 : wrap64 (s * 1103515245 + 12345) = s * 1103515245 + 12345 := by unfold wrap64; omega
      rw [w4, w5, Int.tmod_eq_emod_of_nonneg (a := s * 1103515245 + 12345) qa34]; generalize hq : (s * 1103515245 + 12345) % 2147483648 = q; have q0 : 0 ≤ q ∧ q < 2147483648 := by omega
      rw [Int.tdiv_eq_ediv_of_nonneg q0.1]; have w6 : wrap64 (q / 65536) = q / 65536 := by unfold wrap64; omega
      rw [w6, Int.tmod_eq_emod_of_nonneg qa34]
      exact ⟨_, _, _, rfl, qa34, qa34, qa34, qa34, q0.1, q0.2⟩
theorem next_ok (code : List Int) (hc : CodeOK code) (m a s n : Int) (hm : m ≤ 1000000000) (hn : 1 ≤ n ∧ n ≤ 256) (h : SrcOK m a s) : ∃ r a' s', spec_l00Src_next.f code a s n = some (r, a', s') ∧ 0 ≤ r ∧ r < n ∧ SrcOK (m + 1) a' s' := by
  unfold spec_l00Src_next.f
  by_cases c1 : n ≤ 1
  · rw [if_pos c1]
    exact ⟨_, _, _, rfl, qa34, qa34, h.1, by have := h.2.1; omega, h.2.2⟩
  · obtain ⟨r, a', s', e, r0, r1, hs⟩ := byte_ok code hc m a s hm h
    rw [if_neg c1, if_pos hn.2, e]; simp only [Option.bind_some]; rw [if_neg qa34, Int.tmod_eq_emod_of_nonneg r0]; have h1 := Int.emod_nonneg r (show n ≠ 0 by omega); have h2 := Int.emod_lt_of_pos r (show 0 < n by omega)
    exact ⟨_, _, _, rfl, h1, h2, hs⟩
theorem put_ok (code : List Int) (hc : CodeOK code) (m a s : Int) (hm : m ≤ 900000000) (h : SrcOK m a s) : ∃ (p : S58) (a' s' : Int), spec_l00Src_put.f code a s = some (p.f0, p.f1, a', s') ∧ IsPut p ∧ SrcOK (m + 3) a' s' := by
  obtain ⟨r, a1, s1, e1, r0, r1, h1⟩ := next_ok code hc m a s 16 qa34 qa34 h
  unfold spec_l00Src_put.f
  rw [e1]; simp only [Option.bind_some]
  by_cases c1 : Int.tmod r 2 = 1
  · obtain ⟨v, a2, s2, e2, v0, v1, h2⟩ := next_ok code hc (m + 1) a1 s1 9 qa34 qa34 h1
    rw [if_pos c1, e2]; refine ⟨⟨r, v⟩, a2, s2, rfl, ⟨⟨r0, by show r ≤ 15; omega⟩, ?_⟩, h2.1, by have := h2.2.1; omega, h2.2.2⟩
    show fitsB r v = true
    unfold fitsB
    rw [if_pos c1]
    exact decide_eq_true qa34
  · obtain ⟨v, a2, s2, e2, v0, v1, h2⟩ := next_ok code hc (m + 1) a1 s1 20 qa34 qa34 h1
    obtain ⟨q, a3, s3, e3, q0, q1, h3⟩ := next_ok code hc (m + 2) a2 s2 9 qa34 qa34 (by have h := h2; unfold SrcOK at h ⊢; omega); rw [if_neg c1, e2]; simp only [Option.bind_some]; rw [e3]; simp only [Option.bind_some]; have w1 : wrap64 (v - 4) = v - 4 := by unfold wrap64; omega
    rw [Int.tdiv_eq_ediv_of_nonneg q0, w1]; have w2 : wrap64 (q / 8) = q / 8 := by unfold wrap64; omega
    rw [w2, if_pos qa34, if_pos (by simp; omega)]
    have hf : ∀ x : Int, -2147483648 ≤ x → x ≤ 2147483647 → fitsB r x = true := by
      intro x x0 x1
      unfold fitsB
      rw [if_neg c1]
      exact decide_eq_true ⟨x0, x1⟩
    refine ⟨⟨r, rd [v - 4, 2147483647] (q / 8)⟩, a3, s3, rfl, ⟨⟨r0, by show r ≤ 15; omega⟩, ?_⟩, h3.1, by have := h3.2.1; omega, h3.2.2⟩
    show fitsB r (rd [v - 4, 2147483647] (q / 8)) = true
    by_cases c2 : q / 8 = 0
    · rw [c2]; exact hf (v - 4) qa34 qa34
    · have : q / 8 = 1 := by omega
      rw [this]; exact hf 2147483647 qa34 qa34
theorem puts_loop (code : List Int) (hc : CodeOK code) : ∀ (d : Nat) (m a s : Int) (x : List S58), d ≤ 4 → m + 3 * d ≤ 800000000 → x.length + d ≤ 1000 → SrcOK m a s →
    ∃ (l : List S58) (a' s' : Int), Ev (fun k => spec_l00Src_puts.l0 k x (d : Int) code a s) (x ++ l, a', s') ∧ l.length ≤ d ∧ (∀ p ∈ l, IsPut p) ∧ SrcOK (m + 3 * d) a' s' := by
  intro d
  induction d with
  | zero =>
    intro m a s x _ _ _ h
    exact ⟨[], a, s, ev_now ⟨0, fun k _ => by simp only [spec_l00Src_puts.l0]; rw [if_neg qa34, List.append_nil]⟩, qa119, qa119, by unfold SrcOK at h ⊢; omega⟩
  | succ d ih =>
    intro m a s x hd hm hx h; obtain ⟨p, a1, s1, e1, hp, h1⟩ := put_ok code hc m a s qa34 h; obtain ⟨l, a2, s2, e2, hl, hps, h2⟩ := ih (m + 3) a1 s1 (x ++ [p]) qa34 qa34 (by simp; omega) h1; refine ⟨p :: l, a2, s2, ev_step ⟨0, fun k _ => ?_⟩ (by rw [List.append_assoc] at e2; exact e2), by simp; omega, fun q hq => ?_, qa201⟩
    · have w : wrap64 (((d + 1 : Nat) : Int) - 1) = (d : Int) := by unfold wrap64; omega
      conv => lhs; simp only [spec_l00Src_puts.l0]
      rw [if_pos qa34, e1]; simp only [Option.bind_some]; rw [if_pos qa34, w]
    · rcases List.mem_cons.1 hq with rfl | hq
      · exact hp
      · exact hps q hq
theorem puts_ok (code : List Int) (hc : CodeOK code) (m a s : Int) (hm : m ≤ 700000000) (h : SrcOK m a s) :
    ∃ (l : List S58) (a' s' : Int), Ev (fun k => spec_l00Src_puts.f k code a s) (l, a', s') ∧ l.length ≤ 4 ∧ (∀ p ∈ l, IsPut p) ∧ SrcOK (m + 13) a' s' := by
  obtain ⟨r, a1, s1, e1, r0, r1, h1⟩ := next_ok code hc m a s 5 qa34 qa34 h; obtain ⟨n, rfl⟩ : ∃ n : Nat, r = (n : Int) := ⟨r.toNat, qa34⟩; obtain ⟨l, a2, s2, e2, hl, hps, h2⟩ := puts_loop code hc n (m + 1) a1 s1 [] qa34 qa34 (by simp; omega) h1; refine ⟨l, a2, s2, ev_same ⟨0, fun k _ => ?_⟩ e2, qa34, hps, qa201⟩
  unfold spec_l00Src_puts.f
  rw [e1]; rfl
theorem is_puts (l : List S58) (hl : l.length ≤ 400) (h : ∀ p ∈ l, IsPut p) : IsPuts l := ⟨hl, fun j hj => h _ (by rw [List.getD_eq_getElem?_getD, List.getElem?_eq_getElem hj]; exact List.getElem_mem hj)⟩
end Go.Proofs.Ytfiboooflebdpaa.Pure2
namespace Go.Proofs.Ytfiboooflebdpaa.Q
open Go.RowKit Go.Proofs.YtfiboooflebdpaaW.PrintWords Go.Proofs.YtfiboooflebdpaaW.PrintLast Go.Proofs.YtfiboooflebdpaaW.PrintMore
attribute [local go_sem] max2_int min2_int max_two min_two max_three min_three max_four min_four
set_option linter.unusedVariables false
set_option linter.unusedSimpArgs false

def impl_Store_writeAll.l0 : Nat → List (S58) → Int → Int → List (List (S43)) → Int → Option ((List (List (S43))) × Int × Int × Int)
 | 0, _, _, _, _, _ => none
 | k + 1, x30, x31, x32, x108000, x108001 => if x32 < x31 then (if 0 ≤ x32 then (if x32 < (x30.length : Int) then (if 0 ≤ ((rd_T58 x30 x32).f0) then (if ((rd_T58 x30 x32).f0) < (x108000.length : Int) then (if (wrap64 (((rd_L4 x108000 ((rd_T58 x30 x32).f0)).length : Int) - 1)) ≥ 0 then (if 0 ≤ (wrap64 (((rd_L4 x108000 ((rd_T58 x30 x32).f0)).length : Int) - 1)) then (if (wrap64 (((rd_L4 x108000 ((rd_T58 x30 x32).f0)).length : Int) - 1)) < ((rd_L4 x108000 ((rd_T58 x30 x32).f0)).length : Int) then (if ((rd_T43 (rd_L4 x108000 ((rd_T58 x30 x32).f0)) (wrap64 (((rd_L4 x108000 ((rd_T58 x30 x32).f0)).length : Int) - 1))).f0) = x108001 then (if (wrap64 (((rd_L4 x108000 ((rd_T58 x30 x32).f0)).length : Int) - 1)) ≤ ((rd_L4 x108000 ((rd_T58 x30 x32).f0)).length : Int) then (if (rd_L4 x108000 ((rd_T58 x30 x32).f0)).length < 8796093022208 then (impl_Store_writeAll.l0 k x30 x31 (wrap64 (x32 + 1)) (x108000.set (((rd_T58 x30 x32).f0) : Int).toNat (((rd_L4 x108000 ((rd_T58 x30 x32).f0)).take ((wrap64 (((rd_L4 x108000 ((rd_T58 x30 x32).f0)).length : Int) - 1)) : Int).toNat) ++ [(⟨x108001, (rd_T58 x30 x32).f1⟩ : S43)])) x108001) else (none)) else (none)) else (if (rd_L4 x108000 ((rd_T58 x30 x32).f0)).length < 8796093022208 then (impl_Store_writeAll.l0 k x30 x31 (wrap64 (x32 + 1)) (x108000.set (((rd_T58 x30 x32).f0) : Int).toNat ((rd_L4 x108000 ((rd_T58 x30 x32).f0)) ++ [(⟨x108001, (rd_T58 x30 x32).f1⟩ : S43)])) x108001) else (none))) else (none)) else (none)) else (if (rd_L4 x108000 ((rd_T58 x30 x32).f0)).length < 8796093022208 then (impl_Store_writeAll.l0 k x30 x31 (wrap64 (x32 + 1)) (x108000.set (((rd_T58 x30 x32).f0) : Int).toNat ((rd_L4 x108000 ((rd_T58 x30 x32).f0)) ++ [(⟨x108001, (rd_T58 x30 x32).f1⟩ : S43)])) x108001) else (none))) else (none)) else (none)) else (none)) else (none)) else (some (x108000, x108001, x108001, 0))
def impl_Store_writeAll.f (k : Nat) (l0_0 : List (List (S43))) (a0_1 : Int) (l1 : List (S58)) : Option ((List (List (S43))) × Int × Int × Int) := (impl_copyStore.f k l0_0 a0_1).bind fun bt103 => (if a0_1 = 100000 then (some (bt103.1, bt103.2, 0, 7)) else (if (l1.length : Int) = 0 then (some (bt103.1, bt103.2, bt103.2, 0)) else (impl_Store_writeAll.l0 k l1 (l1.length : Int) 0 bt103.1 (wrap64 (bt103.2 + 1)))))
def impl_Store_writeAll.T12 : Bool × List (List Nat × List Nat) := (true, [([], []), ([0], [0]), ([1], [1]), ([2], [2]), ([2], [2]), ([3, 4, 2], [2, 3, 4]), ([5, 2], [2, 5]), ([6, 2], [2, 6]), ([2], [2]), ([8, 2], [2, 8]), ([7, 9, 2], [2, 7, 9]), ([2, 10], [2, 10])])
def impl_Store_writeAll.B12 : List Nat := [0, 1, 3, 7, 7, 31, 63, 127, 7, 263, 1023, 2047]
theorem impl_Store_writeAll.tab12 : rtab .any (opsOf Try.f76 12) = impl_Store_writeAll.T12 := by kernel_rfl
theorem impl_Store_writeAll.bits12 : waitsOk impl_Store_writeAll.T12.2 impl_Store_writeAll.B12 = true := by kernel_rfl
def impl_Store_writeAll.y0 := #[qf,qf,qf,qf,qf,qf]
def impl_Store_writeAll.y1 := #[qf,qt,qf,qf,qf,qf]
def impl_Store_writeAll.y2 := #[qt,qt,qf,qf,qf,qf]
def impl_Store_writeAll.y3 := #[qt,qt,qt,qf,qf,qf]
def impl_Store_writeAll.y4 := #[qt,qt,qt,qt,qf,qf]
def impl_Store_writeAll.y5 := #[qt,qt,qt,qt,qt,qf]
def impl_Store_writeAll.y6 := #[qt,qt,qt,qt,qt,qt]
def impl_Store_writeAll.y7 := #[qf,qf,qf,qf,qf,qf,qf,qf,qf,qf,qf,qf]
def impl_Store_writeAll.y8 := #[qt,qf,qf,qf,qf,qf,qf,qf,qf,qf,qf,qf]
def impl_Store_writeAll.y9 := #[qt,qt,qf,qf,qf,qf,qf,qf,qf,qf,qf,qf]
def impl_Store_writeAll.y10 := #[qt,qt,qt,qf,qf,qf,qf,qf,qf,qf,qf,qf]
def impl_Store_writeAll.y11 := #[qt,qt,qt,qt,qf,qf,qf,qf,qf,qf,qf,qf]
def impl_Store_writeAll.y12 := #[qt,qt,qt,qt,qt,qf,qf,qf,qf,qf,qf,qf]
def impl_Store_writeAll.y13 := #[qt,qt,qt,qt,qt,qt,qf,qf,qf,qf,qf,qf]
def impl_Store_writeAll.y14 := #[qt,qt,qt,qt,qt,qt,qt,qf,qf,qf,qf,qf]
def impl_Store_writeAll.y15 := #[qt,qt,qt,qt,qt,qt,qt,qf,qt,qf,qf,qf]
def impl_Store_writeAll.y16 := #[qt,qt,qt,qt,qt,qt,qt,qt,qt,qf,qf,qf]
def impl_Store_writeAll.y17 := #[qt,qt,qt,qt,qt,qt,qt,qt,qt,qt,qf,qf]
def impl_Store_writeAll.y18 := #[qt,qt,qt,qt,qt,qt,qt,qt,qt,qt,qt,qf]
def impl_Store_writeAll.y19 := #[qt,qt,qt,qt,qt,qt,qt,qt,qt,qt,qt,qt]
def impl_Store_writeAll.y20 := #[qt,qt,qt,qt,qt,qt,qt,qt,qf,qf,qf,qf]
def impl_Store_writeAll.T14 : Bool × List (List Nat × List Nat) := (true, [([], []), ([0], [0]), ([], []), ([2], [2]), ([], []), ([], []), ([5], [5]), ([], []), ([7], [7]), ([6, 8], [6, 8]), ([9], [9]), ([4, 10], [4, 10]), ([1, 3, 0, 1, 2, 3, 4, 5, 6, 7, 8, 9, 10, 11], [1, 3]), ([12, 11, 11, 0, 1, 2, 3, 4, 5, 6, 7, 8, 9, 10, 11], [11, 12])])
def impl_Store_writeAll.B14 : List Nat := [0, 1, 0, 4, 0, 0, 32, 0, 128, 480, 992, 2032, 4095, 8191]
theorem impl_Store_writeAll.tab14 : rtab .any (opsOf Try.f76 14) = impl_Store_writeAll.T14 := by kernel_rfl
theorem impl_Store_writeAll.bits14 : waitsOk impl_Store_writeAll.T14.2 impl_Store_writeAll.B14 = true := by kernel_rfl
set_option maxHeartbeats 8000000 in
set_option maxRecDepth 100000 in
theorem impl_Store_writeAll.calls (k : Nat) (A0_0 : Option Addr) (c0_0 : Nat) (l0_0 : List (List (S43))) (a0_1 : Int) (A1 : Option Addr) (c1 : Nat) (l1 : List (S58)) (r1 : List (List (S43))) (r2 : Int) (r3 : Int) (r4 : Int) (w : World) (hr0_0 : Kd.C (Kd.slice 43 k43) w A0_0 l0_0.length l0_0) (hc0_0 : l0_0.length ≤ c0_0) (hr1 : Kd.C k58 w A1 l1.length l1) (hc1 : l1.length ≤ c1) (h : impl_Store_writeAll.f k l0_0 a0_1 l1 = some (r1, r2, r3, r4)) :
  Calls Try.prog 76 #[.agg #[.slice A0_0 l0_0.length c0_0, .int .i64 a0_1], .slice A1 l1.length c1] w fun e w' => ∃ v0_ : Value, e = .returned (.tuple #[.agg #[v0_, .int .i64 r2], .int .i64 r3, .int .i64 r4]) ∧ Kd.S (Kd.slice 43 k43) 41 w' w.heap.size (fun _ => True) v0_ r1 ∧ Below w.heap.size w w' := by
 have hu28 := Try.underlying28; have hu58 := Try.underlying58; have hu43 := Try.underlying43; have HR0_0 := qO hr0_0; have HC0_0 := qO hc0_0; clear hr0_0 hc0_0; have HR1 := qO hr1; have HC1 := qO hc1; clear hr1 hc1; have HB := qO (Below.refl w.heap.size w); have H : ((impl_copyStore.f k l0_0 a0_1).bind fun bt103 => (if a0_1 = 100000 then (some (bt103.1, bt103.2, 0, 7)) else (if (l1.length : Int) = 0 then (some (bt103.1, bt103.2, bt103.2, 0)) else (impl_Store_writeAll.l0 k l1 (l1.length : Int) 0 bt103.1 (wrap64 (bt103.2 + 1)))))) = some (r1, r2, r3, r4) := h; clear h; replace H := Option.bind_eq_some_iff.mp H; obtain ⟨⟨t103, t106⟩, A30, H⟩ := H; replace H : (if a0_1 = 100000 then (some (t103, t106, 0, 7)) else (if (l1.length : Int) = 0 then (some (t103, t106, t106, 0)) else (impl_Store_writeAll.l0 k l1 (l1.length : Int) 0 t103 (wrap64 (t106 + 1))))) = some (r1, r2, r3, r4) := H; have A3 := qO A30; clear A30
 by_cases c4 : a0_1 = 100000
 ·rw [if_pos c4] at H
  have c4b0 : (a0_1 == 100000) = true := beq_iff_eq.mpr c4; have c4b1 : (a0_1 != 100000) = false := bne_eq_false_iff_eq.mpr c4; clear c4; simp only [Option.some.injEq, Prod.mk.injEq] at H; obtain ⟨rfl, rfl, rfl, rfl⟩ := H
  go_enter Try.func76, Try.ntmps76
  go_wp2_with (first | ((with_reducible refine gate_dst (N := 2) rfl ?_); refine qX 2 #[.slice A0_0 l0_0.length c0_0, .int .i64 a0_1] 28 ?_; intro gb101 hg w5 hbox hb; have hx_ := qHX HB hb qa1; have BK101 := qO (hbox); have GW101 := qO ((qa20 : w.heap.size ≤ gb101)); have GE101 := GW101; replace HB := qO (below_step (below_step HB.out hx_) hb); clear hx_ hb hbox hg) | ((with_reducible refine gate_dst (N := 4) rfl ?_); refine qX 4 #[.slice none 0 0, .int .i64 0] 28 ?_; intro gb102 hg w6 hbox hb; have hx_ := qHX HB hb qa1; have BK102 := qO (hbox); have GW102 := qO ((qa20 : w.heap.size ≤ gb102)); have GE102 := GW102; have NB101_102 := qO ((qa7 : gb101 ≠ gb102)); have NB102_101 := qO (Ne.symm NB101_102.out); replace BK101 := qO (qB BK101.out hx_ hb); replace HB := qO (below_step (below_step HB.out hx_) hb); clear hx_ hb hbox hg; have hnb7 := NB101_102.out; have hnc7 := NB102_101.out; obtain ⟨hcz8_0, hcz8_1, hfz8_0, hfz8_1⟩ := qb2 BK101.out) | ((with_reducible refine gate_callee (f := 102) rfl ?_); refine goesL_ (some 13) rfl rfl Try.func102 qa6 rfl #[.agg #[.slice A0_0 l0_0.length c0_0, .int .i64 a0_1]] rfl qa0 ?_; (with_reducible refine (impl_copyStore.calls k _ _ l0_0 a0_1 t103 t106 _ ?side1 ?side2 A3.out).mono ?_); (case side1 => exact qa17); (case side2 => exact HC0_0.out); rintro e w9 ⟨v104, rfl, ho0, hb⟩; have hx_ := qHX HB hb qa1; refine ⟨_, rfl, ?_⟩; have HO105 := qO (Kd.S_lower ho0 (below_size (below_step HB.out hx_))); replace BK101 := qO (qB BK101.out hx_ hb); replace BK102 := qO (qB BK102.out hx_ hb); replace HB := qO (below_step (below_step HB.out hx_) hb); clear hx_; (try clear hb); (try clear hb2); (try clear hk); (try clear hi); (try clear ho0)) | ((with_reducible refine gate_dst (N := 7) rfl ?_); refine qX 7 #[.slice none 0 0, .int .i64 0] 28 ?_; intro gb107 hg w10 hbox hb; have hx_ := qHX HB hb qa1; have BK107 := qO (hbox); have GW107 := qO ((qa20 : w.heap.size ≤ gb107)); have GE107 := GW107; have NB101_107 := qO ((qa7 : gb101 ≠ gb107)); have NB107_101 := qO (Ne.symm NB101_107.out); have NB102_107 := qO ((qa35 : gb102 ≠ gb107)); have NB107_102 := qO (Ne.symm NB102_107.out); replace HO105 := qO (Kd.S_below qa120 hb); replace BK101 := qO (qB BK101.out hx_ hb); replace BK102 := qO (qB BK102.out hx_ hb); replace HB := qO (below_step (below_step HB.out hx_) hb); clear hx_ hb hbox hg; obtain ⟨Ao11, co11, eo11⟩ := Kd.S_slice HO105.out; subst eo11; have hnb12 := NB107_101.out; have hnc12 := NB101_107.out; have hnb13 := NB107_102.out; have hnc13 := NB102_107.out; obtain ⟨hcz14_0, hcz14_1, hfz14_0, hfz14_1⟩ := qb2 BK107.out; obtain ⟨hcz15_0, hcz15_1, hfz15_0, hfz15_1⟩ := qb2 BK101.out; obtain ⟨hcz16_0, hcz16_1, hfz16_0, hfz16_1⟩ := qb2 BK102.out))
  refine bodyPost_ret (results_ctt rfl _ _ gb102 28 #[.slice Ao11 t103.length co11, .int .i64 t106] (0, 0) _ rfl (by (with_reducible repeat (first | refine qkN ?_ _ | refine qkD ?_ | refine qkA ?_ _)); refine blk_put (cs := #[.slice Ao11 t103.length co11, .int .i64 0]) ?_ 1 _ rfl; (with_reducible repeat (first | refine qkN ?_ _ | refine qkD ?_ | refine qkA ?_ _)); refine blk_put (cs := #[.slice none 0 0, .int .i64 0]) ?_ 0 _ rfl; (with_reducible repeat (first | refine qkN ?_ _ | refine qkD ?_ | refine qkA ?_ _)); refine blk_far ?_ NB102_107.out _; (with_reducible repeat (first | refine qkN ?_ _ | refine qkD ?_ | refine qkA ?_ _)); refine blk_far ?_ NB102_107.out _; (with_reducible repeat (first | refine qkN ?_ _ | refine qkD ?_ | refine qkA ?_ _)); exact BK102.out) Try.underlying28 rfl qa6) rfl ?_
  exact ⟨_, qa10, by (with_reducible repeat (first | apply Kd.S_alloc | apply Kd.S_drewN | apply Kd.S_drew)); exact Kd.S_mono (Kd.S_far (p := ⟨gb102, 1, none⟩) (Kd.S_far (p := ⟨gb102, 0, none⟩) (Kd.S_far (p := ⟨gb107, 1, none⟩) (Kd.S_far (p := ⟨gb107, 0, none⟩) (Kd.S_types (Kd.S_types HO105.out BK107.out (by decide)) BK102.out (by decide)) (fun _ hk => hk.1.2) (.slice Ao11 t103.length co11)) (fun _ hk => hk.1.2) (.int .i64 t106)) (fun _ hk => hk.2) (.slice Ao11 t103.length co11)) (fun _ hk => hk.2) (.int .i64 t106)) (fun _ hk => trivial), qa45⟩
 ·rw [if_neg c4] at H
  have c4b0 : (a0_1 == 100000) = false := beq_eq_false_iff_ne.mpr c4; have c4b1 : (a0_1 != 100000) = true := bne_iff_ne.mpr c4
  by_cases c17 : (l1.length : Int) = 0
  ·rw [if_pos c17] at H
   have c17b0 : ((l1.length : Int) == 0) = true := beq_iff_eq.mpr c17; have c17b1 : ((l1.length : Int) != 0) = false := bne_eq_false_iff_eq.mpr c17; clear c17; simp only [Option.some.injEq, Prod.mk.injEq] at H; obtain ⟨rfl, rfl, rfl, rfl⟩ := H
   go_enter Try.func76, Try.ntmps76
   try go_wp2_with (first | ((with_reducible refine gate_dst (N := 2) rfl ?_); refine qX 2 #[.slice A0_0 l0_0.length c0_0, .int .i64 a0_1] 28 ?_; intro gb101 hg w18 hbox hb; have hx_ := qHX HB hb qa1; have BK101 := qO (hbox); have GW101 := qO ((qa20 : w.heap.size ≤ gb101)); have GE101 := GW101; replace HB := qO (below_step (below_step HB.out hx_) hb); clear hx_ hb hbox hg) | ((with_reducible refine gate_dst (N := 4) rfl ?_); refine qX 4 #[.slice none 0 0, .int .i64 0] 28 ?_; intro gb102 hg w19 hbox hb; have hx_ := qHX HB hb qa1; have BK102 := qO (hbox); have GW102 := qO ((qa20 : w.heap.size ≤ gb102)); have GE102 := GW102; have NB101_102 := qO ((qa7 : gb101 ≠ gb102)); have NB102_101 := qO (Ne.symm NB101_102.out); replace BK101 := qO (qB BK101.out hx_ hb); replace HB := qO (below_step (below_step HB.out hx_) hb); clear hx_ hb hbox hg; have hnb20 := NB101_102.out; have hnc20 := NB102_101.out; obtain ⟨hcz21_0, hcz21_1, hfz21_0, hfz21_1⟩ := qb2 BK101.out) | ((with_reducible refine gate_callee (f := 102) rfl ?_); refine goesL_ (some 13) rfl rfl Try.func102 qa6 rfl #[.agg #[.slice A0_0 l0_0.length c0_0, .int .i64 a0_1]] rfl qa0 ?_; (with_reducible refine (impl_copyStore.calls k _ _ l0_0 a0_1 t103 t106 _ ?side1 ?side2 A3.out).mono ?_); (case side1 => exact qa17); (case side2 => exact HC0_0.out); rintro e w22 ⟨v104, rfl, ho0, hb⟩; have hx_ := qHX HB hb qa1; refine ⟨_, rfl, ?_⟩; have HO105 := qO (Kd.S_lower ho0 (below_size (below_step HB.out hx_))); replace BK101 := qO (qB BK101.out hx_ hb); replace BK102 := qO (qB BK102.out hx_ hb); replace HB := qO (below_step (below_step HB.out hx_) hb); clear hx_; (try clear hb); (try clear hb2); (try clear hk); (try clear hi); (try clear ho0)) | ((with_reducible refine gate_dst (N := 7) rfl ?_); refine qX 7 #[.slice none 0 0, .int .i64 0] 28 ?_; intro gb107 hg w23 hbox hb; have hx_ := qHX HB hb qa1; have BK107 := qO (hbox); have GW107 := qO ((qa20 : w.heap.size ≤ gb107)); have GE107 := GW107; have NB101_107 := qO ((qa7 : gb101 ≠ gb107)); have NB107_101 := qO (Ne.symm NB101_107.out); have NB102_107 := qO ((qa35 : gb102 ≠ gb107)); have NB107_102 := qO (Ne.symm NB102_107.out); replace HO105 := qO (Kd.S_below qa120 hb); replace BK101 := qO (qB BK101.out hx_ hb); replace BK102 := qO (qB BK102.out hx_ hb); replace HB := qO (below_step (below_step HB.out hx_) hb); clear hx_ hb hbox hg; obtain ⟨Ao24, co24, eo24⟩ := Kd.S_slice HO105.out; subst eo24; have hnb25 := NB107_101.out; have hnc25 := NB101_107.out; have hnb26 := NB107_102.out; have hnc26 := NB102_107.out; obtain ⟨hcz27_0, hcz27_1, hfz27_0, hfz27_1⟩ := qb2 BK107.out; obtain ⟨hcz28_0, hcz28_1, hfz28_0, hfz28_1⟩ := qb2 BK101.out))
   have n0_ : Aside0 (Kd.S (Kd.slice 43 k43) 41 ((w23.setCell ⟨gb107, 0, none⟩ (.slice Ao24 t103.length co24)).setCell ⟨gb107, 1, none⟩ (.int .i64 t106)) w.heap.size (fun _ => True) (.slice Ao24 t103.length co24) t103) := ⟨by (with_reducible repeat (first | apply Kd.S_alloc | apply Kd.S_drewN | apply Kd.S_drew)); exact Kd.S_mono (Kd.S_far (p := ⟨gb107, 1, none⟩) (Kd.S_far (p := ⟨gb107, 0, none⟩) (Kd.S_types HO105.out BK107.out (by decide)) (fun _ hk => hk.2) (.slice Ao24 t103.length co24)) (fun _ hk => hk.2) (.int .i64 t106)) (fun _ hk => trivial)⟩; have n1_ : Aside0 (((w23.setCell ⟨gb107, 0, none⟩ (.slice Ao24 t103.length co24)).setCell ⟨gb107, 1, none⟩ (.int .i64 t106)).heap[gb101]? = some (.cells #[.slice A0_0 l0_0.length c0_0, .int .i64 a0_1] 28 (0, 0))) := ⟨qa108⟩; have n2_ : Aside0 (((w23.setCell ⟨gb107, 0, none⟩ (.slice Ao24 t103.length co24)).setCell ⟨gb107, 1, none⟩ (.int .i64 t106)).heap[gb102]? = some (.cells #[.slice none 0 0, .int .i64 0] 28 (0, 0))) := ⟨qa109⟩; have n3_ : Aside0 (((w23.setCell ⟨gb107, 0, none⟩ (.slice Ao24 t103.length co24)).setCell ⟨gb107, 1, none⟩ (.int .i64 t106)).heap[gb107]? = some (.cells #[.slice Ao24 t103.length co24, .int .i64 t106] 28 (0, 0))) := ⟨by (with_reducible repeat (first | refine qkN ?_ _ | refine qkD ?_ | refine qkA ?_ _)); refine blk_put (cs := #[.slice Ao24 t103.length co24, .int .i64 0]) ?_ 1 _ rfl; (with_reducible repeat (first | refine qkN ?_ _ | refine qkD ?_ | refine qkA ?_ _)); refine blk_put (cs := #[.slice none 0 0, .int .i64 0]) ?_ 0 _ rfl; (with_reducible repeat (first | refine qkN ?_ _ | refine qkD ?_ | refine qkA ?_ _)); exact BK107.out⟩; have n4_ : Aside0 (Below w.heap.size w ((w23.setCell ⟨gb107, 0, none⟩ (.slice Ao24 t103.length co24)).setCell ⟨gb107, 1, none⟩ (.int .i64 t106))) := ⟨qa45⟩; (try clear HO105); (try clear BK101); (try clear BK102); (try clear BK107); (try clear HB); generalize ((w23.setCell ⟨gb107, 0, none⟩ (.slice Ao24 t103.length co24)).setCell ⟨gb107, 1, none⟩ (.int .i64 t106)) = w29 at n0_ n1_ n2_ n3_ n4_ ⊢; have HO105 := n0_; have BK101 := n1_; have BK102 := n2_; have BK107 := n3_; have HB := n4_; clear n0_ n1_ n2_ n3_ n4_; replace HO105 := qO (Kd.S_drew HO105.out); replace BK101 := qO (qkD BK101.out); replace BK102 := qO (qkD BK102.out); replace BK107 := qO (qkD BK107.out); replace HB := qO (qbD HB.out); refine start_ (n := 6) (S := fun w' => w'.cell? ⟨gb107, 0, none⟩ = some (.slice Ao24 t103.length co24) ∧ w'.cell? ⟨gb107, 1, none⟩ = some (.int .i64 t106)) (ds := []) impl_Store_writeAll.y0 qa6 rfl rfl ⟨qc0 BK107.out, qc1 BK107.out⟩ (fun hHeld => ?_); generalize w29.drew = w30 at HO105 BK101 BK102 BK107 HB hHeld ⊢; refine qPu 1 24 impl_Store_writeAll.y1 rfl rfl qa6 qa8 qa3 ?_; refine qTk 0 23 impl_Store_writeAll.y2 rfl rfl qa6 qa101 hHeld qa3 ?_; refine qTk 2 25 impl_Store_writeAll.y3 rfl rfl qa6 qa101 hHeld qa3 ?_; refine one_ (i := 3) (N := none) impl_Store_writeAll.y4 rfl rfl qa6 qa60 (fun K hK => ?_); have hs31 := qc0 BK102.out; have hfs31 := blk_frozen BK102.out 0; have hns31_0 := NB101_102.out; have hns31_2 := NB107_102.out; have hms31_0 := NB102_101.out; have hms31_2 := NB102_107.out; have hs32 := qc1 BK102.out; have hfs32 := blk_frozen BK102.out 1; have hns32_0 := NB101_102.out; have hns32_2 := NB107_102.out; have hms32_0 := NB102_101.out; have hms32_2 := NB102_107.out; refine skip_ (w1 := ?_) (by rfl) rfl ?_ ?_; rotate_left
   ·go_simp
    rfl
   refine hK.out _ _ ⟨((cell_far (p := ⟨gb102, _, none⟩) NB107_102.out _).trans (((cell_far (p := ⟨gb102, _, none⟩) NB107_102.out _).trans (hHeld.1)))), ((cell_far (p := ⟨gb102, _, none⟩) NB107_102.out _).trans (((cell_far (p := ⟨gb102, _, none⟩) NB107_102.out _).trans (hHeld.2))))⟩ (fun hHeld => ?_); clear hK K; refine qPu 4 5 impl_Store_writeAll.y5 rfl rfl qa6 qa8 qa3 ?_; refine qPu 5 6 impl_Store_writeAll.y6 rfl rfl qa6 qa8 qa3 ?_; refine done_ qa6 ?_
   try go_wp2
   refine bodyPost_ret (results_ctt rfl _ _ gb102 28 #[.slice Ao24 t103.length co24, .int .i64 t106] (0, 0) _ rfl (by (with_reducible repeat (first | refine qkN ?_ _ | refine qkD ?_ | refine qkA ?_ _)); refine blk_put (cs := #[.slice Ao24 t103.length co24, .int .i64 0]) ?_ 1 _ rfl; (with_reducible repeat (first | refine qkN ?_ _ | refine qkD ?_ | refine qkA ?_ _)); refine blk_put (cs := #[.slice none 0 0, .int .i64 0]) ?_ 0 _ rfl; (with_reducible repeat (first | refine qkN ?_ _ | refine qkD ?_ | refine qkA ?_ _)); exact BK102.out) Try.underlying28 rfl qa6) rfl ?_
   exact ⟨_, qa10, by (with_reducible repeat (first | apply Kd.S_alloc | apply Kd.S_drewN | apply Kd.S_drew)); exact Kd.S_mono (Kd.S_far (p := ⟨gb102, 1, none⟩) (Kd.S_far (p := ⟨gb102, 0, none⟩) (Kd.S_types HO105.out BK102.out (by decide)) (fun _ hk => hk.2) (.slice Ao24 t103.length co24)) (fun _ hk => hk.2) (.int .i64 t106)) (fun _ hk => trivial), qa45⟩
  ·rw [if_neg c17] at H
   have c17b0 : ((l1.length : Int) == 0) = false := beq_eq_false_iff_ne.mpr c17; have c17b1 : ((l1.length : Int) != 0) = true := bne_iff_ne.mpr c17; have c17b2 : ¬ (l1 = []) := fun h_ => c17 (by rw [h_]; rfl)
   have H' := qO H; clear H
   go_enter Try.func76, Try.ntmps76
   go_wp2_with (first | ((with_reducible refine gate_dst (N := 2) rfl ?_); refine qX 2 #[.slice A0_0 l0_0.length c0_0, .int .i64 a0_1] 28 ?_; intro gb101 hg w33 hbox hb; have hx_ := qHX HB hb qa1; have BK101 := qO (hbox); have GW101 := qO ((qa20 : w.heap.size ≤ gb101)); have GE101 := GW101; replace HB := qO (below_step (below_step HB.out hx_) hb); clear hx_ hb hbox hg) | ((with_reducible refine gate_dst (N := 4) rfl ?_); refine qX 4 #[.slice none 0 0, .int .i64 0] 28 ?_; intro gb102 hg w34 hbox hb; have hx_ := qHX HB hb qa1; have BK102 := qO (hbox); have GW102 := qO ((qa20 : w.heap.size ≤ gb102)); have GE102 := GW102; have NB101_102 := qO ((qa7 : gb101 ≠ gb102)); have NB102_101 := qO (Ne.symm NB101_102.out); replace BK101 := qO (qB BK101.out hx_ hb); replace HB := qO (below_step (below_step HB.out hx_) hb); clear hx_ hb hbox hg; have hnb35 := NB101_102.out; have hnc35 := NB102_101.out; obtain ⟨hcz36_0, hcz36_1, hfz36_0, hfz36_1⟩ := qb2 BK101.out) | ((with_reducible refine gate_callee (f := 102) rfl ?_); refine goesL_ (some 13) rfl rfl Try.func102 qa6 rfl #[.agg #[.slice A0_0 l0_0.length c0_0, .int .i64 a0_1]] rfl qa0 ?_; (with_reducible refine (impl_copyStore.calls k _ _ l0_0 a0_1 t103 t106 _ ?side1 ?side2 A3.out).mono ?_); (case side1 => exact qa17); (case side2 => exact HC0_0.out); rintro e w37 ⟨v104, rfl, ho0, hb⟩; have hx_ := qHX HB hb qa1; refine ⟨_, rfl, ?_⟩; have HO105 := qO (Kd.S_lower ho0 (below_size (below_step HB.out hx_))); replace BK101 := qO (qB BK101.out hx_ hb); replace BK102 := qO (qB BK102.out hx_ hb); replace HB := qO (below_step (below_step HB.out hx_) hb); clear hx_; (try clear hb); (try clear hb2); (try clear hk); (try clear hi); (try clear ho0)) | ((with_reducible refine gate_dst (N := 7) rfl ?_); refine qX 7 #[.slice none 0 0, .int .i64 0] 28 ?_; intro gb107 hg w38 hbox hb; have hx_ := qHX HB hb qa1; have BK107 := qO (hbox); have GW107 := qO ((qa20 : w.heap.size ≤ gb107)); have GE107 := GW107; have NB101_107 := qO ((qa7 : gb101 ≠ gb107)); have NB107_101 := qO (Ne.symm NB101_107.out); have NB102_107 := qO ((qa35 : gb102 ≠ gb107)); have NB107_102 := qO (Ne.symm NB102_107.out); replace HO105 := qO (Kd.S_below qa120 hb); replace BK101 := qO (qB BK101.out hx_ hb); replace BK102 := qO (qB BK102.out hx_ hb); replace HB := qO (below_step (below_step HB.out hx_) hb); clear hx_ hb hbox hg; obtain ⟨Ao39, co39, eo39⟩ := Kd.S_slice HO105.out; subst eo39; have hnb40 := NB107_101.out; have hnc40 := NB101_107.out; have hnb41 := NB107_102.out; have hnc41 := NB102_107.out; obtain ⟨hcz42_0, hcz42_1, hfz42_0, hfz42_1⟩ := qb2 BK107.out; obtain ⟨hcz43_0, hcz43_1, hfz43_0, hfz43_1⟩ := qb2 BK101.out))
   go_loopg [32] k (fun kq v32 w' => ∃ (x32_1 : Int) (x108000_1 : List (List (S43))) (u108000 : Value), v32 = .int .i64 x32_1 ∧ Aside0 (impl_Store_writeAll.l0 kq l1 (l1.length : Int) x32_1 x108000_1 (wrap64 (t106 + 1)) = some (r1, r2, r3, r4)) ∧ Aside0 (kq ≤ k) ∧ Aside0 (Kd.S (Kd.slice 43 k43) 41 w' w.heap.size (fun _ => True) u108000 x108000_1) ∧ Aside0 (w'.heap[gb101]? = some (.cells #[(.slice A0_0 l0_0.length c0_0), .int .i64 a0_1] 28 (0, 0))) ∧ Aside0 (w'.heap[gb102]? = some (.cells #[(.slice none 0 0), .int .i64 0] 28 (0, 0))) ∧ Aside0 (w'.heap[gb107]? = some (.cells #[u108000, .int .i64 (wrap64 (t106 + 1))] 28 (0, 0))) ∧ Aside0 (Below w.heap.size w w'))
   case atStart => exact ⟨(0), (t103), (.slice Ao39 t103.length co39), qa16, H', ⟨Nat.le_refl _⟩, ⟨by (with_reducible repeat (first | apply Kd.S_alloc | apply Kd.S_drewN | apply Kd.S_drew)); exact Kd.S_mono (Kd.S_far (p := ⟨gb107, 1, none⟩) (Kd.S_far (p := ⟨gb107, 1, none⟩) (Kd.S_far (p := ⟨gb107, 0, none⟩) (Kd.S_types HO105.out BK107.out (by decide)) (fun _ hk => hk.2) (.slice Ao39 t103.length co39)) (fun _ hk => hk.2) (.int .i64 t106)) (fun _ hk => hk.2) (.int .i64 (wrap64 (t106 + 1)))) (fun _ hk => trivial)⟩, ⟨by (with_reducible repeat (first | refine qkN ?_ _ | refine qkD ?_ | refine qkA ?_ _)); refine blk_far ?_ NB101_107.out _; (with_reducible repeat (first | refine qkN ?_ _ | refine qkD ?_ | refine qkA ?_ _)); refine blk_far ?_ NB101_107.out _; (with_reducible repeat (first | refine qkN ?_ _ | refine qkD ?_ | refine qkA ?_ _)); refine blk_far ?_ NB101_107.out _; (with_reducible repeat (first | refine qkN ?_ _ | refine qkD ?_ | refine qkA ?_ _)); exact BK101.out⟩, ⟨by (with_reducible repeat (first | refine qkN ?_ _ | refine qkD ?_ | refine qkA ?_ _)); refine blk_far ?_ NB102_107.out _; (with_reducible repeat (first | refine qkN ?_ _ | refine qkD ?_ | refine qkA ?_ _)); refine blk_far ?_ NB102_107.out _; (with_reducible repeat (first | refine qkN ?_ _ | refine qkD ?_ | refine qkA ?_ _)); refine blk_far ?_ NB102_107.out _; (with_reducible repeat (first | refine qkN ?_ _ | refine qkD ?_ | refine qkA ?_ _)); exact BK102.out⟩, ⟨by (with_reducible repeat (first | refine qkN ?_ _ | refine qkD ?_ | refine qkA ?_ _)); refine blk_put (cs := #[.slice Ao39 t103.length co39, .int .i64 t106]) ?_ 1 _ rfl; (with_reducible repeat (first | refine qkN ?_ _ | refine qkD ?_ | refine qkA ?_ _)); refine blk_put (cs := #[.slice Ao39 t103.length co39, .int .i64 0]) ?_ 1 _ rfl; (with_reducible repeat (first | refine qkN ?_ _ | refine qkD ?_ | refine qkA ?_ _)); refine blk_put (cs := #[.slice none 0 0, .int .i64 0]) ?_ 0 _ rfl; (with_reducible repeat (first | refine qkN ?_ _ | refine qkD ?_ | refine qkA ?_ _)); exact BK107.out⟩, ⟨qa45⟩⟩
   case round =>
    clear H'
    try clear c1
    try clear c2
    try clear p2
    try clear c3
    try clear c4
    try clear c4b0
    try clear c4b1
    try clear p6
    try clear c7
    try clear c10
    try clear c12
    try clear c13
    try clear c17
    try clear c17b0
    try clear c17b1
    try clear c17b2
    try clear c20
    try clear c25
    try clear c26
    try clear c35
    try clear c40
    try clear c41
    try clear hcz14_0
    try clear hcz14_1
    try clear hcz15_0
    try clear hcz15_1
    try clear hcz16_0
    try clear hcz16_1
    try clear hcz21_0
    try clear hcz21_1
    try clear hcz27_0
    try clear hcz27_1
    try clear hcz28_0
    try clear hcz28_1
    try clear hcz36_0
    try clear hcz36_1
    try clear hcz42_0
    try clear hcz42_1
    try clear hcz43_0
    try clear hcz43_1
    try clear hcz8_0
    try clear hcz8_1
    try clear hfz14_0
    try clear hfz14_1
    try clear hfz15_0
    try clear hfz15_1
    try clear hfz16_0
    try clear hfz16_1
    try clear hfz21_0
    try clear hfz21_1
    try clear hfz27_0
    try clear hfz27_1
    try clear hfz28_0
    try clear hfz28_1
    try clear hfz36_0
    try clear hfz36_1
    try clear hfz42_0
    try clear hfz42_1
    try clear hfz43_0
    try clear hfz43_1
    try clear hfz8_0
    try clear hfz8_1
    obtain ⟨x32_1, x108000_1, u108000, rfl, HA, HK1, HO_108000, BK101, BK102, BK107, HB⟩ := hrel
    cases gk with
    | zero => exact absurd HA.out (by simp [impl_Store_writeAll.l0])
    | succ k1 =>
     have H := HA.out; clear HA; simp only [impl_Store_writeAll.l0] at H
     by_cases c44 : x32_1 < (l1.length : Int)
     ·rw [if_pos c44] at H
      have c44b0 : decide (x32_1 < (l1.length : Int)) = true := decide_eq_true c44; clear c44
      by_cases c45 : 0 ≤ x32_1
      ·rw [if_pos c45] at H
       have c45b0 : decide (0 ≤ x32_1) = true := decide_eq_true c45; clear c45
       by_cases c46 : x32_1 < (l1.length : Int)
       ·rw [if_pos c46] at H
        have c46b0 : decide (x32_1 < (l1.length : Int)) = true := decide_eq_true c46; clear c46
        by_cases c47 : 0 ≤ ((rd_T58 l1 x32_1).f0)
        ·rw [if_pos c47] at H
         have c47b0 : decide (0 ≤ ((rd_T58 l1 x32_1).f0)) = true := decide_eq_true c47; clear c47
         by_cases c48 : ((rd_T58 l1 x32_1).f0) < (x108000_1.length : Int)
         ·rw [if_pos c48] at H
          have c48b0 : decide (((rd_T58 l1 x32_1).f0) < (x108000_1.length : Int)) = true := decide_eq_true c48; clear c48
          by_cases c49 : (wrap64 (((rd_L4 x108000_1 ((rd_T58 l1 x32_1).f0)).length : Int) - 1)) ≥ 0
          ·rw [if_pos c49] at H
           have c49b0 : decide (0 ≤ (wrap64 (((rd_L4 x108000_1 ((rd_T58 l1 x32_1).f0)).length : Int) - 1))) = true := decide_eq_true c49; clear c49; obtain ⟨ji50, hji50⟩ : ∃ j_ : Int, (wrap64 (((rd_L4 x108000_1 ((rd_T58 l1 x32_1).f0)).length : Int) - 1)) = j_ := ⟨_, rfl⟩; replace H : (if 0 ≤ (ji50) then (if (ji50) < ((rd_L4 x108000_1 ((rd_T58 l1 x32_1).f0)).length : Int) then (if ((rd_T43 (rd_L4 x108000_1 ((rd_T58 l1 x32_1).f0)) (ji50)).f0) = (wrap64 (t106 + 1)) then (if (ji50) ≤ ((rd_L4 x108000_1 ((rd_T58 l1 x32_1).f0)).length : Int) then (if (rd_L4 x108000_1 ((rd_T58 l1 x32_1).f0)).length < 8796093022208 then (impl_Store_writeAll.l0 k1 l1 (l1.length : Int) (wrap64 (x32_1 + 1)) (x108000_1.set (((rd_T58 l1 x32_1).f0) : Int).toNat (((rd_L4 x108000_1 ((rd_T58 l1 x32_1).f0)).take ((ji50) : Int).toNat) ++ [(⟨(wrap64 (t106 + 1)), (rd_T58 l1 x32_1).f1⟩ : S43)])) (wrap64 (t106 + 1))) else (none)) else (none)) else (if (rd_L4 x108000_1 ((rd_T58 l1 x32_1).f0)).length < 8796093022208 then (impl_Store_writeAll.l0 k1 l1 (l1.length : Int) (wrap64 (x32_1 + 1)) (x108000_1.set (((rd_T58 l1 x32_1).f0) : Int).toNat ((rd_L4 x108000_1 ((rd_T58 l1 x32_1).f0)) ++ [(⟨(wrap64 (t106 + 1)), (rd_T58 l1 x32_1).f1⟩ : S43)])) (wrap64 (t106 + 1))) else (none))) else (none)) else (none)) = some (r1, r2, r3, r4) := by first | (rw [hji50] at H; exact H) | (simp only [hji50] at H ⊢; exact H)
           (try rw [hji50] at c49b0); have hji50w : (IntKind.i64.wrap (((rd_L4 x108000_1 ((rd_T58 l1 x32_1).f0)).length : Int) - 1)) = ji50 := (i64_w _).trans hji50
           by_cases c51 : 0 ≤ (ji50)
           ·rw [if_pos c51] at H
            have c51b0 : decide (0 ≤ (ji50)) = true := decide_eq_true c51; clear c51
            by_cases c52 : (ji50) < ((rd_L4 x108000_1 ((rd_T58 l1 x32_1).f0)).length : Int)
            ·rw [if_pos c52] at H
             have c52b0 : decide ((ji50) < ((rd_L4 x108000_1 ((rd_T58 l1 x32_1).f0)).length : Int)) = true := decide_eq_true c52; clear c52
             by_cases c53 : ((rd_T43 (rd_L4 x108000_1 ((rd_T58 l1 x32_1).f0)) (ji50)).f0) = (wrap64 (t106 + 1))
             ·rw [if_pos c53] at H
              have c53b0 : (((rd_T43 (rd_L4 x108000_1 ((rd_T58 l1 x32_1).f0)) (ji50)).f0) == (wrap64 (t106 + 1))) = true := beq_iff_eq.mpr c53; have c53b1 : (((rd_T43 (rd_L4 x108000_1 ((rd_T58 l1 x32_1).f0)) (ji50)).f0) != (wrap64 (t106 + 1))) = false := bne_eq_false_iff_eq.mpr c53; clear c53; have c54b0 := eq_true (qT qa2 : 0 ≤ (ji50))
              by_cases c55 : (ji50) ≤ ((rd_L4 x108000_1 ((rd_T58 l1 x32_1).f0)).length : Int)
              ·rw [if_pos c55] at H
               have c55b0 := eq_true c55; have c55b1 : decide ((ji50) ≤ ((rd_L4 x108000_1 ((rd_T58 l1 x32_1).f0)).length : Int)) = true := decide_eq_true c55; clear c55; obtain ⟨y112, hy112⟩ : ∃ y_ : List (S43), y_ = ((rd_L4 x108000_1 ((rd_T58 l1 x32_1).f0)).take ((ji50) : Int).toNat) := ⟨_, rfl⟩; replace H : (if (rd_L4 x108000_1 ((rd_T58 l1 x32_1).f0)).length < 8796093022208 then (impl_Store_writeAll.l0 k1 l1 (l1.length : Int) (wrap64 (x32_1 + 1)) (x108000_1.set (((rd_T58 l1 x32_1).f0) : Int).toNat (y112 ++ [(⟨(wrap64 (t106 + 1)), (rd_T58 l1 x32_1).f1⟩ : S43)])) (wrap64 (t106 + 1))) else (none)) = some (r1, r2, r3, r4) := by first | (rw [hy112]; with_reducible exact H) | (have H2_ := (Option.bind_some _ _).symm.trans H; rw [hy112]; with_reducible exact H2_) | (have H2_ := (Option.bind_some _ _).symm.trans H; with_reducible exact H2_) | with_reducible exact H | (rw [hy112]; exact H) | exact H
               have Ny112 := qO hy112; clear hy112
               by_cases c56 : (rd_L4 x108000_1 ((rd_T58 l1 x32_1).f0)).length < 8796093022208
               ·rw [if_pos c56] at H
                have LMc56 := qO c56; clear c56; obtain ⟨y117, hy117⟩ : ∃ y_ : List (S43), y_ = (y112 ++ [(⟨(wrap64 (t106 + 1)), (rd_T58 l1 x32_1).f1⟩ : S43)]) := ⟨_, rfl⟩; replace H : (impl_Store_writeAll.l0 k1 l1 (l1.length : Int) (wrap64 (x32_1 + 1)) (x108000_1.set (((rd_T58 l1 x32_1).f0) : Int).toNat y117) (wrap64 (t106 + 1))) = some (r1, r2, r3, r4) := by first | (rw [hy117]; with_reducible exact H) | (have H2_ := (Option.bind_some _ _).symm.trans H; rw [hy117]; with_reducible exact H2_) | (have H2_ := (Option.bind_some _ _).symm.trans H; with_reducible exact H2_) | with_reducible exact H | (rw [hy117]; exact H) | exact H
                have Ny117 := qO hy117; clear hy117; obtain ⟨y120, hy120⟩ : ∃ y_ : List (List (S43)), y_ = (x108000_1.set (((rd_T58 l1 x32_1).f0) : Int).toNat y117) := ⟨_, rfl⟩; replace H : (impl_Store_writeAll.l0 k1 l1 (l1.length : Int) (wrap64 (x32_1 + 1)) y120 (wrap64 (t106 + 1))) = some (r1, r2, r3, r4) := by first | (rw [hy120]; with_reducible exact H) | (have H2_ := (Option.bind_some _ _).symm.trans H; rw [hy120]; with_reducible exact H2_) | (have H2_ := (Option.bind_some _ _).symm.trans H; with_reducible exact H2_) | with_reducible exact H | (rw [hy120]; exact H) | exact H
                have Ny120 := qO hy120; clear hy120; have H' := qO H; clear H; have p108 : 0 ≤ (x32_1 : Int) := qT qa2; have q108 : x32_1 < (l1.length : Int) := qT qa2; obtain ⟨ad108, e108, hx108_0, hx108_1⟩ := at_T58 HR1.out x32_1 p108 q108
                cases e108
                replace hx108_0 := (HB.out.cell (qL w _ hx108_0)).trans hx108_0; replace hx108_1 := (HB.out.cell (qL w _ hx108_1)).trans hx108_1; replace p108 := eq_true p108; replace q108 := eq_true q108
                try go_wp2_with (first | ((with_reducible refine gate_dst (N := 9) rfl ?_); refine qX 9 #[.int .i64 0, .int .i64 0] 58 ?_; intro gb109 hg w58 hbox hb; have hx_ := qHX HB hb qa1; have BK109 := qO (hbox); have GW109 := qO ((qa20 : w.heap.size ≤ gb109)); have GE109 := GW109; have NB101_109 := qO ((qa7 : gb101 ≠ gb109)); have NB109_101 := qO (Ne.symm NB101_109.out); have NB102_109 := qO ((qa35 : gb102 ≠ gb109)); have NB109_102 := qO (Ne.symm NB102_109.out); have NB107_109 := qO ((qa112 : gb107 ≠ gb109)); have NB109_107 := qO (Ne.symm NB107_109.out); replace HO_108000 := qO (Kd.S_below qa64 hb); replace BK101 := qO (qB BK101.out hx_ hb); replace BK102 := qO (qB BK102.out hx_ hb); replace BK107 := qO (qB BK107.out hx_ hb); replace HB := qO (below_step (below_step HB.out hx_) hb); clear hx_ hb hbox hg; have hnb59 := NB109_101.out; have hnc59 := NB101_109.out; have hnb60 := NB109_102.out; have hnc60 := NB102_109.out; have hnb61 := NB109_107.out; have hnc61 := NB107_109.out; obtain ⟨hcz62_0, hcz62_1, hfz62_0, hfz62_1⟩ := qb2 BK109.out) | ((with_reducible refine gate_store (t := 58) (p := 9) rfl ?_); refine store_event (t := 58) (p := 9) (v := ?vo_w63) (w1 := ((w58.setCell ⟨gb109, 0, none⟩ (.int .i64 ((rd_T58 l1 x32_1).f0))).setCell ⟨gb109, 1, none⟩ (.int .i64 ((rd_T58 l1 x32_1).f1)))) ?hg ?ho ?hn ?hr ?_; (case ho => rfl); (case hg => rfl); (case hn => rfl); (case hr => exact qa18); intro w63 hw; have n0_ : Aside0 (Kd.S (Kd.slice 43 k43) 41 w63 w.heap.size (fun _ => True) u108000 x108000_1) := ⟨qa72⟩; have n1_ : Aside0 (w63.heap[gb101]? = some (.cells #[.slice A0_0 l0_0.length c0_0, .int .i64 a0_1] 28 (0, 0))) := ⟨qa74⟩; have n2_ : Aside0 (w63.heap[gb102]? = some (.cells #[.slice none 0 0, .int .i64 0] 28 (0, 0))) := ⟨qa75⟩; have n3_ : Aside0 (w63.heap[gb107]? = some (.cells #[u108000, .int .i64 (wrap64 (t106 + 1))] 28 (0, 0))) := ⟨qa76⟩; have n4_ : Aside0 (w63.heap[gb109]? = some (.cells #[.int .i64 ((rd_T58 l1 x32_1).f0), .int .i64 ((rd_T58 l1 x32_1).f1)] 58 (0, 0))) := ⟨qa63⟩; have n5_ : Aside0 (Below w.heap.size w w63) := ⟨qa103⟩; clear hw HO_108000 BK101 BK102 BK107 BK109 HB; have HO_108000 := n0_; have BK101 := n1_; have BK102 := n2_; have BK107 := n3_; have BK109 := n4_; have HB := n5_; clear n0_ n1_ n2_ n3_ n4_ n5_; have hnb64 := NB107_101.out; have hnc64 := NB101_107.out; have hnb65 := NB107_102.out; have hnc65 := NB102_107.out; obtain ⟨hcz66_0, hcz66_1, hfz66_0, hfz66_1⟩ := qb2 BK107.out; obtain ⟨hcz67_0, hcz67_1, hfz67_0, hfz67_1⟩ := qb2 BK109.out; obtain ⟨Ao68, co68, eo68⟩ := Kd.S_slice HO_108000.out; subst eo68; have p110 : 0 ≤ (((rd_T58 l1 x32_1).f0) : Int) := qT qa2; have q110 : ((rd_T58 l1 x32_1).f0) < (x108000_1.length : Int) := qT qa2; obtain ⟨ad110, A110_0, c110_0, e110, hx110_0, hl110_0, hi110_0⟩ := at_L4 (Kd.S_reads' HO_108000.out).2.2 ((rd_T58 l1 x32_1).f0) p110 q110; cases e110; obtain ⟨ce110, hce110, hMe110, hcc110⟩ := Kd.S_get HO_108000.out [] ((rd_T58 l1 x32_1).f0) p110 qa146; obtain ⟨ve110_0, rfl, ge110_0⟩ := hMe110; have hv110_0 := hcc110 0 _ rfl; rw [Nat.add_zero, show ((Kd.slice 43 k43)).sz = 1 from rfl, Nat.mul_one] at hv110_0; replace hv110_0 := Option.some.inj (hv110_0.symm.trans hx110_0); rw [hv110_0] at ge110_0; have HL110_0 := qO (show Kd.R k43 43 _ _ _ _ (rd_L4 x108000_1 ((rd_T58 l1 x32_1).f0)) from ge110_0); clear hv110_0 ge110_0; have HX110_0 := qO hx110_0; clear hcc110 hce110; have HR110_0 := qO hi110_0; have HC110_0 := qO hl110_0; clear hi110_0 hl110_0; replace p110 := eq_true p110; replace q110 := eq_true q110))
                replace HO_108000 := qO (Kd.S_drew HO_108000.out); replace HL110_0 := qO (Kd.R_drew HL110_0.out); replace BK101 := qO (qkD BK101.out); replace BK102 := qO (qkD BK102.out); replace BK107 := qO (qkD BK107.out); replace BK109 := qO (qkD BK109.out); replace HR110_0 := qO (Kd.C_drew HR110_0.out); replace HB := qO (qbD HB.out); have p111 : 0 ≤ ((ji50) : Int) := qT qa2; have q111 : (ji50) < ((rd_L4 x108000_1 ((rd_T58 l1 x32_1).f0)).length : Int) := qT qa2; obtain ⟨ad111, e111, hx111_0, hx111_1⟩ := at_T43 qa126 (ji50) p111 q111
                cases e111
                replace p111 := eq_true p111; replace q111 := eq_true q111; have hx110d : w63.drew.cell? (ad110.add (((rd_T58 l1 x32_1).f0)).toNat) = some (.slice (some ad111) (rd_L4 x108000_1 ((rd_T58 l1 x32_1).f0)).length c110_0) := hx110_0; refine start_ (n := 12) (S := fun w' => w'.cell? ⟨gb107, 0, none⟩ = some (.slice (some ad110) x108000_1.length co68) ∧ w'.cell? ⟨gb107, 1, none⟩ = some (.int .i64 (wrap64 (t106 + 1))) ∧ w'.cell? (ad111.add (((ji50)).toNat * 2)) = some (.int .i64 ((rd_T43 (rd_L4 x108000_1 ((rd_T58 l1 x32_1).f0)) (ji50)).f0)) ∧ w'.cell? ⟨(ad111.add (((ji50)).toNat * 2)).block, (ad111.add (((ji50)).toNat * 2)).off + 1, none⟩ = some (.int .i64 ((rd_T43 (rd_L4 x108000_1 ((rd_T58 l1 x32_1).f0)) (ji50)).f1))) (ds := []) impl_Store_writeAll.y7 qa6 rfl rfl ⟨qc0 BK107.out, qc1 BK107.out, hx111_0, hx111_1⟩ (fun hHeld => ?_); refine with_tabW impl_Store_writeAll.tab12 impl_Store_writeAll.bits12 (fun HT_ HW_ => ?_); generalize w63.drew = w69 at HO_108000 HL110_0 BK101 BK102 BK107 BK109 HR110_0 HB hx111_0 hx111_1 hx110d hHeld ⊢; refine qPu 0 45 impl_Store_writeAll.y8 rfl rfl (any_of HT_.out qa6) qa8 qa3 ?_; refine qPu 1 46 impl_Store_writeAll.y9 rfl rfl (any_of HT_.out qa6) qa8 qa3 ?_; refine qPu 2 47 impl_Store_writeAll.y10 rfl rfl (any_of HT_.out qa6) qa8 qa3 ?_; refine qPu 3 48 impl_Store_writeAll.y11 rfl rfl (any_of HT_.out qa6) qa8 qa3 ?_; refine qPu 4 49 impl_Store_writeAll.y12 rfl rfl (any_of HT_.out qa6) qa8 qa3 ?_; refine qPu 5 50 impl_Store_writeAll.y13 rfl rfl (any_of HT_.out qa6) qa8 qa3 ?_; refine qPu 6 51 impl_Store_writeAll.y14 rfl rfl (any_of HT_.out qa6) qa8 qa3 ?_; refine qPu 8 53 impl_Store_writeAll.y15 rfl rfl (any_of HT_.out qa6) qa8 qa3 ?_; refine qTk 7 52 impl_Store_writeAll.y16 rfl rfl (take_ofW HT_.out HW_.out qa6) qa49 hHeld qa3 ?_; refine qTk 9 54 impl_Store_writeAll.y17 rfl rfl (take_ofW HT_.out HW_.out qa6) qa49 hHeld qa3 ?_; refine qPu 10 55 impl_Store_writeAll.y18 rfl rfl (any_of HT_.out qa6) qa8 qa3 ?_; refine qPu 11 56 impl_Store_writeAll.y19 rfl rfl (any_of HT_.out qa6) qa8 qa3 ?_; refine done_ (done_of HT_.out qa6) ?_; have q70 : ((ji50) : Int) ≤ (((rd_L4 x108000_1 ((rd_T58 l1 x32_1).f0)).length : Int) : Int) := qT qa2; obtain ⟨i070, hi070, _, hsz70, _⟩ := info_parts info43; have hroom70 : (rd_L4 x108000_1 ((rd_T58 l1 x32_1).f0)).length ≤ c110_0 := HC110_0.out; have hC70 : Kd.C k43 _ (some ad111) (rd_L4 x108000_1 ((rd_T58 l1 x32_1).f0)).length (rd_L4 x108000_1 ((rd_T58 l1 x32_1).f0)) := qa126; have hcut70 := cut_to (P := Try.prog) 41 43 .i64 Try.underlying41 hi070 (some ad111) (rd_L4 x108000_1 ((rd_T58 l1 x32_1).f0)).length c110_0 (ji50) (qT qa2) q70 hroom70; have hr70 := Kd.C_take (m := ((ji50) : Int).toNat) hC70 qa34; have hy70 : y112.length = ((ji50) : Int).toNat := (by rw [Ny112.out, List.length_take]; omega); rw [← Ny112.out] at hr70; rw [← hy70] at hcut70; have HR115 := qO hr70; have HC115 := qO (show y112.length ≤ c110_0 from by omega); clear hr70 hC70 hroom70 hi070 hsz70; have KY70 := qO hy70; clear hy70; replace q70 := eq_true q70; obtain ⟨hcz71_0, hcz71_1, hfz71_0, hfz71_1⟩ := qb2 BK107.out; obtain ⟨hcz72_0, hcz72_1, hfz72_0, hfz72_1⟩ := qb2 BK109.out; have p116 : 0 ≤ (((rd_T58 l1 x32_1).f0) : Int) := qT qa2; have q116 : ((rd_T58 l1 x32_1).f0) < (x108000_1.length : Int) := qT qa2; obtain ⟨ad116, A116_0, c116_0, e116, hx116_0, hl116_0, hi116_0⟩ := at_L4 (Kd.S_reads' HO_108000.out).2.2 ((rd_T58 l1 x32_1).f0) p116 q116; obtain rfl : ad110 = ad116 := (by injection e116); have ea_ := Option.some.inj (hx110d.symm.trans hx116_0); injection ea_ with ea_ en_ ec_; subst ea_; subst ec_; clear en_ hx110d; obtain ⟨ce116, hce116, hMe116, hcc116⟩ := Kd.S_get HO_108000.out [] ((rd_T58 l1 x32_1).f0) p116 (by first | exact q116 | exact qT (by first | (with_reducible assumption) | assumption) | (have e_ := (Kd.S_reads' HO_108000.out).1; omega)); obtain ⟨ve116_0, rfl, ge116_0⟩ := hMe116; have hv116_0 := hcc116 0 _ rfl; rw [Nat.add_zero, show ((Kd.slice 43 k43)).sz = 1 from rfl, Nat.mul_one] at hv116_0; replace hv116_0 := Option.some.inj (hv116_0.symm.trans hx116_0); rw [hv116_0] at ge116_0; have HL116_0 := qO (show Kd.R k43 43 _ _ _ _ (rd_L4 x108000_1 ((rd_T58 l1 x32_1).f0)) from ge116_0); clear hv116_0 ge116_0; have HX116_0 := qO hx116_0; clear hcc116 hce116; have HR116_0 := qO hi116_0; have HC116_0 := qO hl116_0; clear hi116_0 hl116_0; replace p116 := eq_true p116; replace q116 := eq_true q116; obtain ⟨go73, co73, eo73, gb73, gl73, cl73, HG73⟩ := Kd.S_form HO_108000.out (by have h_ : (((rd_T58 l1 x32_1).f0) : Int) < ((x108000_1.length : Int) : Int) := qT qa2; have h2_ : 0 ≤ (((rd_T58 l1 x32_1).f0) : Int) := (qT qa2); omega); (first | cases eo73 | (injection eo73 with ea_ en_ ec_; (first | subst ea_ | (injection ea_ with ea_; subst ea_)); subst ec_; clear en_)); have GB73 := qO gb73; have GG73 := qO HG73; clear gb73 gl73 HG73; (first | simp only [add_plain] at hx110_0 | skip); (first | simp only [add_plain] at hx116_0 | skip); obtain ⟨oki73, ce73, hcl73, hM73, hcc73, _, _, hH73⟩ := Kd.S_elem HO_108000.out [] (((rd_T58 l1 x32_1).f0) : Int) (qT qa2) (by have h_ : (((rd_T58 l1 x32_1).f0) : Int) < ((x108000_1.length : Int) : Int) := qT qa2; first | exact h_ | (have e_ := (Kd.S_reads' HO_108000.out).1; omega) | simpa using h_); obtain ⟨ve73_0, rfl, ge73_0⟩ := hM73; have hv73 := hcc73 0 _ rfl; have hX73 := HX116_0.out; (try simp only [add_plain] at hX73); (try simp only [Nat.add_zero] at hv73); (try rw [show ((Kd.slice 43 k43)).sz = 1 from rfl, Nat.mul_one] at hv73); replace hv73 := Option.some.inj (hv73.symm.trans hX73); subst hv73; clear hX73 hcc73 hcl73; have UU73 := qO (show Kd.R k43 43 _ w.heap.size oki73 (.slice (some ad111) (rd_L4 x108000_1 ((rd_T58 l1 x32_1).f0)).length c110_0) (rd_L4 x108000_1 ((rd_T58 l1 x32_1).f0)) from ge73_0); have HH73 := qO hH73; have HN73 := qO (Kd.S_reads' HO_108000.out).1; clear hH73 ge73_0
                have UC_ : Kd.R k43 43 w69 w.heap.size oki73 (.slice (some ad111) y112.length c110_0) y112 := by
                 have h_ := Kd.R_take (m := y112.length) UU73.out (by rw [Ny112.out, List.length_take]; omega); have e_ : (rd_L4 x108000_1 ((rd_T58 l1 x32_1).f0)).take y112.length = y112 := by rw [Ny112.out, List.length_take, ← List.take_eq_take_min]
                 rw [e_] at h_
                 exact h_
                clear UU73; have UU73 := qO UC_; clear UC_; have LY_ : y112.length ≤ (rd_L4 x108000_1 ((rd_T58 l1 x32_1).f0)).length := by rw [Ny112.out, List.length_take]; omega
                have LYA_ := qO LY_; clear LY_
                try go_wp2
                replace HH73 := qO (Kd.H_drew HH73.out); replace UU73 := qO (Kd.R_drew UU73.out); replace HL110_0 := qO (Kd.R_drew HL110_0.out); replace HL116_0 := qO (Kd.R_drew HL116_0.out); replace BK101 := qO (qkD BK101.out); replace BK102 := qO (qkD BK102.out); replace BK107 := qO (qkD BK107.out); replace BK109 := qO (qkD BK109.out); replace HB := qO (qbD HB.out); refine start_ (n := 14) (S := fun w' => w'.cell? ⟨gb107, 0, none⟩ = some (.slice (some ⟨go73, 0, none⟩) x108000_1.length co68) ∧ w'.cell? ⟨gb107, 1, none⟩ = some (.int .i64 (wrap64 (t106 + 1))) ∧ w'.cell? ⟨gb109, 0, none⟩ = some (.int .i64 ((rd_T58 l1 x32_1).f0)) ∧ w'.cell? ⟨gb109, 1, none⟩ = some (.int .i64 ((rd_T58 l1 x32_1).f1))) (ds := [13]) #[qf,qf,qf,qf,qf,qf,qf,qf,qf,qf,qf,qf,qf,qf] qa6 rfl rfl ⟨qc0 BK107.out, qc1 BK107.out, qc0 BK109.out, qc1 BK109.out⟩ (fun hHeld => ?_); refine with_tabW impl_Store_writeAll.tab14 impl_Store_writeAll.bits14 (fun HT_ HW_ => ?_); generalize w69.drew = w14a_ at HH73 UU73 HL110_0 HL116_0 BK101 BK102 BK107 BK109 HB hHeld ⊢; refine qPu 0 60 #[qt,qf,qf,qf,qf,qf,qf,qf,qf,qf,qf,qf,qf,qf] rfl rfl (any_of HT_.out qa6) qa8 qa3 ?_; refine qPu 2 62 #[qt,qf,qt,qf,qf,qf,qf,qf,qf,qf,qf,qf,qf,qf] rfl rfl (any_of HT_.out qa6) qa8 qa3 ?_; refine qPu 5 65 #[qt,qf,qt,qf,qf,qt,qf,qf,qf,qf,qf,qf,qf,qf] rfl rfl (any_of HT_.out qa6) qa8 qa3 ?_; refine qPu 7 67 #[qt,qf,qt,qf,qf,qt,qf,qt,qf,qf,qf,qf,qf,qf] rfl rfl (any_of HT_.out qa6) qa8 qa3 ?_; refine qPu 4 64 #[qt,qf,qt,qf,qt,qt,qf,qt,qf,qf,qf,qf,qf,qf] rfl rfl (any_of HT_.out qa6) qa8 qa3 ?_; refine qTk 1 61 #[qt,qt,qt,qf,qt,qt,qf,qt,qf,qf,qf,qf,qf,qf] rfl rfl (take_ofW HT_.out HW_.out qa6) qa49 hHeld qa3 ?_; refine qTk 3 63 #[qt,qt,qt,qt,qt,qt,qf,qt,qf,qf,qf,qf,qf,qf] rfl rfl (take_ofW HT_.out HW_.out qa6) qa49 hHeld qa3 ?_; refine qTk 6 66 #[qt,qt,qt,qt,qt,qt,qt,qt,qf,qf,qf,qf,qf,qf] rfl rfl (take_ofW HT_.out HW_.out qa6) qa49 hHeld qa3 ?_; refine qTk 8 68 #[qt,qt,qt,qt,qt,qt,qt,qt,qt,qf,qf,qf,qf,qf] rfl rfl (take_ofW HT_.out HW_.out qa6) qa49 hHeld qa3 ?_; refine qPu 9 69 #[qt,qt,qt,qt,qt,qt,qt,qt,qt,qt,qf,qf,qf,qf] rfl rfl (any_of HT_.out qa6) qa8 qa3 ?_; refine one_ (i := 10) (N := some 70) #[qt,qt,qt,qt,qt,qt,qt,qt,qt,qt,qt,qf,qf,qf] rfl rfl (one_of HT_.out qa6) qa60 (fun K hK => ?_); refine Kd.R_lit_step k43 _ 43 ?hg (N := 70) ?hd (xs := ([(⟨(wrap64 (t106 + 1)), (rd_T58 l1 x32_1).f1⟩ : S43)] : List (S43))) (inner := [.int .i64 (wrap64 (t106 + 1)), .int .i64 ((rd_T58 l1 x32_1).f1)]) (ok := fun _ => True) (okp := fun _ => True) ?hr ?hp (fun _ hk => hk) trivial (Below.refl _ _) (Nat.le_refl _) qa119 ?_; (case hd => rfl); (case hg => rfl); (case hr => exact qa18); (case hp => exact qa102); intro v14_ w14b_ hol_ hb hg_ hnew_; clear hg_ hnew_; have hsz_ := hb.size; obtain ⟨Al_, cl_, el_⟩ := Kd.R_slice hol_; subst el_; have HOL_ := qO hol_; have HSZ_ := qO hsz_; clear hsz_ hol_; replace HH73 := qO (Kd.H_below (Kd.H_widen HH73.out) hb); replace UU73 := qO (Kd.R_below UU73.out hb); replace HL110_0 := qO (Kd.R_below HL110_0.out hb); replace HL116_0 := qO (Kd.R_below HL116_0.out hb); replace BK101 := qO (blk_below (g := gb101) BK101.out hb); replace BK102 := qO (blk_below (g := gb102) BK102.out hb); replace BK107 := qO (blk_below (g := gb107) BK107.out hb); replace BK109 := qO (blk_below (g := gb109) BK109.out hb); replace HB := qO (below_step HB.out hb); clear hb; refine hK.out _ _ ⟨qc0 BK107.out, qc1 BK107.out, qc0 BK109.out, qc1 BK109.out⟩ (fun hHeld => ?_); clear hK K; refine norm_ (a' := ?_) ?_ ?_; rotate_left
                ·exact qa15
                refine one_ (i := 11) (N := some 71) #[qt,qt,qt,qt,qt,qt,qt,qt,qt,qt,qt,qt,qf,qf] rfl rfl (one_of HT_.out qa6) qa60 (fun K hK => ?_); refine Kd.R_append_rows_step k43 (w0 := w) w.heap.size (by rfl) (.tmp 64) (.tmp 70) 41 43 (.agg #[(.int .i64 0), (.int .i64 0)]) 16 rfl Try.underlying41 info43 rfl qa60 qa34 (.slice (some ad111) y112.length c110_0) y112 [(⟨(wrap64 (t106 + 1)), (rd_T58 l1 x32_1).f1⟩ : S43)] _ _ _ (fun k_ => oki73 k_ ∨ ((fun _ => True)) k_ ∧ w14a_.heap.size ≤ k_) (fun _ => False) rfl rfl ?aO ?aR (fun _ _ h => h) (fun _ h => h.elim) ?aF ?aB ?aS ?aL ?_; (case aR => exact (Kd.R_reads' HOL_.out).2.2); (case aB => exact HB.out); (case aF => exact qa193); (case aO => exact Kd.R_mono UU73.out (fun _ hk => .inl hk)); (case aS => exact below_size HB.out); (case aL => simp only [List.length_cons, List.length_nil]; have := LMc56.out; have := LYA_.out; omega); intro v118 w74 ho hb hg hat; rw [← Ny117.out] at ho; have n0_ := qO (blk_grown (g := gb101) (o := .cells #[.slice A0_0 l0_0.length c0_0, .int .i64 a0_1] 28 (0, 0)) qa4 hg (Kd.R_ne UU73.out BK101.out qa60)); have n1_ := qO (blk_grown (g := gb102) (o := .cells #[.slice none 0 0, .int .i64 0] 28 (0, 0)) qa23 hg (Kd.R_ne UU73.out BK102.out qa60)); have n2_ := qO (blk_grown (g := gb107) (o := .cells #[.slice (some ⟨go73, 0, none⟩) x108000_1.length co68, .int .i64 (wrap64 (t106 + 1))] 28 (0, 0)) qa55 hg (Kd.R_ne UU73.out BK107.out qa60)); have n3_ := qO (blk_grown (g := gb109) (o := .cells #[.int .i64 ((rd_T58 l1 x32_1).f0), .int .i64 ((rd_T58 l1 x32_1).f1)] 58 (0, 0)) qa125 hg (Kd.R_ne UU73.out BK109.out qa60)); have n4_ := qO (hb); have n5_ := qO (Kd.H_grown HH73.out hg (fun k_ e_ => .inl (UU73.out.1 k_ e_))); have n6_ := qO (ho); clear BK101 BK102 BK107 BK109 HB HH73 HO_108000 UU73 HL110_0 HL116_0; have BK101 := n0_; have BK102 := n1_; have BK107 := n2_; have BK109 := n3_; have HB := n4_; have HH73 := n5_; have HO119 := n6_; clear n0_ n1_ n2_ n3_ n4_ n5_ n6_ ho hb hg hat; have p57 : 0 ≤ (((rd_T58 l1 x32_1).f0) : Int) := qT qa2; have q57 : (((rd_T58 l1 x32_1).f0) : Int) < ((x108000_1.length : Int) : Int) := qT qa2; replace p57 := eq_true p57; replace q57 := eq_true q57; obtain ⟨Ao77, co77, eo77⟩ := Kd.R_slice HO119.out; subst eo77; obtain ⟨_, _, hraw75, _, _, hcc75, _⟩ := Kd.H_raw HH73.out (qT qa2) (by have h_ : (((rd_T58 l1 x32_1).f0) : Int) < ((x108000_1.length : Int) : Int) := qT qa2; first | exact h_ | (have e_ := (HN73.out); omega) | simpa using h_); obtain ⟨_, hfr75⟩ := Kd.H_at HH73.out (qT qa2) (by have h_ : (((rd_T58 l1 x32_1).f0) : Int) < ((x108000_1.length : Int) : Int) := qT qa2; first | exact h_ | (have e_ := (HN73.out); omega) | simpa using h_); have hx75_0 := hcc75 0 _ rfl; have hf75_0 := hfr75 0; (try simp only [Nat.add_zero] at hx75_0 hf75_0); (try rw [show ((Kd.slice 43 k43)).sz = 1 from rfl, Nat.mul_one] at hx75_0); (try rw [show ((Kd.slice 43 k43)).sz = 1 from rfl, Nat.mul_one] at hf75_0); have HP75 := Kd.S_seg0 HH73.out (qT qa2) (by have h_ : (((rd_T58 l1 x32_1).f0) : Int) < ((x108000_1.length : Int) : Int) := qT qa2; first | exact h_ | (have e_ := (HN73.out); omega) | simpa using h_) (seg := [.slice Ao77 y117.length co77]) (j := 0) (show 1 ≤ 1 from by decide) (x' := y117) (Kd.M_row HO119.out) (fun _ hk => hk); (try simp only [show ((Kd.slice 43 k43)).sz = 1 from rfl, Nat.mul_one, Nat.add_zero] at HP75); clear hcc75 hfr75; refine hK.out _ _ ⟨qc0 BK107.out, qc1 BK107.out, qc0 BK109.out, qc1 BK109.out⟩ (fun hHeld => ?_); clear hK K; refine norm_ (a' := ?_) ?_ ?_; rotate_left
                ·exact qa15
                refine qPu 12 72 #[qt,qt,qt,qt,qt,qt,qt,qt,qt,qt,qt,qt,qt,qf] rfl rfl (any_of HT_.out qa6) qa8 qa3 ?_; refine last_ (i := 13) (N := none) #[qt,qt,qt,qt,qt,qt,qt,qt,qt,qt,qt,qt,qt,qt] rfl rfl (one_of HT_.out qa6) qa60 (fun K hK => ?_); refine skip_ (w1 := (w74.setCell ⟨go73, (((rd_T58 l1 x32_1).f0) : Int).toNat, none⟩ (.slice Ao77 y117.length co77))) (by rfl) rfl ?hr ?_; (case hr => exact qa18); obtain ⟨w76, hw⟩ : ∃ x_, x_ = (w74.setCell ⟨go73, (((rd_T58 l1 x32_1).f0) : Int).toNat, none⟩ (.slice Ao77 y117.length co77)) := ⟨_, rfl⟩; rw [← hw]; have hg : w74.grownBy w76 (some go73) := (by rw [hw]; exact HP75.2); have hp_ : Kd.S (Kd.slice 43 k43) 41 w76 w.heap.size (fun _ => True) (.slice (some ⟨go73, 0, none⟩) x108000_1.length co68) y120 := (by rw [hw, Ny120.out]; exact HP75.1); clear HP75; have n0_ := qO (blk_grown (g := gb101) (o := .cells #[.slice A0_0 l0_0.length c0_0, .int .i64 a0_1] 28 (0, 0)) qa4 hg (Kd.R_ne hraw75 BK101.out qa60)); have n1_ := qO (blk_grown (g := gb102) (o := .cells #[.slice none 0 0, .int .i64 0] 28 (0, 0)) qa23 hg (Kd.R_ne hraw75 BK102.out qa60)); have n2_ := qO (blk_grown (g := gb107) (o := .cells #[.slice (some ⟨go73, 0, none⟩) x108000_1.length co68, .int .i64 (wrap64 (t106 + 1))] 28 (0, 0)) qa55 hg (Kd.R_ne hraw75 BK107.out qa60)); have n3_ := qO (blk_grown (g := gb109) (o := .cells #[.int .i64 ((rd_T58 l1 x32_1).f0), .int .i64 ((rd_T58 l1 x32_1).f1)] 58 (0, 0)) qa125 hg (Kd.R_ne hraw75 BK109.out qa60)); have n4_ := qO ((by rw [hw]; exact qbS HB.out GB73.out : Below w.heap.size w w76)); have n5_ := qO (hp_); clear BK101 BK102 BK107 BK109 HB HO119 HH73; have BK101 := n0_; have BK102 := n1_; have BK107 := n2_; have BK109 := n3_; have HB := n4_; have HO_108000 := n5_; clear n0_ n1_ n2_ n3_ n4_ n5_ hg hw hp_ hraw75; refine hK.out _ _ ?_; clear hK K; refine done_ (done_of HT_.out qa6) ?_
                try go_wp2
                go_roundg k1
                case measure => have := HK1.out; omega
                case rel => exact ⟨(wrap64 (x32_1 + 1)), (y120), (.slice (some ⟨go73, 0, none⟩) x108000_1.length co68), qa16, H', ⟨qa155⟩, ⟨qa64⟩, ⟨qa4⟩, ⟨qa23⟩, ⟨qa55⟩, ⟨qa121⟩⟩
               ·rw [if_neg c56] at H
                exact absurd H qa119
              ·rw [if_neg c55] at H
               exact absurd H qa119
             ·rw [if_neg c53] at H
              have c53b0 : (((rd_T43 (rd_L4 x108000_1 ((rd_T58 l1 x32_1).f0)) (ji50)).f0) == (wrap64 (t106 + 1))) = false := beq_eq_false_iff_ne.mpr c53; have c53b1 : (((rd_T43 (rd_L4 x108000_1 ((rd_T58 l1 x32_1).f0)) (ji50)).f0) != (wrap64 (t106 + 1))) = true := bne_iff_ne.mpr c53
              by_cases c78 : (rd_L4 x108000_1 ((rd_T58 l1 x32_1).f0)).length < 8796093022208
              ·rw [if_pos c78] at H
               have LMc78 := qO c78; clear c78; obtain ⟨y122, hy122⟩ : ∃ y_ : List (S43), y_ = ((rd_L4 x108000_1 ((rd_T58 l1 x32_1).f0)) ++ [(⟨(wrap64 (t106 + 1)), (rd_T58 l1 x32_1).f1⟩ : S43)]) := ⟨_, rfl⟩; replace H : (impl_Store_writeAll.l0 k1 l1 (l1.length : Int) (wrap64 (x32_1 + 1)) (x108000_1.set (((rd_T58 l1 x32_1).f0) : Int).toNat y122) (wrap64 (t106 + 1))) = some (r1, r2, r3, r4) := by first | (rw [hy122]; with_reducible exact H) | (have H2_ := (Option.bind_some _ _).symm.trans H; rw [hy122]; with_reducible exact H2_) | (have H2_ := (Option.bind_some _ _).symm.trans H; with_reducible exact H2_) | with_reducible exact H | (rw [hy122]; exact H) | exact H
               have Ny122 := qO hy122; clear hy122; obtain ⟨y125, hy125⟩ : ∃ y_ : List (List (S43)), y_ = (x108000_1.set (((rd_T58 l1 x32_1).f0) : Int).toNat y122) := ⟨_, rfl⟩; replace H : (impl_Store_writeAll.l0 k1 l1 (l1.length : Int) (wrap64 (x32_1 + 1)) y125 (wrap64 (t106 + 1))) = some (r1, r2, r3, r4) := by first | (rw [hy125]; with_reducible exact H) | (have H2_ := (Option.bind_some _ _).symm.trans H; rw [hy125]; with_reducible exact H2_) | (have H2_ := (Option.bind_some _ _).symm.trans H; with_reducible exact H2_) | with_reducible exact H | (rw [hy125]; exact H) | exact H
               have Ny125 := qO hy125; clear hy125; have H' := qO H; clear H; have p108 : 0 ≤ (x32_1 : Int) := qT qa2; have q108 : x32_1 < (l1.length : Int) := qT qa2; obtain ⟨ad108, e108, hx108_0, hx108_1⟩ := at_T58 HR1.out x32_1 p108 q108
               cases e108
               replace hx108_0 := (HB.out.cell (qL w _ hx108_0)).trans hx108_0; replace hx108_1 := (HB.out.cell (qL w _ hx108_1)).trans hx108_1; replace p108 := eq_true p108; replace q108 := eq_true q108
               try go_wp2_with (first | ((with_reducible refine gate_dst (N := 9) rfl ?_); refine qX 9 #[.int .i64 0, .int .i64 0] 58 ?_; intro gb109 hg w80 hbox hb; have hx_ := qHX HB hb qa1; have BK109 := qO (hbox); have GW109 := qO ((qa20 : w.heap.size ≤ gb109)); have GE109 := GW109; have NB101_109 := qO ((qa7 : gb101 ≠ gb109)); have NB109_101 := qO (Ne.symm NB101_109.out); have NB102_109 := qO ((qa35 : gb102 ≠ gb109)); have NB109_102 := qO (Ne.symm NB102_109.out); have NB107_109 := qO ((qa112 : gb107 ≠ gb109)); have NB109_107 := qO (Ne.symm NB107_109.out); replace HO_108000 := qO (Kd.S_below qa64 hb); replace BK101 := qO (qB BK101.out hx_ hb); replace BK102 := qO (qB BK102.out hx_ hb); replace BK107 := qO (qB BK107.out hx_ hb); replace HB := qO (below_step (below_step HB.out hx_) hb); clear hx_ hb hbox hg; have hnb81 := NB109_101.out; have hnc81 := NB101_109.out; have hnb82 := NB109_102.out; have hnc82 := NB102_109.out; have hnb83 := NB109_107.out; have hnc83 := NB107_109.out; obtain ⟨hcz84_0, hcz84_1, hfz84_0, hfz84_1⟩ := qb2 BK109.out) | ((with_reducible refine gate_store (t := 58) (p := 9) rfl ?_); refine store_event (t := 58) (p := 9) (v := ?vo_w85) (w1 := ((w80.setCell ⟨gb109, 0, none⟩ (.int .i64 ((rd_T58 l1 x32_1).f0))).setCell ⟨gb109, 1, none⟩ (.int .i64 ((rd_T58 l1 x32_1).f1)))) ?hg ?ho ?hn ?hr ?_; (case ho => rfl); (case hg => rfl); (case hn => rfl); (case hr => exact qa18); intro w85 hw; have n0_ : Aside0 (Kd.S (Kd.slice 43 k43) 41 w85 w.heap.size (fun _ => True) u108000 x108000_1) := ⟨qa72⟩; have n1_ : Aside0 (w85.heap[gb101]? = some (.cells #[.slice A0_0 l0_0.length c0_0, .int .i64 a0_1] 28 (0, 0))) := ⟨qa74⟩; have n2_ : Aside0 (w85.heap[gb102]? = some (.cells #[.slice none 0 0, .int .i64 0] 28 (0, 0))) := ⟨qa75⟩; have n3_ : Aside0 (w85.heap[gb107]? = some (.cells #[u108000, .int .i64 (wrap64 (t106 + 1))] 28 (0, 0))) := ⟨qa76⟩; have n4_ : Aside0 (w85.heap[gb109]? = some (.cells #[.int .i64 ((rd_T58 l1 x32_1).f0), .int .i64 ((rd_T58 l1 x32_1).f1)] 58 (0, 0))) := ⟨qa63⟩; have n5_ : Aside0 (Below w.heap.size w w85) := ⟨qa103⟩; clear hw HO_108000 BK101 BK102 BK107 BK109 HB; have HO_108000 := n0_; have BK101 := n1_; have BK102 := n2_; have BK107 := n3_; have BK109 := n4_; have HB := n5_; clear n0_ n1_ n2_ n3_ n4_ n5_; have hnb86 := NB107_101.out; have hnc86 := NB101_107.out; have hnb87 := NB107_102.out; have hnc87 := NB102_107.out; obtain ⟨hcz88_0, hcz88_1, hfz88_0, hfz88_1⟩ := qb2 BK107.out; obtain ⟨hcz89_0, hcz89_1, hfz89_0, hfz89_1⟩ := qb2 BK109.out; obtain ⟨Ao90, co90, eo90⟩ := Kd.S_slice HO_108000.out; subst eo90; have p110 : 0 ≤ (((rd_T58 l1 x32_1).f0) : Int) := qT qa2; have q110 : ((rd_T58 l1 x32_1).f0) < (x108000_1.length : Int) := qT qa2; obtain ⟨ad110, A110_0, c110_0, e110, hx110_0, hl110_0, hi110_0⟩ := at_L4 (Kd.S_reads' HO_108000.out).2.2 ((rd_T58 l1 x32_1).f0) p110 q110; cases e110; obtain ⟨ce110, hce110, hMe110, hcc110⟩ := Kd.S_get HO_108000.out [] ((rd_T58 l1 x32_1).f0) p110 qa146; obtain ⟨ve110_0, rfl, ge110_0⟩ := hMe110; have hv110_0 := hcc110 0 _ rfl; rw [Nat.add_zero, show ((Kd.slice 43 k43)).sz = 1 from rfl, Nat.mul_one] at hv110_0; replace hv110_0 := Option.some.inj (hv110_0.symm.trans hx110_0); rw [hv110_0] at ge110_0; have HL110_0 := qO (show Kd.R k43 43 _ _ _ _ (rd_L4 x108000_1 ((rd_T58 l1 x32_1).f0)) from ge110_0); clear hv110_0 ge110_0; have HX110_0 := qO hx110_0; clear hcc110 hce110; have HR110_0 := qO hi110_0; have HC110_0 := qO hl110_0; clear hi110_0 hl110_0; replace p110 := eq_true p110; replace q110 := eq_true q110))
               replace HO_108000 := qO (Kd.S_drew HO_108000.out); replace HL110_0 := qO (Kd.R_drew HL110_0.out); replace BK101 := qO (qkD BK101.out); replace BK102 := qO (qkD BK102.out); replace BK107 := qO (qkD BK107.out); replace BK109 := qO (qkD BK109.out); replace HR110_0 := qO (Kd.C_drew HR110_0.out); replace HB := qO (qbD HB.out); have p111 : 0 ≤ ((ji50) : Int) := qT qa2; have q111 : (ji50) < ((rd_L4 x108000_1 ((rd_T58 l1 x32_1).f0)).length : Int) := qT qa2; obtain ⟨ad111, e111, hx111_0, hx111_1⟩ := at_T43 qa126 (ji50) p111 q111
               cases e111
               replace p111 := eq_true p111; replace q111 := eq_true q111; have hx110d : w85.drew.cell? (ad110.add (((rd_T58 l1 x32_1).f0)).toNat) = some (.slice (some ad111) (rd_L4 x108000_1 ((rd_T58 l1 x32_1).f0)).length c110_0) := hx110_0; refine start_ (n := 12) (S := fun w' => w'.cell? ⟨gb107, 0, none⟩ = some (.slice (some ad110) x108000_1.length co90) ∧ w'.cell? ⟨gb107, 1, none⟩ = some (.int .i64 (wrap64 (t106 + 1))) ∧ w'.cell? (ad111.add (((ji50)).toNat * 2)) = some (.int .i64 ((rd_T43 (rd_L4 x108000_1 ((rd_T58 l1 x32_1).f0)) (ji50)).f0)) ∧ w'.cell? ⟨(ad111.add (((ji50)).toNat * 2)).block, (ad111.add (((ji50)).toNat * 2)).off + 1, none⟩ = some (.int .i64 ((rd_T43 (rd_L4 x108000_1 ((rd_T58 l1 x32_1).f0)) (ji50)).f1))) (ds := []) impl_Store_writeAll.y7 qa6 rfl rfl ⟨qc0 BK107.out, qc1 BK107.out, hx111_0, hx111_1⟩ (fun hHeld => ?_); refine with_tabW impl_Store_writeAll.tab12 impl_Store_writeAll.bits12 (fun HT_ HW_ => ?_); generalize w85.drew = w91 at HO_108000 HL110_0 BK101 BK102 BK107 BK109 HR110_0 HB hx111_0 hx111_1 hx110d hHeld ⊢; refine qPu 0 45 impl_Store_writeAll.y8 rfl rfl (any_of HT_.out qa6) qa8 qa3 ?_; refine qPu 1 46 impl_Store_writeAll.y9 rfl rfl (any_of HT_.out qa6) qa8 qa3 ?_; refine qPu 2 47 impl_Store_writeAll.y10 rfl rfl (any_of HT_.out qa6) qa8 qa3 ?_; refine qPu 3 48 impl_Store_writeAll.y11 rfl rfl (any_of HT_.out qa6) qa8 qa3 ?_; refine qPu 4 49 impl_Store_writeAll.y12 rfl rfl (any_of HT_.out qa6) qa8 qa3 ?_; refine qPu 5 50 impl_Store_writeAll.y13 rfl rfl (any_of HT_.out qa6) qa8 qa3 ?_; refine qPu 6 51 impl_Store_writeAll.y14 rfl rfl (any_of HT_.out qa6) qa8 qa3 ?_; refine qPu 8 53 impl_Store_writeAll.y15 rfl rfl (any_of HT_.out qa6) qa8 qa3 ?_; refine qTk 7 52 impl_Store_writeAll.y16 rfl rfl (take_ofW HT_.out HW_.out qa6) qa49 hHeld qa3 ?_; refine qTk 9 54 impl_Store_writeAll.y17 rfl rfl (take_ofW HT_.out HW_.out qa6) qa49 hHeld qa3 ?_; refine qPu 10 55 impl_Store_writeAll.y18 rfl rfl (any_of HT_.out qa6) qa8 qa3 ?_; refine qPu 11 56 impl_Store_writeAll.y19 rfl rfl (any_of HT_.out qa6) qa8 qa3 ?_; refine done_ (done_of HT_.out qa6) ?_; obtain ⟨hcz92_0, hcz92_1, hfz92_0, hfz92_1⟩ := qb2 BK107.out; obtain ⟨hcz93_0, hcz93_1, hfz93_0, hfz93_1⟩ := qb2 BK109.out; have p121 : 0 ≤ (((rd_T58 l1 x32_1).f0) : Int) := qT qa2; have q121 : ((rd_T58 l1 x32_1).f0) < (x108000_1.length : Int) := qT qa2; obtain ⟨ad121, A121_0, c121_0, e121, hx121_0, hl121_0, hi121_0⟩ := at_L4 (Kd.S_reads' HO_108000.out).2.2 ((rd_T58 l1 x32_1).f0) p121 q121; obtain rfl : ad110 = ad121 := (by injection e121); have ea_ := Option.some.inj (hx110d.symm.trans hx121_0); injection ea_ with ea_ en_ ec_; subst ea_; subst ec_; clear en_ hx110d; obtain ⟨ce121, hce121, hMe121, hcc121⟩ := Kd.S_get HO_108000.out [] ((rd_T58 l1 x32_1).f0) p121 (by first | exact q121 | exact qT (by first | (with_reducible assumption) | assumption) | (have e_ := (Kd.S_reads' HO_108000.out).1; omega)); obtain ⟨ve121_0, rfl, ge121_0⟩ := hMe121; have hv121_0 := hcc121 0 _ rfl; rw [Nat.add_zero, show ((Kd.slice 43 k43)).sz = 1 from rfl, Nat.mul_one] at hv121_0; replace hv121_0 := Option.some.inj (hv121_0.symm.trans hx121_0); rw [hv121_0] at ge121_0; have HL121_0 := qO (show Kd.R k43 43 _ _ _ _ (rd_L4 x108000_1 ((rd_T58 l1 x32_1).f0)) from ge121_0); clear hv121_0 ge121_0; have HX121_0 := qO hx121_0; clear hcc121 hce121; have HR121_0 := qO hi121_0; have HC121_0 := qO hl121_0; clear hi121_0 hl121_0; replace p121 := eq_true p121; replace q121 := eq_true q121; obtain ⟨go94, co94, eo94, gb94, gl94, cl94, HG94⟩ := Kd.S_form HO_108000.out (by have h_ : (((rd_T58 l1 x32_1).f0) : Int) < ((x108000_1.length : Int) : Int) := qT qa2; have h2_ : 0 ≤ (((rd_T58 l1 x32_1).f0) : Int) := (qT qa2); omega); (first | cases eo94 | (injection eo94 with ea_ en_ ec_; (first | subst ea_ | (injection ea_ with ea_; subst ea_)); subst ec_; clear en_)); have GB94 := qO gb94; have GG94 := qO HG94; clear gb94 gl94 HG94; (first | simp only [add_plain] at hx110_0 | skip); (first | simp only [add_plain] at hx121_0 | skip); obtain ⟨oki94, ce94, hcl94, hM94, hcc94, _, _, hH94⟩ := Kd.S_elem HO_108000.out [] (((rd_T58 l1 x32_1).f0) : Int) (qT qa2) (by have h_ : (((rd_T58 l1 x32_1).f0) : Int) < ((x108000_1.length : Int) : Int) := qT qa2; first | exact h_ | (have e_ := (Kd.S_reads' HO_108000.out).1; omega) | simpa using h_); obtain ⟨ve94_0, rfl, ge94_0⟩ := hM94; have hv94 := hcc94 0 _ rfl; have hX94 := HX121_0.out; (try simp only [add_plain] at hX94); (try simp only [Nat.add_zero] at hv94); (try rw [show ((Kd.slice 43 k43)).sz = 1 from rfl, Nat.mul_one] at hv94); replace hv94 := Option.some.inj (hv94.symm.trans hX94); subst hv94; clear hX94 hcc94 hcl94; have UU94 := qO (show Kd.R k43 43 _ w.heap.size oki94 (.slice (some ad111) (rd_L4 x108000_1 ((rd_T58 l1 x32_1).f0)).length c110_0) (rd_L4 x108000_1 ((rd_T58 l1 x32_1).f0)) from ge94_0); have HH94 := qO hH94; have HN94 := qO (Kd.S_reads' HO_108000.out).1; clear hH94 ge94_0
               try go_wp2
               replace HH94 := qO (Kd.H_drew HH94.out); replace UU94 := qO (Kd.R_drew UU94.out); replace HL110_0 := qO (Kd.R_drew HL110_0.out); replace HL121_0 := qO (Kd.R_drew HL121_0.out); replace BK101 := qO (qkD BK101.out); replace BK102 := qO (qkD BK102.out); replace BK107 := qO (qkD BK107.out); replace BK109 := qO (qkD BK109.out); replace HB := qO (qbD HB.out); refine start_ (n := 14) (S := fun w' => w'.cell? ⟨gb107, 0, none⟩ = some (.slice (some ⟨go94, 0, none⟩) x108000_1.length co90) ∧ w'.cell? ⟨gb107, 1, none⟩ = some (.int .i64 (wrap64 (t106 + 1))) ∧ w'.cell? ⟨gb109, 0, none⟩ = some (.int .i64 ((rd_T58 l1 x32_1).f0)) ∧ w'.cell? ⟨gb109, 1, none⟩ = some (.int .i64 ((rd_T58 l1 x32_1).f1))) (ds := [13]) #[qf,qf,qf,qf,qf,qf,qf,qf,qf,qf,qf,qf,qf,qf] qa6 rfl rfl ⟨qc0 BK107.out, qc1 BK107.out, qc0 BK109.out, qc1 BK109.out⟩ (fun hHeld => ?_); refine with_tabW impl_Store_writeAll.tab14 impl_Store_writeAll.bits14 (fun HT_ HW_ => ?_); generalize w91.drew = w14a_ at HH94 UU94 HL110_0 HL121_0 BK101 BK102 BK107 BK109 HB hHeld ⊢; refine qPu 0 60 #[qt,qf,qf,qf,qf,qf,qf,qf,qf,qf,qf,qf,qf,qf] rfl rfl (any_of HT_.out qa6) qa8 qa3 ?_; refine qPu 2 62 #[qt,qf,qt,qf,qf,qf,qf,qf,qf,qf,qf,qf,qf,qf] rfl rfl (any_of HT_.out qa6) qa8 qa3 ?_; refine qPu 5 65 #[qt,qf,qt,qf,qf,qt,qf,qf,qf,qf,qf,qf,qf,qf] rfl rfl (any_of HT_.out qa6) qa8 qa3 ?_; refine qPu 7 67 #[qt,qf,qt,qf,qf,qt,qf,qt,qf,qf,qf,qf,qf,qf] rfl rfl (any_of HT_.out qa6) qa8 qa3 ?_; refine qPu 4 64 #[qt,qf,qt,qf,qt,qt,qf,qt,qf,qf,qf,qf,qf,qf] rfl rfl (any_of HT_.out qa6) qa8 qa3 ?_; refine qTk 1 61 #[qt,qt,qt,qf,qt,qt,qf,qt,qf,qf,qf,qf,qf,qf] rfl rfl (take_ofW HT_.out HW_.out qa6) qa49 hHeld qa3 ?_; refine qTk 3 63 #[qt,qt,qt,qt,qt,qt,qf,qt,qf,qf,qf,qf,qf,qf] rfl rfl (take_ofW HT_.out HW_.out qa6) qa49 hHeld qa3 ?_; refine qTk 6 66 #[qt,qt,qt,qt,qt,qt,qt,qt,qf,qf,qf,qf,qf,qf] rfl rfl (take_ofW HT_.out HW_.out qa6) qa49 hHeld qa3 ?_; refine qTk 8 68 #[qt,qt,qt,qt,qt,qt,qt,qt,qt,qf,qf,qf,qf,qf] rfl rfl (take_ofW HT_.out HW_.out qa6) qa49 hHeld qa3 ?_; refine qPu 9 69 #[qt,qt,qt,qt,qt,qt,qt,qt,qt,qt,qf,qf,qf,qf] rfl rfl (any_of HT_.out qa6) qa8 qa3 ?_; refine one_ (i := 10) (N := some 70) #[qt,qt,qt,qt,qt,qt,qt,qt,qt,qt,qt,qf,qf,qf] rfl rfl (one_of HT_.out qa6) qa60 (fun K hK => ?_); refine Kd.R_lit_step k43 _ 43 ?hg (N := 70) ?hd (xs := ([(⟨(wrap64 (t106 + 1)), (rd_T58 l1 x32_1).f1⟩ : S43)] : List (S43))) (inner := [.int .i64 (wrap64 (t106 + 1)), .int .i64 ((rd_T58 l1 x32_1).f1)]) (ok := fun _ => True) (okp := fun _ => True) ?hr ?hp (fun _ hk => hk) trivial (Below.refl _ _) (Nat.le_refl _) qa119 ?_; (case hd => rfl); (case hg => rfl); (case hr => exact qa18); (case hp => exact qa102); intro v14_ w14b_ hol_ hb hg_ hnew_; clear hg_ hnew_; have hsz_ := hb.size; obtain ⟨Al_, cl_, el_⟩ := Kd.R_slice hol_; subst el_; have HOL_ := qO hol_; have HSZ_ := qO hsz_; clear hsz_ hol_; replace HH94 := qO (Kd.H_below (Kd.H_widen HH94.out) hb); replace UU94 := qO (Kd.R_below UU94.out hb); replace HL110_0 := qO (Kd.R_below HL110_0.out hb); replace HL121_0 := qO (Kd.R_below HL121_0.out hb); replace BK101 := qO (blk_below (g := gb101) BK101.out hb); replace BK102 := qO (blk_below (g := gb102) BK102.out hb); replace BK107 := qO (blk_below (g := gb107) BK107.out hb); replace BK109 := qO (blk_below (g := gb109) BK109.out hb); replace HB := qO (below_step HB.out hb); clear hb; refine hK.out _ _ ⟨qc0 BK107.out, qc1 BK107.out, qc0 BK109.out, qc1 BK109.out⟩ (fun hHeld => ?_); clear hK K; refine norm_ (a' := ?_) ?_ ?_; rotate_left
               ·exact qa15
               refine one_ (i := 11) (N := some 71) #[qt,qt,qt,qt,qt,qt,qt,qt,qt,qt,qt,qt,qf,qf] rfl rfl (one_of HT_.out qa6) qa60 (fun K hK => ?_); refine Kd.R_append_rows_step k43 (w0 := w) w.heap.size (by rfl) (.tmp 64) (.tmp 70) 41 43 (.agg #[(.int .i64 0), (.int .i64 0)]) 16 rfl Try.underlying41 info43 rfl qa60 qa34 (.slice (some ad111) (rd_L4 x108000_1 ((rd_T58 l1 x32_1).f0)).length c110_0) (rd_L4 x108000_1 ((rd_T58 l1 x32_1).f0)) [(⟨(wrap64 (t106 + 1)), (rd_T58 l1 x32_1).f1⟩ : S43)] _ _ _ (fun k_ => oki94 k_ ∨ ((fun _ => True)) k_ ∧ w14a_.heap.size ≤ k_) (fun _ => False) rfl rfl ?aO ?aR (fun _ _ h => h) (fun _ h => h.elim) ?aF ?aB ?aS ?aL ?_; (case aR => exact (Kd.R_reads' HOL_.out).2.2); (case aB => exact HB.out); (case aF => exact qa193); (case aO => exact Kd.R_mono UU94.out (fun _ hk => .inl hk)); (case aS => exact below_size HB.out); (case aL => simp only [List.length_cons, List.length_nil]; have := LMc78.out; omega); intro v123 w95 ho hb hg hat; rw [← Ny122.out] at ho; have n0_ := qO (blk_grown (g := gb101) (o := .cells #[.slice A0_0 l0_0.length c0_0, .int .i64 a0_1] 28 (0, 0)) qa4 hg (Kd.R_ne UU94.out BK101.out qa60)); have n1_ := qO (blk_grown (g := gb102) (o := .cells #[.slice none 0 0, .int .i64 0] 28 (0, 0)) qa23 hg (Kd.R_ne UU94.out BK102.out qa60)); have n2_ := qO (blk_grown (g := gb107) (o := .cells #[.slice (some ⟨go94, 0, none⟩) x108000_1.length co90, .int .i64 (wrap64 (t106 + 1))] 28 (0, 0)) qa55 hg (Kd.R_ne UU94.out BK107.out qa60)); have n3_ := qO (blk_grown (g := gb109) (o := .cells #[.int .i64 ((rd_T58 l1 x32_1).f0), .int .i64 ((rd_T58 l1 x32_1).f1)] 58 (0, 0)) qa125 hg (Kd.R_ne UU94.out BK109.out qa60)); have n4_ := qO (hb); have n5_ := qO (Kd.H_grown HH94.out hg (fun k_ e_ => .inl (UU94.out.1 k_ e_))); have n6_ := qO (ho); clear BK101 BK102 BK107 BK109 HB HH94 HO_108000 UU94 HL110_0 HL121_0; have BK101 := n0_; have BK102 := n1_; have BK107 := n2_; have BK109 := n3_; have HB := n4_; have HH94 := n5_; have HO124 := n6_; clear n0_ n1_ n2_ n3_ n4_ n5_ n6_ ho hb hg hat; have p79 : 0 ≤ (((rd_T58 l1 x32_1).f0) : Int) := qT qa2; have q79 : (((rd_T58 l1 x32_1).f0) : Int) < ((x108000_1.length : Int) : Int) := qT qa2; replace p79 := eq_true p79; replace q79 := eq_true q79; obtain ⟨Ao98, co98, eo98⟩ := Kd.R_slice HO124.out; subst eo98; obtain ⟨_, _, hraw96, _, _, hcc96, _⟩ := Kd.H_raw HH94.out (qT qa2) (by have h_ : (((rd_T58 l1 x32_1).f0) : Int) < ((x108000_1.length : Int) : Int) := qT qa2; first | exact h_ | (have e_ := (HN94.out); omega) | simpa using h_); obtain ⟨_, hfr96⟩ := Kd.H_at HH94.out (qT qa2) (by have h_ : (((rd_T58 l1 x32_1).f0) : Int) < ((x108000_1.length : Int) : Int) := qT qa2; first | exact h_ | (have e_ := (HN94.out); omega) | simpa using h_); have hx96_0 := hcc96 0 _ rfl; have hf96_0 := hfr96 0; (try simp only [Nat.add_zero] at hx96_0 hf96_0); (try rw [show ((Kd.slice 43 k43)).sz = 1 from rfl, Nat.mul_one] at hx96_0); (try rw [show ((Kd.slice 43 k43)).sz = 1 from rfl, Nat.mul_one] at hf96_0); have HP96 := Kd.S_seg0 HH94.out (qT qa2) (by have h_ : (((rd_T58 l1 x32_1).f0) : Int) < ((x108000_1.length : Int) : Int) := qT qa2; first | exact h_ | (have e_ := (HN94.out); omega) | simpa using h_) (seg := [.slice Ao98 y122.length co98]) (j := 0) (show 1 ≤ 1 from by decide) (x' := y122) (Kd.M_row HO124.out) (fun _ hk => hk); (try simp only [show ((Kd.slice 43 k43)).sz = 1 from rfl, Nat.mul_one, Nat.add_zero] at HP96); clear hcc96 hfr96; refine hK.out _ _ ⟨qc0 BK107.out, qc1 BK107.out, qc0 BK109.out, qc1 BK109.out⟩ (fun hHeld => ?_); clear hK K; refine norm_ (a' := ?_) ?_ ?_; rotate_left
               ·exact qa15
               refine qPu 12 72 #[qt,qt,qt,qt,qt,qt,qt,qt,qt,qt,qt,qt,qt,qf] rfl rfl (any_of HT_.out qa6) qa8 qa3 ?_; refine last_ (i := 13) (N := none) #[qt,qt,qt,qt,qt,qt,qt,qt,qt,qt,qt,qt,qt,qt] rfl rfl (one_of HT_.out qa6) qa60 (fun K hK => ?_); refine skip_ (w1 := (w95.setCell ⟨go94, (((rd_T58 l1 x32_1).f0) : Int).toNat, none⟩ (.slice Ao98 y122.length co98))) (by rfl) rfl ?hr ?_; (case hr => exact qa18); obtain ⟨w97, hw⟩ : ∃ x_, x_ = (w95.setCell ⟨go94, (((rd_T58 l1 x32_1).f0) : Int).toNat, none⟩ (.slice Ao98 y122.length co98)) := ⟨_, rfl⟩; rw [← hw]; have hg : w95.grownBy w97 (some go94) := (by rw [hw]; exact HP96.2); have hp_ : Kd.S (Kd.slice 43 k43) 41 w97 w.heap.size (fun _ => True) (.slice (some ⟨go94, 0, none⟩) x108000_1.length co90) y125 := (by rw [hw, Ny125.out]; exact HP96.1); clear HP96; have n0_ := qO (blk_grown (g := gb101) (o := .cells #[.slice A0_0 l0_0.length c0_0, .int .i64 a0_1] 28 (0, 0)) qa4 hg (Kd.R_ne hraw96 BK101.out qa60)); have n1_ := qO (blk_grown (g := gb102) (o := .cells #[.slice none 0 0, .int .i64 0] 28 (0, 0)) qa23 hg (Kd.R_ne hraw96 BK102.out qa60)); have n2_ := qO (blk_grown (g := gb107) (o := .cells #[.slice (some ⟨go94, 0, none⟩) x108000_1.length co90, .int .i64 (wrap64 (t106 + 1))] 28 (0, 0)) qa55 hg (Kd.R_ne hraw96 BK107.out qa60)); have n3_ := qO (blk_grown (g := gb109) (o := .cells #[.int .i64 ((rd_T58 l1 x32_1).f0), .int .i64 ((rd_T58 l1 x32_1).f1)] 58 (0, 0)) qa125 hg (Kd.R_ne hraw96 BK109.out qa60)); have n4_ := qO ((by rw [hw]; exact qbS HB.out GB94.out : Below w.heap.size w w97)); have n5_ := qO (hp_); clear BK101 BK102 BK107 BK109 HB HO124 HH94; have BK101 := n0_; have BK102 := n1_; have BK107 := n2_; have BK109 := n3_; have HB := n4_; have HO_108000 := n5_; clear n0_ n1_ n2_ n3_ n4_ n5_ hg hw hp_ hraw96; refine hK.out _ _ ?_; clear hK K; refine done_ (done_of HT_.out qa6) ?_
               try go_wp2
               go_roundg k1
               case measure => have := HK1.out; omega
               case rel => exact ⟨(wrap64 (x32_1 + 1)), (y125), (.slice (some ⟨go94, 0, none⟩) x108000_1.length co90), qa16, H', ⟨qa155⟩, ⟨qa64⟩, ⟨qa4⟩, ⟨qa23⟩, ⟨qa55⟩, ⟨qa121⟩⟩
              ·rw [if_neg c78] at H
               exact absurd H qa119
            ·rw [if_neg c52] at H
             exact absurd H qa119
           ·rw [if_neg c51] at H
            exact absurd H qa119
          ·rw [if_neg c49] at H
           have c49b0 : decide (0 ≤ (wrap64 (((rd_L4 x108000_1 ((rd_T58 l1 x32_1).f0)).length : Int) - 1))) = false := decide_eq_false c49; clear c49
           by_cases c99 : (rd_L4 x108000_1 ((rd_T58 l1 x32_1).f0)).length < 8796093022208
           ·rw [if_pos c99] at H
            have LMc99 := qO c99; clear c99; obtain ⟨y127, hy127⟩ : ∃ y_ : List (S43), y_ = ((rd_L4 x108000_1 ((rd_T58 l1 x32_1).f0)) ++ [(⟨(wrap64 (t106 + 1)), (rd_T58 l1 x32_1).f1⟩ : S43)]) := ⟨_, rfl⟩; replace H : (impl_Store_writeAll.l0 k1 l1 (l1.length : Int) (wrap64 (x32_1 + 1)) (x108000_1.set (((rd_T58 l1 x32_1).f0) : Int).toNat y127) (wrap64 (t106 + 1))) = some (r1, r2, r3, r4) := by first | (rw [hy127]; with_reducible exact H) | (have H2_ := (Option.bind_some _ _).symm.trans H; rw [hy127]; with_reducible exact H2_) | (have H2_ := (Option.bind_some _ _).symm.trans H; with_reducible exact H2_) | with_reducible exact H | (rw [hy127]; exact H) | exact H
            have Ny127 := qO hy127; clear hy127; obtain ⟨y130, hy130⟩ : ∃ y_ : List (List (S43)), y_ = (x108000_1.set (((rd_T58 l1 x32_1).f0) : Int).toNat y127) := ⟨_, rfl⟩; replace H : (impl_Store_writeAll.l0 k1 l1 (l1.length : Int) (wrap64 (x32_1 + 1)) y130 (wrap64 (t106 + 1))) = some (r1, r2, r3, r4) := by first | (rw [hy130]; with_reducible exact H) | (have H2_ := (Option.bind_some _ _).symm.trans H; rw [hy130]; with_reducible exact H2_) | (have H2_ := (Option.bind_some _ _).symm.trans H; with_reducible exact H2_) | with_reducible exact H | (rw [hy130]; exact H) | exact H
            have Ny130 := qO hy130; clear hy130; have H' := qO H; clear H; have p108 : 0 ≤ (x32_1 : Int) := qT qa2; have q108 : x32_1 < (l1.length : Int) := qT qa2; obtain ⟨ad108, e108, hx108_0, hx108_1⟩ := at_T58 HR1.out x32_1 p108 q108
            cases e108
            replace hx108_0 := (HB.out.cell (qL w _ hx108_0)).trans hx108_0; replace hx108_1 := (HB.out.cell (qL w _ hx108_1)).trans hx108_1; replace p108 := eq_true p108; replace q108 := eq_true q108
            try go_wp2_with (first | ((with_reducible refine gate_dst (N := 9) rfl ?_); refine qX 9 #[.int .i64 0, .int .i64 0] 58 ?_; intro gb109 hg w101 hbox hb; have hx_ := qHX HB hb qa1; have BK109 := qO (hbox); have GW109 := qO ((qa20 : w.heap.size ≤ gb109)); have GE109 := GW109; have NB101_109 := qO ((qa7 : gb101 ≠ gb109)); have NB109_101 := qO (Ne.symm NB101_109.out); have NB102_109 := qO ((qa35 : gb102 ≠ gb109)); have NB109_102 := qO (Ne.symm NB102_109.out); have NB107_109 := qO ((qa112 : gb107 ≠ gb109)); have NB109_107 := qO (Ne.symm NB107_109.out); replace HO_108000 := qO (Kd.S_below qa64 hb); replace BK101 := qO (qB BK101.out hx_ hb); replace BK102 := qO (qB BK102.out hx_ hb); replace BK107 := qO (qB BK107.out hx_ hb); replace HB := qO (below_step (below_step HB.out hx_) hb); clear hx_ hb hbox hg; have hnb102 := NB109_101.out; have hnc102 := NB101_109.out; have hnb103 := NB109_102.out; have hnc103 := NB102_109.out; have hnb104 := NB109_107.out; have hnc104 := NB107_109.out; obtain ⟨hcz105_0, hcz105_1, hfz105_0, hfz105_1⟩ := qb2 BK109.out) | ((with_reducible refine gate_store (t := 58) (p := 9) rfl ?_); refine store_event (t := 58) (p := 9) (v := ?vo_w106) (w1 := ((w101.setCell ⟨gb109, 0, none⟩ (.int .i64 ((rd_T58 l1 x32_1).f0))).setCell ⟨gb109, 1, none⟩ (.int .i64 ((rd_T58 l1 x32_1).f1)))) ?hg ?ho ?hn ?hr ?_; (case ho => rfl); (case hg => rfl); (case hn => rfl); (case hr => exact qa18); intro w106 hw; have n0_ : Aside0 (Kd.S (Kd.slice 43 k43) 41 w106 w.heap.size (fun _ => True) u108000 x108000_1) := ⟨qa72⟩; have n1_ : Aside0 (w106.heap[gb101]? = some (.cells #[.slice A0_0 l0_0.length c0_0, .int .i64 a0_1] 28 (0, 0))) := ⟨qa74⟩; have n2_ : Aside0 (w106.heap[gb102]? = some (.cells #[.slice none 0 0, .int .i64 0] 28 (0, 0))) := ⟨qa75⟩; have n3_ : Aside0 (w106.heap[gb107]? = some (.cells #[u108000, .int .i64 (wrap64 (t106 + 1))] 28 (0, 0))) := ⟨qa76⟩; have n4_ : Aside0 (w106.heap[gb109]? = some (.cells #[.int .i64 ((rd_T58 l1 x32_1).f0), .int .i64 ((rd_T58 l1 x32_1).f1)] 58 (0, 0))) := ⟨qa63⟩; have n5_ : Aside0 (Below w.heap.size w w106) := ⟨qa103⟩; clear hw HO_108000 BK101 BK102 BK107 BK109 HB; have HO_108000 := n0_; have BK101 := n1_; have BK102 := n2_; have BK107 := n3_; have BK109 := n4_; have HB := n5_; clear n0_ n1_ n2_ n3_ n4_ n5_; have hnb107 := NB107_101.out; have hnc107 := NB101_107.out; have hnb108 := NB107_102.out; have hnc108 := NB102_107.out; obtain ⟨hcz109_0, hcz109_1, hfz109_0, hfz109_1⟩ := qb2 BK107.out; obtain ⟨hcz110_0, hcz110_1, hfz110_0, hfz110_1⟩ := qb2 BK109.out; obtain ⟨Ao111, co111, eo111⟩ := Kd.S_slice HO_108000.out; subst eo111; have p110 : 0 ≤ (((rd_T58 l1 x32_1).f0) : Int) := qT qa2; have q110 : ((rd_T58 l1 x32_1).f0) < (x108000_1.length : Int) := qT qa2; obtain ⟨ad110, A110_0, c110_0, e110, hx110_0, hl110_0, hi110_0⟩ := at_L4 (Kd.S_reads' HO_108000.out).2.2 ((rd_T58 l1 x32_1).f0) p110 q110; cases e110; obtain ⟨ce110, hce110, hMe110, hcc110⟩ := Kd.S_get HO_108000.out [] ((rd_T58 l1 x32_1).f0) p110 qa146; obtain ⟨ve110_0, rfl, ge110_0⟩ := hMe110; have hv110_0 := hcc110 0 _ rfl; rw [Nat.add_zero, show ((Kd.slice 43 k43)).sz = 1 from rfl, Nat.mul_one] at hv110_0; replace hv110_0 := Option.some.inj (hv110_0.symm.trans hx110_0); rw [hv110_0] at ge110_0; have HL110_0 := qO (show Kd.R k43 43 _ _ _ _ (rd_L4 x108000_1 ((rd_T58 l1 x32_1).f0)) from ge110_0); clear hv110_0 ge110_0; have HX110_0 := qO hx110_0; clear hcc110 hce110; have HR110_0 := qO hi110_0; have HC110_0 := qO hl110_0; clear hi110_0 hl110_0; replace p110 := eq_true p110; replace q110 := eq_true q110))
            replace HO_108000 := qO (Kd.S_drew HO_108000.out); replace HL110_0 := qO (Kd.R_drew HL110_0.out); replace BK101 := qO (qkD BK101.out); replace BK102 := qO (qkD BK102.out); replace BK107 := qO (qkD BK107.out); replace BK109 := qO (qkD BK109.out); replace HR110_0 := qO (Kd.C_drew HR110_0.out); replace HB := qO (qbD HB.out); have hx110d : w106.drew.cell? (ad110.add (((rd_T58 l1 x32_1).f0)).toNat) = some (.slice A110_0 (rd_L4 x108000_1 ((rd_T58 l1 x32_1).f0)).length c110_0) := hx110_0; refine start_ (n := 12) (S := fun w' => True) (ds := []) impl_Store_writeAll.y7 qa6 rfl rfl trivial (fun hHeld => ?_); refine with_tabW impl_Store_writeAll.tab12 impl_Store_writeAll.bits12 (fun HT_ HW_ => ?_); generalize w106.drew = w112 at HO_108000 HL110_0 BK101 BK102 BK107 BK109 HR110_0 HB hx110d hHeld ⊢; refine qPu 0 45 impl_Store_writeAll.y8 rfl rfl (any_of HT_.out qa6) qa8 qa3 ?_; refine qPu 1 46 impl_Store_writeAll.y9 rfl rfl (any_of HT_.out qa6) qa8 qa3 ?_; refine qPu 2 47 impl_Store_writeAll.y10 rfl rfl (any_of HT_.out qa6) qa8 qa3 ?_; refine pure_ (i := 3) (N := some 48) (v := undef) (a' := ?_) impl_Store_writeAll.y11 rfl rfl (any_of HT_.out qa6) (fun _ _ _ h => h) (Or.inr ⟨by rfl, rfl⟩) ?_ ?_; rotate_left
            ·simp only [Act.put, qzA, qzB, qzC, i64_w, i32_w]
             rfl
            refine pure_ (i := 4) (N := some 49) (v := undef) (a' := ?_) impl_Store_writeAll.y12 rfl rfl (any_of HT_.out qa6) (fun _ _ _ h => h) (Or.inr ⟨by rfl, rfl⟩) ?_ ?_; rotate_left
            ·simp only [Act.put, qzA, qzB, qzC, i64_w, i32_w]
             rfl
            refine pure_ (i := 5) (N := some 50) (v := undef) (a' := ?_) impl_Store_writeAll.y13 rfl rfl (any_of HT_.out qa6) (fun _ _ _ h => h) (Or.inr ⟨by rfl, rfl⟩) ?_ ?_; rotate_left
            ·simp only [Act.put, qzA, qzB, qzC, i64_w, i32_w]
             rfl
            refine pure_ (i := 6) (N := some 51) (v := undef) (a' := ?_) impl_Store_writeAll.y14 rfl rfl (any_of HT_.out qa6) (fun _ _ _ h => h) (Or.inr ⟨by rfl, rfl⟩) ?_ ?_; rotate_left
            ·simp only [Act.put, qzA, qzB, qzC, i64_w, i32_w]
             rfl
            refine pure_ (i := 7) (N := some 52) (v := undef) (a' := ?_) impl_Store_writeAll.y20 rfl rfl (any_of HT_.out qa6) (fun _ _ _ h => h) (Or.inr ⟨by rfl, rfl⟩) ?_ ?_; rotate_left
            ·simp only [Act.put, qzA, qzB, qzC, i64_w, i32_w]
             rfl
            refine pure_ (i := 8) (N := some 53) (v := undef) (a' := ?_) impl_Store_writeAll.y16 rfl rfl (any_of HT_.out qa6) (fun _ _ _ h => h) (Or.inr ⟨by rfl, rfl⟩) ?_ ?_; rotate_left
            ·simp only [Act.put, qzA, qzB, qzC, i64_w, i32_w]
             rfl
            refine pure_ (i := 9) (N := some 54) (v := undef) (a' := ?_) impl_Store_writeAll.y17 rfl rfl (any_of HT_.out qa6) (fun _ _ _ h => h) (Or.inr ⟨by rfl, rfl⟩) ?_ ?_; rotate_left
            ·simp only [Act.put, qzA, qzB, qzC, i64_w, i32_w]
             rfl
            refine pure_ (i := 10) (N := some 55) (v := undef) (a' := ?_) impl_Store_writeAll.y18 rfl rfl (any_of HT_.out qa6) (fun _ _ _ h => h) (Or.inr ⟨by rfl, rfl⟩) ?_ ?_; rotate_left
            ·simp only [Act.put, qzA, qzB, qzC, i64_w, i32_w]
             rfl
            refine qPu 11 56 impl_Store_writeAll.y19 rfl rfl (any_of HT_.out qa6) qa8 qa3 ?_; refine done_ (done_of HT_.out qa6) ?_; obtain ⟨hcz113_0, hcz113_1, hfz113_0, hfz113_1⟩ := qb2 BK107.out; obtain ⟨hcz114_0, hcz114_1, hfz114_0, hfz114_1⟩ := qb2 BK109.out; have p126 : 0 ≤ (((rd_T58 l1 x32_1).f0) : Int) := qT qa2; have q126 : ((rd_T58 l1 x32_1).f0) < (x108000_1.length : Int) := qT qa2; obtain ⟨ad126, A126_0, c126_0, e126, hx126_0, hl126_0, hi126_0⟩ := at_L4 (Kd.S_reads' HO_108000.out).2.2 ((rd_T58 l1 x32_1).f0) p126 q126; obtain rfl : ad110 = ad126 := (by injection e126); have ea_ := Option.some.inj (hx110d.symm.trans hx126_0); injection ea_ with ea_ en_ ec_; subst ea_; subst ec_; clear en_ hx110d; obtain ⟨ce126, hce126, hMe126, hcc126⟩ := Kd.S_get HO_108000.out [] ((rd_T58 l1 x32_1).f0) p126 (by first | exact q126 | exact qT (by first | (with_reducible assumption) | assumption) | (have e_ := (Kd.S_reads' HO_108000.out).1; omega)); obtain ⟨ve126_0, rfl, ge126_0⟩ := hMe126; have hv126_0 := hcc126 0 _ rfl; rw [Nat.add_zero, show ((Kd.slice 43 k43)).sz = 1 from rfl, Nat.mul_one] at hv126_0; replace hv126_0 := Option.some.inj (hv126_0.symm.trans hx126_0); rw [hv126_0] at ge126_0; have HL126_0 := qO (show Kd.R k43 43 _ _ _ _ (rd_L4 x108000_1 ((rd_T58 l1 x32_1).f0)) from ge126_0); clear hv126_0 ge126_0; have HX126_0 := qO hx126_0; clear hcc126 hce126; have HR126_0 := qO hi126_0; have HC126_0 := qO hl126_0; clear hi126_0 hl126_0; replace p126 := eq_true p126; replace q126 := eq_true q126; obtain ⟨go115, co115, eo115, gb115, gl115, cl115, HG115⟩ := Kd.S_form HO_108000.out (by have h_ : (((rd_T58 l1 x32_1).f0) : Int) < ((x108000_1.length : Int) : Int) := qT qa2; have h2_ : 0 ≤ (((rd_T58 l1 x32_1).f0) : Int) := (qT qa2); omega); (first | cases eo115 | (injection eo115 with ea_ en_ ec_; (first | subst ea_ | (injection ea_ with ea_; subst ea_)); subst ec_; clear en_)); have GB115 := qO gb115; have GG115 := qO HG115; clear gb115 gl115 HG115; (first | simp only [add_plain] at hx110_0 | skip); (first | simp only [add_plain] at hx126_0 | skip); obtain ⟨oki115, ce115, hcl115, hM115, hcc115, _, _, hH115⟩ := Kd.S_elem HO_108000.out [] (((rd_T58 l1 x32_1).f0) : Int) (qT qa2) (by have h_ : (((rd_T58 l1 x32_1).f0) : Int) < ((x108000_1.length : Int) : Int) := qT qa2; first | exact h_ | (have e_ := (Kd.S_reads' HO_108000.out).1; omega) | simpa using h_); obtain ⟨ve115_0, rfl, ge115_0⟩ := hM115; have hv115 := hcc115 0 _ rfl; have hX115 := HX126_0.out; (try simp only [add_plain] at hX115); (try simp only [Nat.add_zero] at hv115); (try rw [show ((Kd.slice 43 k43)).sz = 1 from rfl, Nat.mul_one] at hv115); replace hv115 := Option.some.inj (hv115.symm.trans hX115); subst hv115; clear hX115 hcc115 hcl115; have UU115 := qO (show Kd.R k43 43 _ w.heap.size oki115 (.slice A110_0 (rd_L4 x108000_1 ((rd_T58 l1 x32_1).f0)).length c110_0) (rd_L4 x108000_1 ((rd_T58 l1 x32_1).f0)) from ge115_0); have HH115 := qO hH115; have HN115 := qO (Kd.S_reads' HO_108000.out).1; clear hH115 ge115_0
            try go_wp2
            replace HH115 := qO (Kd.H_drew HH115.out); replace UU115 := qO (Kd.R_drew UU115.out); replace HL110_0 := qO (Kd.R_drew HL110_0.out); replace HL126_0 := qO (Kd.R_drew HL126_0.out); replace BK101 := qO (qkD BK101.out); replace BK102 := qO (qkD BK102.out); replace BK107 := qO (qkD BK107.out); replace BK109 := qO (qkD BK109.out); replace HB := qO (qbD HB.out); refine start_ (n := 14) (S := fun w' => w'.cell? ⟨gb107, 0, none⟩ = some (.slice (some ⟨go115, 0, none⟩) x108000_1.length co111) ∧ w'.cell? ⟨gb107, 1, none⟩ = some (.int .i64 (wrap64 (t106 + 1))) ∧ w'.cell? ⟨gb109, 0, none⟩ = some (.int .i64 ((rd_T58 l1 x32_1).f0)) ∧ w'.cell? ⟨gb109, 1, none⟩ = some (.int .i64 ((rd_T58 l1 x32_1).f1))) (ds := [13]) #[qf,qf,qf,qf,qf,qf,qf,qf,qf,qf,qf,qf,qf,qf] qa6 rfl rfl ⟨qc0 BK107.out, qc1 BK107.out, qc0 BK109.out, qc1 BK109.out⟩ (fun hHeld => ?_); refine with_tabW impl_Store_writeAll.tab14 impl_Store_writeAll.bits14 (fun HT_ HW_ => ?_); generalize w112.drew = w14a_ at HH115 UU115 HL110_0 HL126_0 BK101 BK102 BK107 BK109 HB hHeld ⊢; refine qPu 0 60 #[qt,qf,qf,qf,qf,qf,qf,qf,qf,qf,qf,qf,qf,qf] rfl rfl (any_of HT_.out qa6) qa8 qa3 ?_; refine qPu 2 62 #[qt,qf,qt,qf,qf,qf,qf,qf,qf,qf,qf,qf,qf,qf] rfl rfl (any_of HT_.out qa6) qa8 qa3 ?_; refine qPu 5 65 #[qt,qf,qt,qf,qf,qt,qf,qf,qf,qf,qf,qf,qf,qf] rfl rfl (any_of HT_.out qa6) qa8 qa3 ?_; refine qPu 7 67 #[qt,qf,qt,qf,qf,qt,qf,qt,qf,qf,qf,qf,qf,qf] rfl rfl (any_of HT_.out qa6) qa8 qa3 ?_; refine qPu 4 64 #[qt,qf,qt,qf,qt,qt,qf,qt,qf,qf,qf,qf,qf,qf] rfl rfl (any_of HT_.out qa6) qa8 qa3 ?_; refine qTk 1 61 #[qt,qt,qt,qf,qt,qt,qf,qt,qf,qf,qf,qf,qf,qf] rfl rfl (take_ofW HT_.out HW_.out qa6) qa49 hHeld qa3 ?_; refine qTk 3 63 #[qt,qt,qt,qt,qt,qt,qf,qt,qf,qf,qf,qf,qf,qf] rfl rfl (take_ofW HT_.out HW_.out qa6) qa49 hHeld qa3 ?_; refine qTk 6 66 #[qt,qt,qt,qt,qt,qt,qt,qt,qf,qf,qf,qf,qf,qf] rfl rfl (take_ofW HT_.out HW_.out qa6) qa49 hHeld qa3 ?_; refine qTk 8 68 #[qt,qt,qt,qt,qt,qt,qt,qt,qt,qf,qf,qf,qf,qf] rfl rfl (take_ofW HT_.out HW_.out qa6) qa49 hHeld qa3 ?_; refine qPu 9 69 #[qt,qt,qt,qt,qt,qt,qt,qt,qt,qt,qf,qf,qf,qf] rfl rfl (any_of HT_.out qa6) qa8 qa3 ?_; refine one_ (i := 10) (N := some 70) #[qt,qt,qt,qt,qt,qt,qt,qt,qt,qt,qt,qf,qf,qf] rfl rfl (one_of HT_.out qa6) qa60 (fun K hK => ?_); refine Kd.R_lit_step k43 _ 43 ?hg (N := 70) ?hd (xs := ([(⟨(wrap64 (t106 + 1)), (rd_T58 l1 x32_1).f1⟩ : S43)] : List (S43))) (inner := [.int .i64 (wrap64 (t106 + 1)), .int .i64 ((rd_T58 l1 x32_1).f1)]) (ok := fun _ => True) (okp := fun _ => True) ?hr ?hp (fun _ hk => hk) trivial (Below.refl _ _) (Nat.le_refl _) qa119 ?_; (case hd => rfl); (case hg => rfl); (case hr => exact qa18); (case hp => exact qa102); intro v14_ w14b_ hol_ hb hg_ hnew_; clear hg_ hnew_; have hsz_ := hb.size; obtain ⟨Al_, cl_, el_⟩ := Kd.R_slice hol_; subst el_; have HOL_ := qO hol_; have HSZ_ := qO hsz_; clear hsz_ hol_; replace HH115 := qO (Kd.H_below (Kd.H_widen HH115.out) hb); replace UU115 := qO (Kd.R_below UU115.out hb); replace HL110_0 := qO (Kd.R_below HL110_0.out hb); replace HL126_0 := qO (Kd.R_below HL126_0.out hb); replace BK101 := qO (blk_below (g := gb101) BK101.out hb); replace BK102 := qO (blk_below (g := gb102) BK102.out hb); replace BK107 := qO (blk_below (g := gb107) BK107.out hb); replace BK109 := qO (blk_below (g := gb109) BK109.out hb); replace HB := qO (below_step HB.out hb); clear hb; refine hK.out _ _ ⟨qc0 BK107.out, qc1 BK107.out, qc0 BK109.out, qc1 BK109.out⟩ (fun hHeld => ?_); clear hK K; refine norm_ (a' := ?_) ?_ ?_; rotate_left
            ·exact qa15
            refine one_ (i := 11) (N := some 71) #[qt,qt,qt,qt,qt,qt,qt,qt,qt,qt,qt,qt,qf,qf] rfl rfl (one_of HT_.out qa6) qa60 (fun K hK => ?_); refine Kd.R_append_rows_step k43 (w0 := w) w.heap.size (by rfl) (.tmp 64) (.tmp 70) 41 43 (.agg #[(.int .i64 0), (.int .i64 0)]) 16 rfl Try.underlying41 info43 rfl qa60 qa34 (.slice A110_0 (rd_L4 x108000_1 ((rd_T58 l1 x32_1).f0)).length c110_0) (rd_L4 x108000_1 ((rd_T58 l1 x32_1).f0)) [(⟨(wrap64 (t106 + 1)), (rd_T58 l1 x32_1).f1⟩ : S43)] _ _ _ (fun k_ => oki115 k_ ∨ ((fun _ => True)) k_ ∧ w14a_.heap.size ≤ k_) (fun _ => False) rfl rfl ?aO ?aR (fun _ _ h => h) (fun _ h => h.elim) ?aF ?aB ?aS ?aL ?_; (case aR => exact (Kd.R_reads' HOL_.out).2.2); (case aB => exact HB.out); (case aF => exact qa193); (case aO => exact Kd.R_mono UU115.out (fun _ hk => .inl hk)); (case aS => exact below_size HB.out); (case aL => simp only [List.length_cons, List.length_nil]; have := LMc99.out; omega); intro v128 w116 ho hb hg hat; rw [← Ny127.out] at ho; have n0_ := qO (blk_grown (g := gb101) (o := .cells #[.slice A0_0 l0_0.length c0_0, .int .i64 a0_1] 28 (0, 0)) qa4 hg (Kd.R_ne UU115.out BK101.out qa60)); have n1_ := qO (blk_grown (g := gb102) (o := .cells #[.slice none 0 0, .int .i64 0] 28 (0, 0)) qa23 hg (Kd.R_ne UU115.out BK102.out qa60)); have n2_ := qO (blk_grown (g := gb107) (o := .cells #[.slice (some ⟨go115, 0, none⟩) x108000_1.length co111, .int .i64 (wrap64 (t106 + 1))] 28 (0, 0)) qa55 hg (Kd.R_ne UU115.out BK107.out qa60)); have n3_ := qO (blk_grown (g := gb109) (o := .cells #[.int .i64 ((rd_T58 l1 x32_1).f0), .int .i64 ((rd_T58 l1 x32_1).f1)] 58 (0, 0)) qa125 hg (Kd.R_ne UU115.out BK109.out qa60)); have n4_ := qO (hb); have n5_ := qO (Kd.H_grown HH115.out hg (fun k_ e_ => .inl (UU115.out.1 k_ e_))); have n6_ := qO (ho); clear BK101 BK102 BK107 BK109 HB HH115 HO_108000 UU115 HL110_0 HL126_0; have BK101 := n0_; have BK102 := n1_; have BK107 := n2_; have BK109 := n3_; have HB := n4_; have HH115 := n5_; have HO129 := n6_; clear n0_ n1_ n2_ n3_ n4_ n5_ n6_ ho hb hg hat; have p100 : 0 ≤ (((rd_T58 l1 x32_1).f0) : Int) := qT qa2; have q100 : (((rd_T58 l1 x32_1).f0) : Int) < ((x108000_1.length : Int) : Int) := qT qa2; replace p100 := eq_true p100; replace q100 := eq_true q100; obtain ⟨Ao119, co119, eo119⟩ := Kd.R_slice HO129.out; subst eo119; obtain ⟨_, _, hraw117, _, _, hcc117, _⟩ := Kd.H_raw HH115.out (qT qa2) (by have h_ : (((rd_T58 l1 x32_1).f0) : Int) < ((x108000_1.length : Int) : Int) := qT qa2; first | exact h_ | (have e_ := (HN115.out); omega) | simpa using h_); obtain ⟨_, hfr117⟩ := Kd.H_at HH115.out (qT qa2) (by have h_ : (((rd_T58 l1 x32_1).f0) : Int) < ((x108000_1.length : Int) : Int) := qT qa2; first | exact h_ | (have e_ := (HN115.out); omega) | simpa using h_); have hx117_0 := hcc117 0 _ rfl; have hf117_0 := hfr117 0; (try simp only [Nat.add_zero] at hx117_0 hf117_0); (try rw [show ((Kd.slice 43 k43)).sz = 1 from rfl, Nat.mul_one] at hx117_0); (try rw [show ((Kd.slice 43 k43)).sz = 1 from rfl, Nat.mul_one] at hf117_0); have HP117 := Kd.S_seg0 HH115.out (qT qa2) (by have h_ : (((rd_T58 l1 x32_1).f0) : Int) < ((x108000_1.length : Int) : Int) := qT qa2; first | exact h_ | (have e_ := (HN115.out); omega) | simpa using h_) (seg := [.slice Ao119 y127.length co119]) (j := 0) (show 1 ≤ 1 from by decide) (x' := y127) (Kd.M_row HO129.out) (fun _ hk => hk); (try simp only [show ((Kd.slice 43 k43)).sz = 1 from rfl, Nat.mul_one, Nat.add_zero] at HP117); clear hcc117 hfr117; refine hK.out _ _ ⟨qc0 BK107.out, qc1 BK107.out, qc0 BK109.out, qc1 BK109.out⟩ (fun hHeld => ?_); clear hK K; refine norm_ (a' := ?_) ?_ ?_; rotate_left
            ·exact qa15
            refine qPu 12 72 #[qt,qt,qt,qt,qt,qt,qt,qt,qt,qt,qt,qt,qt,qf] rfl rfl (any_of HT_.out qa6) qa8 qa3 ?_; refine last_ (i := 13) (N := none) #[qt,qt,qt,qt,qt,qt,qt,qt,qt,qt,qt,qt,qt,qt] rfl rfl (one_of HT_.out qa6) qa60 (fun K hK => ?_); refine skip_ (w1 := (w116.setCell ⟨go115, (((rd_T58 l1 x32_1).f0) : Int).toNat, none⟩ (.slice Ao119 y127.length co119))) (by rfl) rfl ?hr ?_; (case hr => exact qa18); obtain ⟨w118, hw⟩ : ∃ x_, x_ = (w116.setCell ⟨go115, (((rd_T58 l1 x32_1).f0) : Int).toNat, none⟩ (.slice Ao119 y127.length co119)) := ⟨_, rfl⟩; rw [← hw]; have hg : w116.grownBy w118 (some go115) := (by rw [hw]; exact HP117.2); have hp_ : Kd.S (Kd.slice 43 k43) 41 w118 w.heap.size (fun _ => True) (.slice (some ⟨go115, 0, none⟩) x108000_1.length co111) y130 := (by rw [hw, Ny130.out]; exact HP117.1); clear HP117; have n0_ := qO (blk_grown (g := gb101) (o := .cells #[.slice A0_0 l0_0.length c0_0, .int .i64 a0_1] 28 (0, 0)) qa4 hg (Kd.R_ne hraw117 BK101.out qa60)); have n1_ := qO (blk_grown (g := gb102) (o := .cells #[.slice none 0 0, .int .i64 0] 28 (0, 0)) qa23 hg (Kd.R_ne hraw117 BK102.out qa60)); have n2_ := qO (blk_grown (g := gb107) (o := .cells #[.slice (some ⟨go115, 0, none⟩) x108000_1.length co111, .int .i64 (wrap64 (t106 + 1))] 28 (0, 0)) qa55 hg (Kd.R_ne hraw117 BK107.out qa60)); have n3_ := qO (blk_grown (g := gb109) (o := .cells #[.int .i64 ((rd_T58 l1 x32_1).f0), .int .i64 ((rd_T58 l1 x32_1).f1)] 58 (0, 0)) qa125 hg (Kd.R_ne hraw117 BK109.out qa60)); have n4_ := qO ((by rw [hw]; exact qbS HB.out GB115.out : Below w.heap.size w w118)); have n5_ := qO (hp_); clear BK101 BK102 BK107 BK109 HB HO129 HH115; have BK101 := n0_; have BK102 := n1_; have BK107 := n2_; have BK109 := n3_; have HB := n4_; have HO_108000 := n5_; clear n0_ n1_ n2_ n3_ n4_ n5_ hg hw hp_ hraw117; refine hK.out _ _ ?_; clear hK K; refine done_ (done_of HT_.out qa6) ?_
            try go_wp2
            go_roundg k1
            case measure => have := HK1.out; omega
            case rel => exact ⟨(wrap64 (x32_1 + 1)), (y130), (.slice (some ⟨go115, 0, none⟩) x108000_1.length co111), qa16, H', ⟨qa155⟩, ⟨qa64⟩, ⟨qa4⟩, ⟨qa23⟩, ⟨qa55⟩, ⟨qa121⟩⟩
           ·rw [if_neg c99] at H
            exact absurd H qa119
         ·rw [if_neg c48] at H
          exact absurd H qa119
        ·rw [if_neg c47] at H
         exact absurd H qa119
       ·rw [if_neg c46] at H
        exact absurd H qa119
      ·rw [if_neg c45] at H
       exact absurd H qa119
     ·rw [if_neg c44] at H
      have c44b0 : decide (x32_1 < (l1.length : Int)) = false := decide_eq_false c44; clear c44; simp only [Option.some.injEq, Prod.mk.injEq] at H; obtain ⟨rfl, rfl, rfl, rfl⟩ := H
      try go_wp2
      replace HO_108000 := qO (Kd.S_drew HO_108000.out); replace BK101 := qO (qkD BK101.out); replace BK102 := qO (qkD BK102.out); replace BK107 := qO (qkD BK107.out); replace HB := qO (qbD HB.out); obtain ⟨Ao121, co121, eo121⟩ := Kd.S_slice HO_108000.out; (first | subst eo121 | (injection eo121 with f1_ f2_ f3_; have f4_ := f1_.symm; have f5_ := f3_.symm; clear f1_ f2_ f3_; subst f4_; subst f5_)); refine start_ (n := 6) (S := fun w' => w'.cell? ⟨gb107, 0, none⟩ = some (.slice Ao121 x108000_1.length co121) ∧ w'.cell? ⟨gb107, 1, none⟩ = some (.int .i64 (wrap64 (t106 + 1)))) (ds := []) impl_Store_writeAll.y0 qa6 rfl rfl ⟨qc0 BK107.out, qc1 BK107.out⟩ (fun hHeld => ?_); generalize wr.drew = w120 at HO_108000 BK101 BK102 BK107 HB hHeld ⊢; refine qPu 1 75 impl_Store_writeAll.y1 rfl rfl qa6 qa8 qa3 ?_; refine qTk 0 74 impl_Store_writeAll.y2 rfl rfl qa6 qa101 hHeld qa3 ?_; refine qTk 2 76 impl_Store_writeAll.y3 rfl rfl qa6 qa101 hHeld qa3 ?_; refine one_ (i := 3) (N := none) impl_Store_writeAll.y4 rfl rfl qa6 qa60 (fun K hK => ?_); have hs122 := qc0 BK102.out; have hfs122 := blk_frozen BK102.out 0; have hns122_0 := NB101_102.out; have hns122_2 := NB107_102.out; have hms122_0 := NB102_101.out; have hms122_2 := NB102_107.out; have hs123 := qc1 BK102.out; have hfs123 := blk_frozen BK102.out 1; have hns123_0 := NB101_102.out; have hns123_2 := NB107_102.out; have hms123_0 := NB102_101.out; have hms123_2 := NB102_107.out; refine skip_ (w1 := ?_) (by rfl) rfl ?_ ?_; rotate_left
      ·go_simp
       rfl
      refine hK.out _ _ ⟨((cell_far (p := ⟨gb102, _, none⟩) NB107_102.out _).trans (((cell_far (p := ⟨gb102, _, none⟩) NB107_102.out _).trans (hHeld.1)))), ((cell_far (p := ⟨gb102, _, none⟩) NB107_102.out _).trans (((cell_far (p := ⟨gb102, _, none⟩) NB107_102.out _).trans (hHeld.2))))⟩ (fun hHeld => ?_); clear hK K; refine qPu 4 5 impl_Store_writeAll.y5 rfl rfl qa6 qa8 qa3 ?_; refine qPu 5 6 impl_Store_writeAll.y6 rfl rfl qa6 qa8 qa3 ?_; refine done_ qa6 ?_
      try go_wp2
      refine bodyPost_ret (results_ctt rfl _ _ gb102 28 #[.slice Ao121 x108000_1.length co121, .int .i64 (wrap64 (t106 + 1))] (0, 0) _ rfl (by (with_reducible repeat (first | refine qkN ?_ _ | refine qkD ?_ | refine qkA ?_ _)); refine blk_put (cs := #[.slice Ao121 x108000_1.length co121, .int .i64 0]) ?_ 1 _ rfl; (with_reducible repeat (first | refine qkN ?_ _ | refine qkD ?_ | refine qkA ?_ _)); refine blk_put (cs := #[.slice none 0 0, .int .i64 0]) ?_ 0 _ rfl; (with_reducible repeat (first | refine qkN ?_ _ | refine qkD ?_ | refine qkA ?_ _)); exact BK102.out) Try.underlying28 rfl qa6) rfl ?_
      exact ⟨_, qa10, by (with_reducible repeat (first | apply Kd.S_alloc | apply Kd.S_drewN | apply Kd.S_drew)); exact Kd.S_mono (Kd.S_far (p := ⟨gb102, 1, none⟩) (Kd.S_far (p := ⟨gb102, 0, none⟩) (Kd.S_types HO_108000.out BK102.out (by decide)) (fun _ hk => hk.2) (.slice Ao121 x108000_1.length co121)) (fun _ hk => hk.2) (.int .i64 (wrap64 (t106 + 1)))) (fun _ hk => trivial), qa45⟩

end Go.Proofs.Ytfiboooflebdpaa.Q
namespace Go.Proofs.Ytfiboooflebdpaa.Pure2
open Go.RowKit Go.Proofs.Ytfiboooflebdpaa.Q Go.Proofs.YtfiboooflebdpaaW.PrintWords Go.Proofs.YtfiboooflebdpaaW.PrintLast
set_option linter.unusedVariables false
set_option linter.unusedSimpArgs false
/-! what is written at one hour -/
def putRow (now v : Int) (c : List S43) : List S43 := (if 0 < c.length ∧ (c.getD (c.length - 1) z43).f0 = now then c.take (c.length - 1) else c) ++ [⟨now, v⟩]
def putOne (now : Int) (cs : List (List S43)) (p : S58) : List (List S43) := cs.set p.f0.toNat (putRow now p.f1 (cs.getD p.f0.toNat []))
def putsIn (now : Int) (cs : List (List S43)) (l : List S58) : List (List S43) := l.foldl (putOne now) cs
theorem putRow_len (now v : Int) (c : List S43) : (putRow now v c).length ≤ c.length + 1 := by
  unfold putRow
  rw [List.length_append]
  split
  · rw [List.length_take]; simp only [List.length_cons, List.length_nil]; omega
  · simp only [List.length_cons, List.length_nil]; omega
theorem putOne_len (now : Int) (cs : List (List S43)) (p : S58) : (putOne now cs p).length = cs.length := by unfold putOne; rw [List.length_set]
theorem putOne_rows (now : Int) (cs : List (List S43)) (p : S58) (n : Nat) (hx : ∀ x ∈ cs, x.length ≤ n) : ∀ x ∈ putOne now cs p, x.length ≤ n + 1 := by
  intro x hx'
  unfold putOne at hx'
  rcases List.mem_or_eq_of_mem_set hx' with h | rfl
  · have := hx x h; omega
  · have h1 := putRow_len now p.f1 (cs.getD p.f0.toNat [])
    by_cases h : p.f0.toNat < cs.length
    · have h2 := hx _ (row_mem cs p.f0.toNat h); omega
    · rw [List.getD_eq_getElem?_getD, List.getElem?_eq_none qa34] at h1 ⊢
      simp only [Option.getD_none, List.length_nil] at h1; simp only [Option.getD_none]
      omega
theorem puts_next (l : List S58) (j : Nat) (hj : j < l.length) (now : Int) (cs : List (List S43)) : putsIn now cs (l.drop j) = putsIn now (putOne now cs (l.getD j z58)) (l.drop (j + 1)) := by
  have hg : l.getD j z58 = l[j] := by rw [List.getD_eq_getElem?_getD, List.getElem?_eq_getElem hj]; rfl
  unfold putsIn
  rw [List.drop_eq_getElem_cons hj, List.foldl_cons, hg]
theorem spec_write_loop (l : List S58) (now : Int) (hl : l.length ≤ 400) (hp : ∀ j, j < l.length → 0 ≤ (l.getD j z58).f0 ∧ (l.getD j z58).f0 ≤ 15) : ∀ d j cs, j ≤ l.length → l.length - j = d → cs.length = 16 → (∀ x ∈ cs, x.length ≤ 200000 + j) →
    Ev (fun k => spec_l06Write.l0 k l (j : Int) cs now) (putsIn now cs (l.drop j), now) := by
  intro d
  induction d with
  | zero =>
    intro j cs hj hd hc hx; obtain rfl : j = l.length := by omega
    rw [List.drop_eq_nil_of_le (Nat.le_refl _)]
    exact ev_now ⟨0, fun k _ => by simp only [spec_l06Write.l0]; rw [if_neg qa34]; rfl⟩
  | succ d ih =>
    intro j cs hj hd hc hx; have hjl : j < l.length := by omega
    have hk := hp j hjl; have hrd : rd_T58 l (j : Int) = l.getD j z58 := rfl; have hn := ih (j + 1) (putOne now cs (l.getD j z58)) qa34 qa34 (by rw [putOne_len]; exact hc) (putOne_rows now cs _ _ hx); rw [puts_next l j hjl]; refine ev_step ⟨0, fun k _ => ?_⟩ hn
    unfold putOne putRow
    generalize l.getD j z58 = p at *; have hrow : rd_L4 cs p.f0 = cs.getD p.f0.toNat [] := rfl; have hm := hx _ (row_mem cs p.f0.toNat qa34)
    conv => lhs; simp only [spec_l06Write.l0]
    rw [if_pos qa34, if_pos qa34, hrd, if_pos qa34, if_pos qa34, hrow, wsucc hjl qa34]; generalize cs.getD p.f0.toNat [] = c at *
    by_cases h0 : 0 < c.length
    · have hw : wrap64 ((c.length : Int) - 1) = ((c.length - 1 : Nat) : Int) := by unfold wrap64; omega
      have hv : rd_T43 c ((c.length - 1 : Nat) : Int) = c.getD (c.length - 1) z43 := rfl; rw [if_pos qa34, hw, if_pos qa34, if_pos qa34, hv]
      by_cases ht : (c.getD (c.length - 1) z43).f0 = now
      · rw [if_pos ht, if_pos qa34, if_pos ⟨h0, ht⟩]
        simp only [Option.bind_some, Int.toNat_natCast, List.nil_append, List.length_nil, List.length_take, List.length_cons]; rw [if_pos qa34, if_pos qa34]
      · rw [if_neg ht, if_neg (fun h => ht h.2)]
        simp only [Option.bind_some, List.nil_append, List.length_nil, List.length_cons]; rw [if_pos qa34, if_pos qa34]
    · rw [if_neg qa34, if_neg (fun h => h0 h.1)]
      simp only [Option.bind_some, List.nil_append, List.length_nil, List.length_cons]; rw [if_pos qa34, if_pos qa34]
theorem impl_write_loop (l : List S58) (now : Int) (hl : l.length ≤ 400) (hp : ∀ j, j < l.length → 0 ≤ (l.getD j z58).f0 ∧ (l.getD j z58).f0 ≤ 15) : ∀ d j cs, j ≤ l.length → l.length - j = d → cs.length = 16 → (∀ x ∈ cs, x.length ≤ 200000 + j) →
    Ev (fun k => impl_Store_writeAll.l0 k l (l.length : Int) (j : Int) cs now) (putsIn now cs (l.drop j), now, now, 0) := by
  intro d
  induction d with
  | zero =>
    intro j cs hj hd hc hx; obtain rfl : j = l.length := by omega
    rw [List.drop_eq_nil_of_le (Nat.le_refl _)]
    exact ev_now ⟨0, fun k _ => by simp only [impl_Store_writeAll.l0]; rw [if_neg qa34]; rfl⟩
  | succ d ih =>
    intro j cs hj hd hc hx; have hjl : j < l.length := by omega
    have hk := hp j hjl; have hrd : rd_T58 l (j : Int) = l.getD j z58 := rfl; have hn := ih (j + 1) (putOne now cs (l.getD j z58)) qa34 qa34 (by rw [putOne_len]; exact hc) (putOne_rows now cs _ _ hx); rw [puts_next l j hjl]; refine ev_step ⟨0, fun k _ => ?_⟩ hn
    unfold putOne putRow
    generalize l.getD j z58 = p at *; have hrow : rd_L4 cs p.f0 = cs.getD p.f0.toNat [] := rfl; have hm := hx _ (row_mem cs p.f0.toNat qa34)
    conv => lhs; simp only [impl_Store_writeAll.l0]
    rw [if_pos qa34, if_pos qa34, if_pos qa34, hrd, if_pos qa34, if_pos qa34, hrow, wsucc hjl qa34]; generalize cs.getD p.f0.toNat [] = c at *
    by_cases h0 : 0 < c.length
    · have hw : wrap64 ((c.length : Int) - 1) = ((c.length - 1 : Nat) : Int) := by unfold wrap64; omega
      have hv : rd_T43 c ((c.length - 1 : Nat) : Int) = c.getD (c.length - 1) z43 := rfl; rw [hw, if_pos qa34, if_pos qa34, if_pos qa34, hv]
      by_cases ht : (c.getD (c.length - 1) z43).f0 = now
      · rw [if_pos ht, if_pos qa34, if_pos qa34, if_pos ⟨h0, ht⟩, Int.toNat_natCast]
      · rw [if_neg ht, if_pos qa34, if_neg (fun h => ht h.2)]
    · have hw : wrap64 ((c.length : Int) - 1) = -1 := by unfold wrap64; omega
      rw [hw, if_neg qa34, if_pos qa34, if_neg (fun h => h0 h.1)]
theorem rows_le (cs : List (List S43)) (now : Int) (h : IsStore cs now) : ∀ x ∈ cs, x.length ≤ 100000 := by
  intro x hx; obtain ⟨i, hi, rfl⟩ := List.getElem_of_mem hx; have h16 : i < 16 := by have := h.1; omega
  have hg : cs.getD i [] = cs[i] := by rw [List.getD_eq_getElem?_getD, List.getElem?_eq_getElem hi]; rfl
  have hv := h.2.2.2 i h16; rw [hg] at hv
  have key : ∀ j, j < cs[i].length → ((j : Int) + 1) ≤ (cs[i].getD j z43).f0 := by
    intro j
    induction j with
    | zero => intro hj; have := (hv 0 hj).1; omega
    | succ j ih => intro hj; have h1 := ih qa34; have h2 := (hv (j + 1) hj).2.2.2 qa34; rw [Nat.add_sub_cancel] at h2; omega
  by_cases hb : cs[i].length ≤ 100000
  · exact hb
  · have h1 := key 100000 qa34; have h2 := (hv 100000 qa34).2.1; have h3 := h.2.2.1; omega
theorem putsIn_small (now : Int) : ∀ (l : List S58) (cs : List (List S43)) (n : Nat), (∀ x ∈ cs, x.length ≤ n) → (putsIn now cs l).length = cs.length ∧ ∀ x ∈ putsIn now cs l, x.length ≤ n + l.length := by
  intro l
  induction l with
  | nil => intro cs n hx; exact ⟨rfl, hx⟩
  | cons p l ih =>
    intro cs n hx; have h := ih (putOne now cs p) (n + 1) (putOne_rows now cs p n hx); refine ⟨h.1.trans (putOne_len now cs p), fun x hx' => ?_⟩; have := h.2 x hx'; rw [List.length_cons]
    omega
/-! what puts at one hour make of a chain -/
theorem getD_mem {α : Type} (l : List α) (z : α) (j : Nat) (h : j < l.length) : l.getD j z ∈ l := by rw [List.getD_eq_getElem?_getD, List.getElem?_eq_getElem h]; exact List.getElem_mem h
def wrote (l : List S58) (k : Nat) (a : Option Int) : Option Int := l.foldl (fun a p => if p.f0 = (k : Int) then some p.f1 else a) a
def tl (h : Int) (c : List S43) : Option Int → List S43
  | none => c
  | some v => c ++ [⟨h, v⟩]
theorem putRow_tl (h v : Int) (c : List S43) (hc : ∀ x ∈ c, x.f0 < h) (a : Option Int) : putRow h v (tl h c a) = tl h c (some v) := by
  cases a with
  | none =>
    show putRow h v c = c ++ [⟨h, v⟩]
    unfold putRow
    rw [if_neg]; rintro ⟨h0, h1⟩; have := hc _ (getD_mem c z43 (c.length - 1) qa34)
    omega
  | some u =>
    show putRow h v (c ++ [⟨h, u⟩]) = c ++ [⟨h, v⟩]
    unfold putRow
    have e : (c ++ [(⟨h, u⟩ : S43)]).length - 1 = c.length := by simp
    rw [e, if_pos ⟨qa119, by rw [List.getD_eq_getElem?_getD]; simp⟩]
    simp
theorem set_row (cs : List (List S43)) (i k : Nat) (x : List S43) (hi : i < cs.length) : (cs.set i x).getD k [] = if i = k then x else cs.getD k [] := by
  rw [List.getD_eq_getElem?_getD, List.getD_eq_getElem?_getD]
  by_cases h : i = k
  · subst h; rw [if_pos rfl, List.getElem?_set_self hi]; rfl
  · rw [if_neg h, List.getElem?_set_ne h]
theorem putsIn_row (h : Int) (cs0 : List (List S43)) (hlt : ∀ k, k < 16 → ∀ x ∈ cs0.getD k [], x.f0 < h) : ∀ (l : List S58) (cs : List (List S43)) (a : Nat → Option Int), (∀ p ∈ l, IsPut p) → cs.length = 16 → (∀ k, k < 16 → cs.getD k [] = tl h (cs0.getD k []) (a k)) →
    ∀ k, k < 16 → (putsIn h cs l).getD k [] = tl h (cs0.getD k []) (wrote l k (a k)) := by
  intro l
  induction l with
  | nil => intro cs a _ _ hr k hk; exact hr k hk
  | cons p l ih =>
    intro cs a hp hl hr k hk; have h0 := (hp p (List.mem_cons_self ..)).1; have hi : p.f0.toNat < 16 := by omega
    refine (ih (putOne h cs p) (fun k => if p.f0 = (k : Int) then some p.f1 else a k) (fun q hq => hp q (List.mem_cons_of_mem _ hq)) (by rw [putOne_len]; exact hl) (fun k hk => ?_) k hk)
    unfold putOne
    rw [set_row cs _ k _ qa34]
    by_cases e : p.f0.toNat = k
    · rw [if_pos e, if_pos qa34, e, hr k hk]
      exact putRow_tl h p.f1 _ (hlt k hk) (a k)
    · rw [if_neg e, if_neg qa34]
      exact hr k hk
theorem wrote_fits (k : Nat) : ∀ (l : List S58) (a : Option Int), (∀ p ∈ l, IsPut p) → (∀ v, a = some v → fitsB k v = true) → ∀ v, wrote l k a = some v → fitsB k v = true := by
  intro l
  induction l with
  | nil => intro a _ ha v hv; exact ha v hv
  | cons p l ih =>
    intro a hp ha v hv; refine ih (if p.f0 = (k : Int) then some p.f1 else a) (fun q hq => hp q (List.mem_cons_of_mem _ hq)) (fun u hu => ?_) v hv
    by_cases e : p.f0 = (k : Int)
    · rw [if_pos e] at hu
      have := (hp p (List.mem_cons_self ..)).2; rw [e] at this
      cases hu
      exact this
    · rw [if_neg e] at hu
      exact ha u hu
theorem rw_tl (now : Int) (key : Nat) (c : List S43) (h : Rw now key c) (h0 : 0 ≤ now) (a : Option Int) (ha : ∀ v, a = some v → fitsB key v = true) : Rw (now + 1) key (tl (now + 1) c a) := by
  cases a with
  | none => exact ⟨h.1, fun v hv => by have := h.2 v hv; exact ⟨this.1, qa34, this.2.2⟩⟩
  | some u =>
    refine ⟨List.pairwise_append.2 ⟨h.1, List.pairwise_singleton .., fun x hx y hy => ?_⟩, fun v hv => ?_⟩
    · rcases List.mem_singleton.1 hy with rfl
      have := (h.2 x hx).2.1
      show x.f0 < now + 1
      omega
    · rcases List.mem_append.1 hv with hv | hv
      · have := h.2 v hv; exact ⟨this.1, qa34, this.2.2⟩
      · rcases List.mem_singleton.1 hv with rfl
        exact ⟨by show 1 ≤ now + 1; omega, by show now + 1 ≤ now + 1; omega, ha u rfl⟩
theorem rows_lt (cs : List (List S43)) (now : Int) (h : IsStore cs now) : ∀ k, k < 16 → ∀ x ∈ cs.getD k [], x.f0 < now + 1 := fun k hk x hx => by
  have := (((store_rw cs now).1 h).2.2.2 k hk).2 x hx
  omega
theorem puts_row (cs : List (List S43)) (now : Int) (h : IsStore cs now) (l : List S58) (hp : ∀ p ∈ l, IsPut p) (k : Nat) (hk : k < 16) : (putsIn (now + 1) cs l).getD k [] = tl (now + 1) (cs.getD k []) (wrote l k none) :=
  putsIn_row (now + 1) cs (rows_lt cs now h) l cs (fun _ => none) hp h.1 (fun _ _ => rfl) k hk
theorem puts_store (cs : List (List S43)) (now : Int) (h : IsStore cs now) (hn : now < 100000) (l : List S58) (hp : ∀ p ∈ l, IsPut p) : IsStore (putsIn (now + 1) cs l) (now + 1) := by
  have hr := (store_rw cs now).1 h; refine (store_rw _ _).2 ⟨?_, by have := h.2.1; omega, qa34, fun i hi => ?_⟩
  · rw [(putsIn_small (now + 1) l cs 100000 (rows_le cs now h)).1]; exact h.1
  · rw [puts_row cs now h l hp i hi]
    exact rw_tl now i _ (hr.2.2.2 i hi) h.2.1 _ (wrote_fits i l none hp (fun v hv => by cases hv))
theorem store_small (cs : List (List S43)) (now : Int) (h : IsStore cs now) : ∀ x ∈ cs, x.length ≤ 1048576 := fun x hx => by have := rows_le cs now h x hx; omega
theorem vl_tl (h : Int) (c : List S43) (ts : Int) (a : Option Int) : vl (tl h c a) ts = match a with | some v => if h ≤ ts then v else vl c ts | none => vl c ts := by
  cases a with
  | none => rfl
  | some v => exact vl_snoc c ⟨h, v⟩ ts
/-- What is written by both. -/
theorem own_write (cs : List (List S43)) (now : Int) (h : IsStore cs now) (hn : now < 100000) (l : List S58) (hl : l.length ≤ 400) (hp : ∀ p ∈ l, IsPut p) :
    Ev (fun k => spec_l06Write.f k cs now l) (if l = [] then (cs, now) else (putsIn (now + 1) cs l, now + 1)) := by
  by_cases h0 : l = []
  · rw [if_pos h0]
    exact ev_mk 0 fun k hk => by unfold spec_l06Write.f; rw [h0]; rfl
  · rw [if_neg h0]
    have hl0 : l.length ≠ 0 := fun e => h0 (List.length_eq_zero_iff.1 e)
    have hw : wrap64 (now + 1) = now + 1 := by have := h.2.1; unfold wrap64; omega
    have hpp := is_puts l hl hp; obtain ⟨K1, h1⟩ := ev_at (spec_own cs now (by rw [h.1]; omega) (store_small cs now h)); obtain ⟨K2, h2⟩ := ev_at (spec_write_loop l (now + 1) hl (fun j hj => (hpp.2 j hj).1) l.length 0 cs qa34 qa34 h.1 (fun x hx' => by have := rows_le cs now h x hx'; omega)); refine ev_mk (K1 + K2) fun k hk => ?_
    unfold spec_l06Write.f
    rw [if_neg qa34, h1 k qa34]; simp only [Option.bind_some]; rw [hw]
    exact h2 k qa34
end Go.Proofs.Ytfiboooflebdpaa.Pure2
namespace Go.Proofs.Ytfiboooflebdpaa.Pure2
open Go.RowKit Go.Proofs.Ytfiboooflebdpaa.Q Go.Proofs.YtfiboooflebdpaaW.PrintWords Go.Proofs.YtfiboooflebdpaaW.PrintLast
set_option linter.unusedVariables false
set_option linter.unusedSimpArgs false
/-! a drawn store is right -/
theorem gone_at (c : List S43) (low : Int) : ∀ (m g : Nat), c.length - g = m → g ≤ c.length → (gone c low g = g ∨ gone c low g < c.length ∧ (c.getD (gone c low g) z43).f0 ≤ low) ∧ ¬ (gone c low g + 1 < c.length ∧ (c.getD (gone c low g + 1) z43).f0 ≤ low) := by
  intro m
  induction m with
  | zero => intro g hm hg; rw [gone_stop c low g qa34]; exact ⟨.inl rfl, qa34⟩
  | succ m ih =>
    intro g hm hg
    by_cases h : g + 1 < c.length ∧ (c.getD (g + 1) z43).f0 ≤ low
    · rw [gone_step c low g h]
      obtain ⟨h1, h2⟩ := ih (g + 1) qa34 qa34; refine ⟨.inr ?_, h2⟩
      rcases h1 with h1 | h1
      · rw [h1]; exact h
      · exact h1
    · rw [gone_stop c low g h]; exact ⟨.inl rfl, h⟩
theorem fgt_vl (low ts : Int) (c : List S43) (h : low ≤ ts) : vl (fgt low c) ts = vl c ts := by
  unfold fgt
  obtain ⟨h1, _⟩ := gone_at c low c.length 0 qa34 qa34; generalize gone c low 0 = g at *
  rcases h1 with rfl | ⟨h1, h2⟩
  · rw [List.drop_zero]
  · conv => rhs; rw [← List.take_append_drop g c]
    refine (vl_app _ _ ts ⟨c[g], ?_, ?_⟩).symm
    · rw [List.drop_eq_getElem_cons h1]; exact List.mem_cons_self ..
    · rw [getD_at c _ g h1] at h2; omega
theorem fgt_next (low : Int) (c : List S43) (h : 1 < (fgt low c).length) : low < ((fgt low c).getD 1 z43).f0 := by
  unfold fgt at h ⊢
  obtain ⟨_, h2⟩ := gone_at c low c.length 0 qa34 qa34; generalize gone c low 0 = g at *; rw [List.length_drop] at h; rw [List.getD_eq_getElem?_getD, List.getElem?_drop, ← List.getD_eq_getElem?_getD]; have h3 : ¬ (c.getD (g + 1) z43).f0 ≤ low := fun h3 => h2 ⟨qa34, h3⟩
  omega
theorem fgt_rw (now low : Int) (key : Nat) (c : List S43) (h : Rw now key c) : Rw now key (fgt low c) := by
  unfold fgt
  exact ⟨h.1.sublist (List.drop_sublist _ _), fun v hv => h.2 v (List.mem_of_mem_drop hv)⟩
theorem fgt_row (cs : List (List S43)) (low : Int) (i : Nat) (hi : i < cs.length) : (cs.map (fgt low)).getD i [] = fgt low (cs.getD i []) := by
  rw [List.getD_eq_getElem?_getD, List.getElem?_map, List.getElem?_eq_getElem hi, getD_at cs _ i hi]; rfl
theorem fgt_store (cs : List (List S43)) (now low : Int) (h : IsStore cs now) : IsStore (cs.map (fgt low)) now := by
  have hr := (store_rw cs now).1 h; refine (store_rw _ _).2 ⟨by rw [List.length_map]; exact h.1, h.2.1, h.2.2.1, fun i hi => ?_⟩; rw [fgt_row cs low i (by rw [h.1]; exact hi)]
  exact fgt_rw now low i _ (hr.2.2.2 i hi)
theorem store_loop (code : List Int) (hc : CodeOK code) : ∀ (d : Nat) (m a s : Int) (cs : List (List S43)) (now : Int), d ≤ 20 → now + d ≤ 20 → m + 30 * d ≤ 600000000 → SrcOK m a s → IsStore cs now →
    ∃ (cs' : List (List S43)) (now' a' s' : Int), Ev (fun k => spec_l00Src_store.l0 k (d : Int) code a s cs now) (cs', now', a', s') ∧ IsStore cs' now' ∧ now' ≤ 20 := by
  intro d
  induction d with
  | zero =>
    intro m a s cs now _ hn _ h hs; obtain ⟨K, e⟩ := ev_at (spec_own cs now (by rw [hs.1]; omega) (store_small cs now hs))
    exact ⟨cs, now, a, s, ev_now ⟨K, fun k hk => by simp only [spec_l00Src_store.l0]; rw [if_neg qa34, e k hk]; rfl⟩, hs, qa34⟩
  | succ d ih =>
    intro m a s cs now hd hn hm h hs; have w : wrap64 (((d + 1 : Nat) : Int) - 1) = (d : Int) := by unfold wrap64; omega
    obtain ⟨l, a1, s1, e1, hl, hp, h1⟩ := puts_ok code hc m a s qa34 h; obtain ⟨K1, e1⟩ := ev_at e1; obtain ⟨K2, e2⟩ := ev_at (own_write cs now hs qa34 l qa34 hp)
    obtain ⟨cs2, n2, he, hs2, hn2, hn3⟩ : ∃ cs2 n2, (if l = [] then (cs, now) else (putsIn (now + 1) cs l, now + 1)) = (cs2, n2) ∧ IsStore cs2 n2 ∧ n2 ≤ now + 1 ∧ now ≤ n2 := by
      by_cases h0 : l = []
      · exact ⟨cs, now, if_pos h0, hs, qa34, qa34⟩
      · exact ⟨_, _, if_neg h0, puts_store cs now hs qa34 l hp, qa34, qa34⟩
    rw [he] at e2; obtain ⟨r, a2, s2, e3, r0, r1, h2⟩ := next_ok code hc (m + 13) a1 s1 6 qa34 qa34 h1; have e3' : spec_l00Src_chance.f code a1 s1 6 = some (r == wrap64 (6 - 1), a2, s2) := by unfold spec_l00Src_chance.f; rw [e3]; rfl
    have n0 := hs2.2.1
    by_cases cc : (r == wrap64 (6 - 1)) = true
    · have wn : wrap64 (n2 + 1) = n2 + 1 := by unfold wrap64; omega
      obtain ⟨low, a3, s3, e4, l0, l1, h3⟩ := next_ok code hc (m + 14) a2 s2 (n2 + 1) qa34 qa34 qa201; obtain ⟨K5, e5⟩ := ev_at (spec_forget cs2 n2 low hs2.1 (store_small cs2 n2 hs2)); obtain ⟨cs', now', a', s', e6, hs', hn'⟩ := ih (m + 15) a3 s3 (cs2.map (fgt low)) n2 qa34 qa34 qa34 (by unfold SrcOK at h3 ⊢; omega) (fgt_store cs2 n2 low hs2); refine ⟨cs', now', a', s', ev_step ⟨K1 + K2 + K5, fun k hk => ?_⟩ e6, hs', hn'⟩
      conv => lhs; simp only [spec_l00Src_store.l0]
      rw [if_pos qa34, e1 k qa34]; simp only [Option.bind_some]; rw [e2 k qa34]; simp only [Option.bind_some]; rw [e3']; simp only [Option.bind_some]; rw [if_pos cc, wn, e4]; simp only [Option.bind_some]; rw [e5 k qa34]; simp only [Option.bind_some]; rw [w]
    · obtain ⟨cs', now', a', s', e6, hs', hn'⟩ := ih (m + 14) a2 s2 cs2 n2 qa34 qa34 qa34 qa201 hs2
      refine ⟨cs', now', a', s', ev_step ⟨K1 + K2, fun k hk => ?_⟩ e6, hs', hn'⟩
      conv => lhs; simp only [spec_l00Src_store.l0]
      rw [if_pos qa34, e1 k qa34]; simp only [Option.bind_some]; rw [e2 k qa34]; simp only [Option.bind_some]; rw [e3']; simp only [Option.bind_some]; rw [if_neg cc, w]
theorem src_start (code : List Int) (hc : CodeOK code) : spec_l00Source.f code = some (code, 0, (code.length : Int) % 1000) ∧ SrcOK 0 0 ((code.length : Int) % 1000) := ⟨rfl, by unfold SrcOK; omega⟩
theorem new_store_f : spec_NewStore.f = some (List.replicate 16 [], 0) := by unfold spec_NewStore.f; exact if_pos qa60
theorem size_f (code : List Int) (hc : CodeOK code) (a s : Int) : ∃ q, spec_l00Src_size.f code a s 10 = some (q, a, s) ∧ 1 ≤ q ∧ q ≤ 10 := by
  have hl := hc.1; have w1 : wrap64 ((code.length : Int) / 12) = (code.length : Int) / 12 := by unfold wrap64; omega
  have w2 : wrap64 (1 + (code.length : Int) / 12) = 1 + (code.length : Int) / 12 := by unfold wrap64; omega
  unfold spec_l00Src_size.f
  rw [w1, w2]; refine ⟨_, rfl, ?_, ?_⟩
  · unfold mn; split <;> omega
  · unfold mn; split <;> omega
theorem store_f (code : List Int) (hc : CodeOK code) (a s : Int) (h : SrcOK 0 a s) : ∃ (cs : List (List S43)) (now a' s' : Int), Ev (fun k => spec_l00Src_store.f k code a s) (cs, now, a', s') ∧ IsStore cs now ∧ now ≤ 20 := by
  obtain ⟨q, hz, q0, q1⟩ := size_f code hc a s; have w3 : wrap64 (q + 4) = q + 4 := by unfold wrap64; omega
  obtain ⟨r, a1, s1, e1, r0, r1, h1⟩ := next_ok code hc 0 a s (q + 4) qa34 qa34 h; obtain ⟨n, rfl⟩ : ∃ n : Nat, r = (n : Int) := ⟨r.toNat, qa34⟩; obtain ⟨cs, now, a2, s2, e2, hs, hn⟩ := store_loop code hc n 1 a1 s1 (List.replicate 16 []) 0 qa34 qa34 qa34 h1 new_store; refine ⟨cs, now, a2, s2, ev_same ⟨0, fun k hk => ?_⟩ e2, hs, hn⟩
  unfold spec_l00Src_store.f
  rw [new_store_f, Option.bind_some, hz, Option.bind_some]
  show (spec_l00Src_next.f code a s (wrap64 (q + 4))).bind _ = _
  rw [w3, e1, Option.bind_some]
theorem store_of (code : List Int) (hc : CodeOK code) : ∃ (cs : List (List S43)) (now : Int), Ev (fun k => spec_StoreOf.f k code) (cs, now) ∧ IsStore cs now ∧ now ≤ 20 := by
  obtain ⟨e0, h0⟩ := src_start code hc; obtain ⟨cs, now, a', s', e, hs, hn⟩ := store_f code hc _ _ h0; obtain ⟨K, e⟩ := ev_at e; refine ⟨cs, now, ev_mk K fun k hk => ?_, hs, hn⟩
  unfold spec_StoreOf.f
  rw [e0, Option.bind_some, e k hk, Option.bind_some]
end Go.Proofs.Ytfiboooflebdpaa.Pure2
namespace Go.Proofs.Ytfiboooflebdpaa.Pure2
open Go.RowKit Go.Proofs.Ytfiboooflebdpaa.Q Go.Proofs.YtfiboooflebdpaaW.PrintWords Go.Proofs.YtfiboooflebdpaaW.PrintLast
set_option linter.unusedVariables false
set_option linter.unusedSimpArgs false
/-! choices out of bytes; how much a right store holds -/
theorem at_ok (code : List Int) (hc : CodeOK code) (n : Int) (h1 : 1 ≤ n) (h2 : n ≤ 1000000) : ∃ r, laws_at.f code 0 n = some r ∧ 0 ≤ r ∧ r < n := by
  unfold laws_at.f
  by_cases c1 : n ≤ 1
  · rw [if_pos c1]; exact ⟨0, rfl, qa34, qa34⟩
  · rw [if_neg c1]
    have pos : ∀ x : Int, 0 ≤ x → 0 ≤ Int.tmod x n ∧ Int.tmod x n < n := fun x hx => by
      rw [Int.tmod_eq_emod_of_nonneg hx]
      exact ⟨Int.emod_nonneg x qa34, Int.emod_lt_of_pos x qa34⟩
    by_cases c2 : (code.length : Int) = 0
    · have w : wrap64 (0 * 7) = 0 := by unfold wrap64; omega
      rw [if_pos c2, if_neg qa34, w]
      exact ⟨_, rfl, pos 0 qa34⟩
    · have hl := hc.1
      have w1 : wrap64 (0 + 1) = 1 := by unfold wrap64; omega
      have t0 : Int.tmod 0 (code.length : Int) = 0 := Int.zero_tmod _; have t1 : Int.tdiv 0 (code.length : Int) = 0 := Int.zero_tdiv _; rw [if_neg c2, w1, t0, t1, Int.tmod_eq_emod_of_nonneg (a := 1) qa34]; have e0 := Int.emod_nonneg 1 c2; have e1 := Int.emod_lt_of_pos 1 (show 0 < (code.length : Int) by omega); generalize (1 : Int) % (code.length : Int) = i at *; have r0 := code_rd code hc 0 qa34 qa34; have r1 := code_rd code hc i e0 e1; rw [if_pos qa34, if_pos qa34, if_pos e0, if_pos e1, if_neg qa34]; generalize rd code 0 = x at *; generalize rd code i = y at *; have w2 : wrap64 x = x := by unfold wrap64; omega
      have w3 : wrap64 y = y := by unfold wrap64; omega
      have w4 : wrap64 (x * 31) = x * 31 := by unfold wrap64; omega
      have w5 : wrap64 (x * 31 + y) = x * 31 + y := by unfold wrap64; omega
      have w6 : wrap64 0 = 0 := by unfold wrap64; omega
      have w7 : wrap64 (x * 31 + y + 0) = x * 31 + y := by unfold wrap64; omega
      rw [w2, w3, w4, w5, w6, w7]
      exact ⟨_, rfl, pos _ qa34⟩
theorem code_of (l : List Int) (h : l.length ≤ 9223372036854775807 ∧ ∀ x ∈ l, (Lit.int .u8 x).wf = true) (hl : l.length ≤ 1048576) : CodeOK l := ⟨hl, fun x hx => by
  have := h.2 x hx; simp only [Lit.wf, Bool.and_eq_true, decide_eq_true_eq] at this; have a : IntKind.u8.min = 0 := by kernel_rfl
  have b : IntKind.u8.max = 255 := by kernel_rfl
  rw [a, b] at this
  omega⟩
def held (cs : List (List S43)) : Nat := (cs.map List.length).sum
theorem held_le : ∀ (cs : List (List S43)), (∀ x ∈ cs, x.length ≤ 1048576) → held cs ≤ 1048576 * cs.length := by
  intro cs
  induction cs with
  | nil => intro _; simp [held]
  | cons c cs ih =>
    intro h; have h1 := ih (fun x hx => h x (List.mem_cons_of_mem _ hx)); have h2 := h c (List.mem_cons_self ..)
    unfold held at *
    rw [List.map_cons, List.sum_cons, List.length_cons]
    omega
theorem held_fgt (low : Int) : ∀ (cs : List (List S43)), held (cs.map (fgt low)) + (cs.map (fun c => gone c low 0)).sum = held cs := by
  intro cs
  induction cs with
  | nil => rfl
  | cons c cs ih =>
    unfold held at *
    simp only [List.map_cons, List.sum_cons]; have h := (gone_le c low c.length 0 qa34 qa34).2; have h2 : (fgt low c).length = c.length - gone c low 0 := by unfold fgt; rw [List.length_drop]
    omega
theorem tot_all (cs : List (List S43)) (low : Int) (hl : cs.length = 16) : tot cs low 16 = (cs.map (fun c => gone c low 0)).sum := by
  unfold tot; rw [List.take_of_length_le qa34]
theorem size_right (cs : List (List S43)) (now : Int) (h : IsStore cs now) : Ev (fun k => impl_SizeOf.f k cs now) ((held cs : Int), 0) := by
  have hx := store_small cs now h
  have key : ∀ (d j : Nat), j ≤ 16 → 16 - j = d → Ev (fun k => impl_Store_size.l0 k (held (cs.take j) : Int) cs 16 (j : Int)) (held cs : Int) := by
    intro d
    induction d with
    | zero =>
      intro j hj hd; obtain rfl : j = 16 := by omega
      have hl := h.1
      exact ev_now ⟨0, fun k _ => by simp only [impl_Store_size.l0]; rw [if_neg qa34, List.take_of_length_le qa34]⟩
    | succ d ih =>
      intro j hj hd; have hl := h.1; have e := ih (j + 1) qa34 qa34; have h1 := held_le (cs.take j) (fun x hx' => hx x (List.mem_of_mem_take hx')); have h2 : (cs.take j).length ≤ 16 := by rw [List.length_take]; omega
      have h3 := hx _ (row_mem cs j qa34)
      have hn : held (cs.take (j + 1)) = held (cs.take j) + (cs.getD j []).length := by
        unfold held
        rw [take_next cs j qa34]; simp
      have hd' : rd_L4 cs (j : Int) = cs.getD j [] := rfl; have hw : wrap64 ((held (cs.take j) : Int) + ((cs.getD j []).length : Int)) = ((held (cs.take (j + 1)) : Nat) : Int) := by rw [hn]; unfold wrap64; omega
      refine ev_step ⟨0, fun k _ => ?_⟩ e
      conv => lhs; simp only [impl_Store_size.l0]
      rw [if_pos qa34, if_pos qa34, if_pos qa34, hd', hw, wsucc (n := 16) qa34 qa34]
  obtain ⟨K1, h1⟩ := ev_at (ok_right cs now h hx); obtain ⟨K2, h2⟩ := ev_at (key 16 0 qa34 qa34); refine ev_mk (K1 + K2) fun k hk => ?_
  have h2' : impl_Store_size.l0 k 0 cs 16 0 = some (held cs : Int) := h2 k qa34; have hl := h.1
  unfold impl_SizeOf.f impl_Store_size.f
  rw [h1 k qa34, Option.bind_some, if_pos rfl, hl]
  show (impl_Store_size.l0 k 0 cs 16 0).bind _ = _
  rw [h2']; rfl
theorem forget_right (cs : List (List S43)) (now low : Int) (h : IsStore cs now) (h0 : 0 ≤ low) (h1 : low ≤ now) :
    Ev (fun k => spec_Forget.f k cs now low) (cs.map (fgt low), now, (tot cs low 16 : Int), 0) ∧ Ev (fun k => impl_Forget.f k cs now low) (cs.map (fgt low), now, (tot cs low 16 : Int), 0) := by
  have hx := store_small cs now h; obtain ⟨b, e1, e2, hb⟩ := stores_agree cs now hx; rw [hb.2 h] at e1 e2; obtain ⟨K1, g1⟩ := ev_at e1; obtain ⟨K2, g2⟩ := ev_at e2; obtain ⟨K3, g3⟩ := ev_at (spec_forget cs now low h.1 hx); obtain ⟨K4, g4⟩ := ev_at (impl_forget cs now low h.1 hx); refine ⟨ev_mk (K1 + K3) fun k hk => ?_, ev_mk (K2 + K4) fun k hk => ?_⟩
  · unfold spec_Forget.f spec_l06Ask.f; rw [g1 k qa34, spec_in, spec_in]
    simp only [Option.bind_some, if_true, decide_eq_true (show 0 ≤ low ∧ low ≤ now from ⟨h0, h1⟩), show decide ((0 : Int) ≤ 0 ∧ (0 : Int) ≤ 15) = true by decide]; rw [g3 k qa34]; rfl
  · unfold impl_Forget.f impl_Store_isHour.f; rw [g2 k qa34, impl_in]
    simp only [Option.bind_some, if_true, decide_eq_true (show 0 ≤ low ∧ low ≤ now from ⟨h0, h1⟩)]; rw [g4 k qa34]; rfl
end Go.Proofs.Ytfiboooflebdpaa.Pure2
namespace Go.Proofs.Ytfiboooflebdpaa.Pure2
open Go.RowKit Go.Proofs.Ytfiboooflebdpaa.Q Go.Proofs.YtfiboooflebdpaaW.PrintWords Go.Proofs.YtfiboooflebdpaaW.PrintLast
set_option linter.unusedVariables false
set_option linter.unusedSimpArgs false
theorem forget_hours (cs : List (List S43)) (now low : Int) (h : IsStore cs now) (h0 : 0 ≤ low) (h1 : low ≤ now) (i : Nat) (hi : i < 16) (R : Ev (fun k => laws_FnForget.l0 k low ((i + 1 : Nat) : Int) cs now (cs.map (fgt low)) now) true) :
    ∀ (d : Nat) (ts : Int), now + 1 - ts = d → low ≤ ts → Ev (fun k => laws_FnForget.l1 k low (i : Int) ts cs now (cs.map (fgt low)) now) true := by
  have hs := fgt_store cs now low h
  have hn := h.2.2.1
  intro d
  induction d with
  | zero =>
    intro ts hd ht
    refine ev_step ⟨0, fun k _ => ?_⟩ R
    simp only [laws_FnForget.l1]
    rw [if_neg qa34, wsucc (n := 16) hi qa34]
  | succ d ih =>
    intro ts hd ht
    obtain ⟨K1, e1⟩ := ev_at (read_right cs now h (store_small cs now h) i ts hi qa34 qa34)
    obtain ⟨K2, e2⟩ := ev_at (read_right _ now hs (store_small _ now hs) i ts hi qa34 qa34)
    rw [fgt_row cs low i (by rw [h.1]; exact hi), fgt_vl low ts _ ht] at e2
    have w : wrap64 (ts + 1) = ts + 1 := by unfold wrap64; omega
    refine ev_step ⟨K1 + K2, fun k hk => ?_⟩ (ih (ts + 1) qa34 qa34)
    conv => lhs; simp only [laws_FnForget.l1]
    rw [if_pos qa34, e1 k qa34, Option.bind_some, e2 k qa34, Option.bind_some, if_pos rfl, if_pos rfl, if_pos rfl, w]
theorem forget_keys (cs : List (List S43)) (now low : Int) (h : IsStore cs now) (h0 : 0 ≤ low) (h1 : low ≤ now) : ∀ (d j : Nat), j ≤ 16 → 16 - j = d → Ev (fun k => laws_FnForget.l0 k low (j : Int) cs now (cs.map (fgt low)) now) true := by
  have hs := fgt_store cs now low h
  have hn := h.2.2.1
  intro d
  induction d with
  | zero =>
    intro j hj hd
    obtain rfl : j = 16 := by omega
    obtain ⟨K, e⟩ := ev_at (same_right cs (cs.map (fgt low)) now now h hs (store_small cs now h) (store_small _ now hs) (fun i hi => by rw [fgt_row cs low i (by rw [h.1]; exact hi), fgt_vl low now _ h1]))
    refine ev_now ⟨K, fun k hk => ?_⟩
    simp only [laws_FnForget.l0]
    rw [if_neg qa34, e k hk]; rfl
  | succ d ih =>
    intro j hj hd
    have hl : (cs.map (fgt low)).length = 16 := hs.1
    have hr : rd_L4 (cs.map (fgt low)) (j : Int) = fgt low (cs.getD j []) := (show _ = (cs.map (fgt low)).getD j [] from rfl).trans (fgt_row cs low j (by have := h.1; omega))
    have e3 : Ev (fun k => laws_FnForget.j3 k low (j : Int) false cs now (cs.map (fgt low)) now) true := by
      obtain ⟨q, hq⟩ : ∃ q : Nat, now + 1 - low = (q : Int) := ⟨(now + 1 - low).toNat, qa34⟩
      refine ev_step ⟨0, fun k _ => ?_⟩ (forget_hours cs now low h h0 h1 j qa34 (ih (j + 1) qa34 qa34) q low hq qa34)
      simp only [laws_FnForget.j3]
      rw [if_neg qa119]
    refine ev_step ⟨0, fun k _ => ?_⟩ e3
    conv => lhs; simp only [laws_FnForget.l0]
    rw [if_pos qa34, if_pos qa34, if_pos qa34, hr]
    by_cases c : ((fgt low (cs.getD j [])).length : Int) > 1
    · have := fgt_next low (cs.getD j []) qa34
      have hv : rd_T43 (fgt low (cs.getD j [])) 1 = (fgt low (cs.getD j [])).getD 1 z43 := rfl
      rw [if_pos c, if_pos qa34, hv, decide_eq_false qa34]
    · rw [if_neg c]
theorem FnForget : laws_FnForget.Pure2 := by
  intro y0 y1 hy0 hy1
  refine Ev.rounds (r := true) ?_
  have skip : Ev (fun k => laws_FnForget.j0 k y0 y1 true) true := ev_now ⟨0, fun k _ => by simp only [laws_FnForget.j0]; exact if_pos trivial⟩
  by_cases c0 : (y0.length : Int) > 1048576
  · exact ev_same ⟨0, fun k _ => by unfold laws_FnForget.f; rw [if_pos c0]⟩ skip
  by_cases c1 : (y1.length : Int) > 1048576
  · exact ev_same ⟨0, fun k _ => by unfold laws_FnForget.f; rw [if_neg c0, decide_eq_true c1]⟩ skip
  refine ev_same (f := fun k => laws_FnForget.j0 k y0 y1 false) ⟨0, fun k _ => by unfold laws_FnForget.f; rw [if_neg c0, decide_eq_false c1]⟩ ?_
  have hc0 := code_of y0 hy0 qa34
  have hc1 := code_of y1 hy1 qa34
  obtain ⟨cs, now, e1, h, hn⟩ := store_of y0 hc0
  have hn0 := h.2.1
  obtain ⟨low, e2, l0, l1⟩ := at_ok y1 hc1 (now + 1) qa34 qa34
  have hs := fgt_store cs now low h
  obtain ⟨e3, e4⟩ := forget_right cs now low h l0 qa34
  obtain ⟨K1, e1⟩ := ev_at e1
  obtain ⟨K3, e3⟩ := ev_at e3
  obtain ⟨K4, e4⟩ := ev_at e4
  obtain ⟨K5, e5⟩ := ev_at (size_right cs now h)
  obtain ⟨K6, e6⟩ := ev_at (size_right _ now hs)
  obtain ⟨K7, e7⟩ := ev_at (same_store _ now hs.1 (store_small _ now hs))
  obtain ⟨K8, e8⟩ := ev_at (ok_right _ now hs (store_small _ now hs))
  have e9 : Ev (fun k => laws_FnForget.j1 k low false cs now (cs.map (fgt low)) now) true := by
    refine ev_step ⟨0, fun k _ => ?_⟩ (forget_keys cs now low h l0 qa34 16 0 qa34 qa34)
    simp only [laws_FnForget.j1]
    rw [if_neg qa119]; rfl
  have w1 : wrap64 (now + 1) = now + 1 := by unfold wrap64; omega
  have hsum := held_fgt low cs
  rw [← tot_all cs low h.1] at hsum
  have hb := held_le cs (store_small cs now h)
  have hl := h.1
  have w2 : wrap64 ((held cs : Int) - (held (cs.map (fgt low)) : Int)) = (tot cs low 16 : Int) := by unfold wrap64; omega
  refine ev_step ⟨K1 + K3 + K4 + K5 + K6 + K7 + K8, fun k hk => ?_⟩ e9
  conv => lhs; simp only [laws_FnForget.j0]
  rw [if_neg qa119, e1 k qa34, Option.bind_some, w1, e2, Option.bind_some, e4 k qa34, Option.bind_some, e3 k qa34, Option.bind_some, e5 k qa34, Option.bind_some, e6 k qa34, Option.bind_some, if_pos rfl, e7 k qa34, Option.bind_some, if_pos rfl, if_pos rfl, if_pos rfl, if_pos rfl]
  show (if wrap64 ((held cs : Int) - (held (cs.map (fgt low)) : Int)) = (tot cs low 16 : Int) then _ else _) = _
  rw [if_pos w2, e8 k qa34, Option.bind_some]
  rfl
end Go.Proofs.Ytfiboooflebdpaa.Pure2
