/- Texts of the claim on FnExactWriteTxn, gathered by a program of this session: what the program's functions compute (proved by walks), and the plain part. -/
import Derived.Test.YtfiboooflebdpaaKFnExactWriteTxne
namespace Go.Proofs.Ytfiboooflebdpaa.Pure2
open Go.RowKit Go.Proofs.Ytfiboooflebdpaa.Q Go.Proofs.YtfiboooflebdpaaW.PrintWords Go.Proofs.YtfiboooflebdpaaW.PrintLast
set_option linter.unusedVariables false
set_option linter.unusedSimpArgs false
/-- The measure of a transaction that came in. -/
theorem sz_ints (l : List Int) (a : Int) (h0 : 0 ≤ a) (h1 : a ≤ 1048576) (hl : l.length ≤ 9223372036854775807) : ∃ r, laws_szIntS.f l a = some r ∧ (r < 0 ∨ 0 ≤ r ∧ r ≤ a ∧ l.length ≤ 1048576) := by
  have hw : wrap64 (a - (l.length : Int)) = a - (l.length : Int) := by unfold wrap64; omega
  unfold laws_szIntS.f
  rw [hw]
  by_cases h : a - (l.length : Int) < 0
  · rw [if_pos h]; exact ⟨_, rfl, .inl (by omega)⟩
  · rw [if_neg h]; exact ⟨_, rfl, .inr ⟨by omega, by omega, by omega⟩⟩
theorem sz_puts (l : List S76) (a : Int) (h0 : 0 ≤ a) (h1 : a ≤ 1048576) (hl : l.length ≤ 9223372036854775807) : ∃ r, laws_szPutS.f l a = some r ∧ (r < 0 ∨ 0 ≤ r ∧ r ≤ a ∧ l.length ≤ 1048576) := by
  have hw : wrap64 (a - (l.length : Int)) = a - (l.length : Int) := by unfold wrap64; omega
  unfold laws_szPutS.f
  rw [hw]
  by_cases h : a - (l.length : Int) < 0
  · rw [if_pos h]; exact ⟨_, rfl, .inl (by omega)⟩
  · rw [if_neg h]; exact ⟨_, rfl, .inr ⟨by omega, by omega, by omega⟩⟩
theorem sz_txn (y : S75) (a : Int) (h0 : 0 ≤ a) (h1 : a ≤ 1048576) (hi : i75 y) : ∃ r, laws_szTxn.f y.f0 y.f1 y.f2 a = some r ∧ (r < 0 ∨ 0 ≤ r ∧ r ≤ a ∧ y.f1.length ≤ 1048576 ∧ y.f2.length ≤ 1048576) := by
  obtain ⟨r, e, hr⟩ := sz_ints y.f1 a h0 h1 hi.2.1.1
  unfold laws_szTxn.f
  rw [e]
  simp only [Option.bind_some]
  rcases hr with hr | ⟨h2, h3, h4⟩
  · exact ⟨-1, by rw [if_pos hr], .inl (by omega)⟩
  · rw [if_neg (by omega)]
    obtain ⟨q, e2, hq⟩ := sz_puts y.f2 r h2 (by omega) hi.2.2.1
    rw [e2]
    simp only [Option.bind_some]
    rcases hq with hq | ⟨h5, h6, h7⟩
    · exact ⟨-1, by rw [if_pos hq], .inl (by omega)⟩
    · exact ⟨q, by rw [if_neg (by omega)], .inr ⟨h5, by omega, h4, h7⟩⟩
def cvP (x : S76) : S58 := ⟨x.f0, x.f1⟩
theorem to_ints (l : List Int) (hl : l.length ≤ 1048576) : Ev (fun k => laws_toIntS.f k l) l := by
  have h := fill_loop l 0 id (fun k y i => laws_toIntS.l0 k l y i) (fun y hy => ⟨0, fun k _ => by simp only [laws_toIntS.l0]; rw [if_neg (by omega)]⟩)
    (fun j y hj hy => ⟨0, fun k _ => by
      simp only [laws_toIntS.l0]; rw [if_pos (by omega), if_pos (by omega), if_pos (by omega), wsucc hj (by omega)]; rfl⟩) (List.replicate l.length 0) (by simp)
  rw [List.map_id] at h
  refine ev_same ⟨0, fun k _ => ?_⟩ h
  unfold laws_toIntS.f
  rw [if_pos (by omega), if_pos (by simp; omega), Int.toNat_natCast]
theorem to_puts (l : List S76) (hl : l.length ≤ 1048576) : Ev (fun k => laws_toPutS.f k l) (l.map cvP) := by
  have h := fill_loop l z76 cvP (fun k y i => laws_toPutS.l0 k l y i) (fun y hy => ⟨0, fun k _ => by simp only [laws_toPutS.l0]; rw [if_neg (by omega)]⟩)
    (fun j y hj hy => ⟨0, fun k _ => by
      simp only [laws_toPutS.l0, laws_toPut.f]; rw [if_pos (by omega), if_pos (by omega)]; simp only [Option.bind_some]; rw [if_pos (by omega), wsucc hj (by omega)]; rfl⟩) (List.replicate l.length z58) (by simp)
  refine ev_same ⟨0, fun k _ => ?_⟩ h
  unfold laws_toPutS.f
  rw [if_pos (by omega), if_pos (by simp; omega), Int.toNat_natCast]
theorem to_txn (a : Int) (l : List Int) (p : List S76) (hl : l.length ≤ 1048576) (hp : p.length ≤ 1048576) : Ev (fun k => laws_toTxn.f k a l p) (a, l, p.map cvP) := by
  obtain ⟨K1, h1⟩ := ev_at (to_ints l hl)
  obtain ⟨K2, h2⟩ := ev_at (to_puts p hp)
  exact ev_mk (K1 + K2) (fun k hk => by unfold laws_toTxn.f; rw [h1 k (by omega)]; simp only [Option.bind_some]; rw [h2 k (by omega)]; rfl)
theorem eq_ints (l : List Int) (hl : l.length ≤ 1048576) : Ev (fun k => laws_eqIntS.f k l l) true := by
  obtain ⟨r, hr, he⟩ := count_loop l.length (fun k i => laws_eqIntS.l0 k l l i) (fun _ r => r = true) ⟨true, rfl, ev_now ⟨0, fun k _ => by simp only [laws_eqIntS.l0]; rw [if_neg (by omega)]⟩⟩
    (fun j hj r hr he => ⟨r, hr, ev_step ⟨0, fun k _ => by simp only [laws_eqIntS.l0]; rw [if_pos (by omega), if_pos (by omega), if_pos (by omega), if_pos trivial, wsucc hj (by omega)]⟩ he⟩) 0 (by omega)
  subst hr
  exact ev_same ⟨0, fun k _ => by unfold laws_eqIntS.f; rw [if_pos rfl]; rfl⟩ he
theorem eq_puts (l : List S58) (hl : l.length ≤ 1048576) : Ev (fun k => laws_eqPutS.f k l l) true := by
  obtain ⟨r, hr, he⟩ := count_loop l.length (fun k i => laws_eqPutS.l0 k l l i) (fun _ r => r = true) ⟨true, rfl, ev_now ⟨0, fun k _ => by simp only [laws_eqPutS.l0]; rw [if_neg (by omega)]⟩⟩
    (fun j hj r hr he => ⟨r, hr, ev_step ⟨0, fun k _ => by simp only [laws_eqPutS.l0, laws_eqPut.f]; rw [if_pos (by omega), if_pos (by omega), if_pos (by omega)]; simp only [if_true, Option.bind_some]; rw [wsucc hj (by omega)]⟩ he⟩) 0 (by omega)
  subst hr
  exact ev_same ⟨0, fun k _ => by unfold laws_eqPutS.f; rw [if_pos rfl]; rfl⟩ he
theorem eq_txn (a : Int) (l : List Int) (p : List S58) (hl : l.length ≤ 1048576) (hp : p.length ≤ 1048576) : Ev (fun k => laws_eqTxn.f k a l p a l p) true := by
  obtain ⟨K1, h1⟩ := ev_at (eq_ints l hl)
  obtain ⟨K2, h2⟩ := ev_at (eq_puts p hp)
  exact ev_mk (K1 + K2) (fun k hk => by unfold laws_eqTxn.f; rw [if_pos rfl, h1 k (by omega)]; simp only [Option.bind_some, if_true]; rw [h2 k (by omega)]; rfl)
/-- A Put that is one. -/
def IsPut (x : S58) : Prop := (0 ≤ x.f0 ∧ x.f0 ≤ 15) ∧ fitsB x.f0 x.f1 = true
def IsPuts (l : List S58) : Prop := l.length ≤ 400 ∧ ∀ j, j < l.length → IsPut (l.getD j z58)
theorem spec_puts (l : List S58) (hl : l.length ≤ 1048576) : ∃ r, Ev (fun k => spec_l06Puts.f k l) r ∧ (r = true ↔ IsPuts l) := by
  obtain ⟨r, hr, he⟩ := count_loop l.length (fun k i => spec_l06Puts.l0 k l i) (fun j r => r = true ↔ l.length ≤ 400 ∧ ∀ j', j ≤ j' → j' < l.length → IsPut (l.getD j' z58))
    ⟨decide ((l.length : Int) ≤ 400), ⟨fun h => ⟨by have := of_decide_eq_true h; omega, fun j' h1 h2 => by omega⟩, fun h => decide_eq_true (by have := h.1; omega)⟩, ev_now ⟨0, fun k _ => by simp only [spec_l06Puts.l0]; rw [if_neg (by omega)]⟩⟩
    (fun j hj r hr he => by
      have hd : rd_T58 l (j : Int) = l.getD j z58 := rfl
      have hh : ∀ k, spec_l06Puts.l0 (k + 1) l (j : Int) = if decide (0 ≤ (l.getD j z58).f0 ∧ (l.getD j z58).f0 ≤ 15) = true then (if fitsB (l.getD j z58).f0 (l.getD j z58).f1 = true then spec_l06Puts.l0 k l ((j + 1 : Nat) : Int) else some false) else some false := by
        intro k
        conv => lhs; simp only [spec_l06Puts.l0]
        rw [if_pos (by omega), if_pos (by omega), hd, spec_in, spec_fits]
        simp only [Option.bind_some, wsucc hj (by omega)]
      by_cases h1 : 0 ≤ (l.getD j z58).f0 ∧ (l.getD j z58).f0 ≤ 15
      · by_cases h2 : fitsB (l.getD j z58).f0 (l.getD j z58).f1 = true
        · refine ⟨r, hr.trans ⟨fun h => ⟨h.1, fun j' h3 h4 => ?_⟩, fun h => ⟨h.1, fun j' h3 h4 => h.2 j' (by omega) h4⟩⟩, ev_step ⟨0, fun k _ => by rw [hh, if_pos (decide_eq_true h1), if_pos h2]⟩ he⟩
          rcases Nat.lt_or_eq_of_le h3 with h5 | rfl
          · exact h.2 j' h5 h4
          · exact ⟨h1, h2⟩
        · exact ⟨false, ⟨fun h => (by cases h), fun h => absurd (h.2 j (Nat.le_refl _) hj).2 h2⟩, ev_now ⟨0, fun k _ => by rw [hh, if_pos (decide_eq_true h1), if_neg h2]⟩⟩
      · exact ⟨false, ⟨fun h => (by cases h), fun h => absurd (h.2 j (Nat.le_refl _) hj).1 h1⟩, ev_now ⟨0, fun k _ => by rw [hh, if_neg (by simpa using h1)]⟩⟩) 0 (by omega)
  exact ⟨r, ev_same ⟨0, fun k _ => by unfold spec_l06Puts.f; rfl⟩ he, hr.trans ⟨fun h => ⟨h.1, fun j hj => h.2 j (by omega) hj⟩, fun h => ⟨h.1, fun j _ hj => h.2 j hj⟩⟩⟩
theorem impl_put (a b : Int) : impl_isPut.f a b = some (decide (0 ≤ a ∧ a ≤ 15) && fitsB a b) := by
  unfold impl_isPut.f impl_isKey.f
  rw [impl_in, impl_fits]
  by_cases h : 0 ≤ a ∧ a ≤ 15
  · simp [h]
  · simp only [Option.bind_some, decide_eq_false h]; rfl
theorem impl_puts (l : List S58) : ∃ r, impl_arePuts.f l = some r ∧ (r = true ↔ IsPuts l) := by
  have hp : ∀ x, impl_arePuts.p x = false ↔ IsPut x := by
    intro x
    unfold impl_arePuts.p impl_arePuts_1.f
    rw [impl_put]
    simp only [Option.bind_some, IsPut]
    by_cases h : 0 ≤ x.f0 ∧ x.f0 ≤ 15
    · simp [h]
    · simp only [decide_eq_false h, Bool.false_and, Bool.not_false]
      exact ⟨fun h2 => (by cases h2), fun h2 => absurd h2.1 h⟩
  unfold impl_arePuts.f
  by_cases hl : (l.length : Int) ≤ 400
  · rw [if_pos hl]
    refine ⟨_, rfl, ?_⟩
    rw [Bool.not_eq_true', List.any_eq_false]
    constructor
    · intro h
      refine ⟨by omega, fun j hj => ?_⟩
      rw [List.getD_eq_getElem?_getD, List.getElem?_eq_getElem hj]
      exact (hp _).1 (by simpa using h _ (List.getElem_mem hj))
    · rintro ⟨_, h⟩ x hx
      obtain ⟨j, hj, rfl⟩ := List.getElem_of_mem hx
      have := h j hj
      rw [List.getD_eq_getElem?_getD, List.getElem?_eq_getElem hj] at this
      simpa using (hp _).2 this
  · rw [if_neg hl]
    exact ⟨false, rfl, ⟨fun h => (by cases h), fun h => absurd h.1 (by omega)⟩⟩
theorem spec_int_in (l : List Int) (x : Int) (hl : l.length ≤ 1048576) : ∃ r, Ev (fun k => spec_l07In.f k l x) r ∧ (r = true ↔ ∃ j, j < l.length ∧ l.getD j 0 = x) := by
  obtain ⟨r, hr, he⟩ := count_loop l.length (fun k i => spec_l07In.l0 k l x i) (fun j r => r = true ↔ ∃ j', j ≤ j' ∧ j' < l.length ∧ l.getD j' 0 = x)
    ⟨false, ⟨fun h => (by cases h), fun ⟨j', h1, h2, _⟩ => by omega⟩, ev_now ⟨0, fun k _ => by simp only [spec_l07In.l0]; rw [if_neg (by omega)]⟩⟩
    (fun j hj r hr he => by
      have hd : rd l (j : Int) = l.getD j 0 := rfl
      by_cases hc : l.getD j 0 = x
      · exact ⟨true, ⟨fun _ => ⟨j, Nat.le_refl _, hj, hc⟩, fun _ => rfl⟩, ev_now ⟨0, fun k _ => by simp only [spec_l07In.l0]; rw [if_pos (by omega), if_pos (by omega), hd, if_pos hc]⟩⟩
      · refine ⟨r, hr.trans ⟨fun ⟨j', h1, h2, h3⟩ => ⟨j', by omega, h2, h3⟩, fun ⟨j', h1, h2, h3⟩ => ?_⟩, ev_step ⟨0, fun k _ => by simp only [spec_l07In.l0]; rw [if_pos (by omega), if_pos (by omega), hd, if_neg hc, wsucc hj (by omega)]⟩ he⟩
        rcases Nat.lt_or_eq_of_le h1 with h4 | rfl
        · exact ⟨j', h4, h2, h3⟩
        · exact absurd h3 hc) 0 (by omega)
  exact ⟨r, ev_same ⟨0, fun k _ => by unfold spec_l07In.f; rfl⟩ he, hr.trans ⟨fun ⟨j, _, h2, h3⟩ => ⟨j, h2, h3⟩, fun ⟨j, h2, h3⟩ => ⟨j, by omega, h2, h3⟩⟩⟩
theorem impl_int_in (l : List Int) (x : Int) (hl : l.length ≤ 1048576) : ∃ r, Ev (fun k => slices_Contains_int_int.f k l x) r ∧ (r = true ↔ ∃ j, j < l.length ∧ l.getD j 0 = x) := by
  obtain ⟨r, hr, he⟩ := count_loop l.length (fun k i => slices_Index_int_int.l0 k l x (l.length : Int) i) (fun j r => r ≥ 0 ↔ ∃ j', j ≤ j' ∧ j' < l.length ∧ l.getD j' 0 = x)
    ⟨-1, ⟨fun h => by omega, fun ⟨j', h1, h2, _⟩ => by omega⟩, ev_now ⟨0, fun k _ => by simp only [slices_Index_int_int.l0]; rw [if_neg (by omega)]⟩⟩
    (fun j hj r hr he => by
      have hd : rd l (j : Int) = l.getD j 0 := rfl
      by_cases hc : l.getD j 0 = x
      · exact ⟨(j : Int), ⟨fun _ => ⟨j, Nat.le_refl _, hj, hc⟩, fun _ => by omega⟩, ev_now ⟨0, fun k _ => by simp only [slices_Index_int_int.l0]; rw [if_pos (by omega), if_pos (by omega), if_pos (by omega), hd, if_pos hc.symm]⟩⟩
      · refine ⟨r, hr.trans ⟨fun ⟨j', h1, h2, h3⟩ => ⟨j', by omega, h2, h3⟩, fun ⟨j', h1, h2, h3⟩ => ?_⟩, ev_step ⟨0, fun k _ => by simp only [slices_Index_int_int.l0]; rw [if_pos (by omega), if_pos (by omega), if_pos (by omega), hd, if_neg (fun h => hc h.symm), wsucc hj (by omega)]⟩ he⟩
        rcases Nat.lt_or_eq_of_le h1 with h4 | rfl
        · exact ⟨j', h4, h2, h3⟩
        · exact absurd h3 hc) 0 (by omega)
  obtain ⟨K, hk⟩ := ev_at he
  refine ⟨decide (r ≥ 0), ev_mk K fun k hK => ?_, ?_⟩
  · have := hk k hK
    unfold slices_Contains_int_int.f slices_Index_int_int.f
    simp only [Int.natCast_zero] at this
    rw [this]
    rfl
  · rw [decide_eq_true_iff, hr]
    exact ⟨fun ⟨j, _, h2, h3⟩ => ⟨j, h2, h3⟩, fun ⟨j, h2, h3⟩ => ⟨j, by omega, h2, h3⟩⟩
/-- A read that is a key, and new. -/
def ReadOK (l : List Int) (j : Nat) : Prop := (0 ≤ l.getD j 0 ∧ l.getD j 0 ≤ 15) ∧ ¬ ∃ i, i < j ∧ l.getD i 0 = l.getD j 0
theorem take_in (l : List Int) (j : Nat) (hj : j < l.length) : (∃ i, i < (l.take j).length ∧ (l.take j).getD i 0 = l.getD j 0) ↔ ∃ i, i < j ∧ l.getD i 0 = l.getD j 0 := by
  have hl : (l.take j).length = j := by rw [List.length_take]; omega
  have hg : ∀ i, i < j → (l.take j).getD i 0 = l.getD i 0 := fun i hi => by simp [List.getD_eq_getElem?_getD, List.getElem?_take, hi]
  rw [hl]
  exact ⟨fun ⟨i, h1, h2⟩ => ⟨i, h1, by rw [← hg i h1]; exact h2⟩, fun ⟨i, h1, h2⟩ => ⟨i, h1, by rw [hg i h1]; exact h2⟩⟩
def IsTxn (cs : List (List S43)) (now st : Int) (l : List Int) (p : List S58) : Prop := IsStore cs now ∧ (0 ≤ st ∧ st ≤ now) ∧ IsPuts p ∧ ∀ j, j < l.length → ReadOK l j
theorem spec_reads (st : Int) (l : List Int) (p : List S58) (hl : l.length ≤ 1048576) : ∃ r, Ev (fun k => spec_l07OK.l0 k 0 st l p) r ∧ (r = true ↔ ∀ j, j < l.length → ReadOK l j) := by
  obtain ⟨r, hr, he⟩ := count_loop l.length (fun k i => spec_l07OK.l0 k i st l p) (fun j r => r = true ↔ ∀ j', j ≤ j' → j' < l.length → ReadOK l j')
    ⟨true, ⟨fun _ j' h1 h2 => by omega, fun _ => rfl⟩, ev_now ⟨0, fun k _ => by simp only [spec_l07OK.l0]; rw [if_neg (by omega)]⟩⟩
    (fun j hj r hr he => by
      have hd : rd l (j : Int) = l.getD j 0 := rfl
      obtain ⟨q, eq, hq⟩ := spec_int_in (l.take j) (l.getD j 0) (by rw [List.length_take]; omega)
      rw [take_in l j hj] at hq
      obtain ⟨K, hk⟩ := ev_at eq
      have hh : ∀ k, K ≤ k → spec_l07OK.l0 (k + 1) (j : Int) st l p = if decide (0 ≤ l.getD j 0 ∧ l.getD j 0 ≤ 15) = true then (if q = true then some false else spec_l07OK.l0 k ((j + 1 : Nat) : Int) st l p) else some false := by
        intro k hK
        conv => lhs; simp only [spec_l07OK.l0]
        rw [if_pos (by omega), if_pos (by omega), hd, spec_in]
        simp only [Option.bind_some, wsucc hj (by omega), Int.toNat_natCast]
        rw [if_pos (show (j : Int) ≤ (l.length : Int) by omega), hk k hK]
        simp only [Option.bind_some]
      by_cases h1 : 0 ≤ l.getD j 0 ∧ l.getD j 0 ≤ 15
      · by_cases h2 : q = true
        · exact ⟨false, ⟨fun h => (by cases h), fun h => absurd (hq.1 h2) (h j (Nat.le_refl _) hj).2⟩, ev_now ⟨K, fun k hK => by rw [hh k hK, if_pos (decide_eq_true h1), if_pos h2]⟩⟩
        · refine ⟨r, hr.trans ⟨fun h j' h3 h4 => ?_, fun h j' h3 h4 => h j' (by omega) h4⟩, ev_step ⟨K, fun k hK => by rw [hh k hK, if_pos (decide_eq_true h1), if_neg h2]⟩ he⟩
          rcases Nat.lt_or_eq_of_le h3 with h5 | rfl
          · exact h j' h5 h4
          · exact ⟨h1, fun h => h2 (hq.2 h)⟩
      · exact ⟨false, ⟨fun h => (by cases h), fun h => absurd (h j (Nat.le_refl _) hj).1 h1⟩, ev_now ⟨K, fun k hK => by rw [hh k hK, if_neg (by simpa using h1)]⟩⟩) 0 (by omega)
  exact ⟨r, he, hr.trans ⟨fun h j hj => h j (by omega) hj, fun h j _ hj => h j hj⟩⟩
theorem impl_reads (st : Int) (l : List Int) (p : List S58) (hl : l.length ≤ 1048576) : ∃ r, Ev (fun k => impl_TxnOK.l0 k l (l.length : Int) 0 st l p) r ∧ (r = true ↔ ∀ j, j < l.length → ReadOK l j) := by
  obtain ⟨r, hr, he⟩ := count_loop l.length (fun k i => impl_TxnOK.l0 k l (l.length : Int) i st l p) (fun j r => r = true ↔ ∀ j', j ≤ j' → j' < l.length → ReadOK l j')
    ⟨true, ⟨fun _ j' h1 h2 => by omega, fun _ => rfl⟩, ev_now ⟨0, fun k _ => by simp only [impl_TxnOK.l0]; rw [if_neg (by omega)]⟩⟩
    (fun j hj r hr he => by
      have hd : rd l (j : Int) = l.getD j 0 := rfl
      obtain ⟨q, eq, hq⟩ := impl_int_in (l.take j) (l.getD j 0) (by rw [List.length_take]; omega)
      rw [take_in l j hj] at hq
      obtain ⟨K, hk⟩ := ev_at eq
      have hh : ∀ k, K ≤ k → impl_TxnOK.l0 (k + 1) l (l.length : Int) (j : Int) st l p = if decide (0 ≤ l.getD j 0 ∧ l.getD j 0 ≤ 15) = true then (if q = true then some false else impl_TxnOK.l0 k l (l.length : Int) ((j + 1 : Nat) : Int) st l p) else some false := by
        intro k hK
        conv => lhs; simp only [impl_TxnOK.l0, impl_isKey.f]
        rw [if_pos (by omega), if_pos (by omega), if_pos (by omega), hd, impl_in]
        simp only [Option.bind_some, wsucc hj (by omega), Int.toNat_natCast]
        rw [if_pos (show (j : Int) ≤ (l.length : Int) by omega), hk k hK]
        simp only [Option.bind_some]
      by_cases h1 : 0 ≤ l.getD j 0 ∧ l.getD j 0 ≤ 15
      · by_cases h2 : q = true
        · exact ⟨false, ⟨fun h => (by cases h), fun h => absurd (hq.1 h2) (h j (Nat.le_refl _) hj).2⟩, ev_now ⟨K, fun k hK => by rw [hh k hK, if_pos (decide_eq_true h1), if_pos h2]⟩⟩
        · refine ⟨r, hr.trans ⟨fun h j' h3 h4 => ?_, fun h j' h3 h4 => h j' (by omega) h4⟩, ev_step ⟨K, fun k hK => by rw [hh k hK, if_pos (decide_eq_true h1), if_neg h2]⟩ he⟩
          rcases Nat.lt_or_eq_of_le h3 with h5 | rfl
          · exact h j' h5 h4
          · exact ⟨h1, fun h => h2 (hq.2 h)⟩
      · exact ⟨false, ⟨fun h => (by cases h), fun h => absurd (h j (Nat.le_refl _) hj).1 h1⟩, ev_now ⟨K, fun k hK => by rw [hh k hK, if_neg (by simpa using h1)]⟩⟩) 0 (by omega)
  exact ⟨r, he, hr.trans ⟨fun h j hj => h j (by omega) hj, fun h j _ hj => h j hj⟩⟩
theorem txns_agree (cs : List (List S43)) (now st : Int) (l : List Int) (p : List S58) (hx : ∀ x ∈ cs, x.length ≤ 1048576) (hl : l.length ≤ 1048576) (hp : p.length ≤ 1048576) :
    ∃ r, Ev (fun k => spec_TxnOK.f k cs now st l p) r ∧ Ev (fun k => impl_TxnOK.f k cs now st l p) r ∧ (r = true ↔ IsTxn cs now st l p) := by
  obtain ⟨b, e1, e2, hb⟩ := stores_agree cs now hx
  obtain ⟨K1, h1⟩ := ev_at e1
  obtain ⟨K2, h2⟩ := ev_at e2
  obtain ⟨q, f1, hq⟩ := spec_puts p hp
  obtain ⟨q', f2, hq'⟩ := impl_puts p
  have : q' = q := by rw [Bool.eq_iff_iff, hq, hq']
  subst this
  obtain ⟨K3, h3⟩ := ev_at f1
  obtain ⟨t, g1, ht⟩ := spec_reads st l p hl
  obtain ⟨t', g2, ht'⟩ := impl_reads st l p hl
  have : t' = t := by rw [Bool.eq_iff_iff, ht, ht']
  subst this
  obtain ⟨K4, h4⟩ := ev_at g1
  obtain ⟨K5, h5⟩ := ev_at g2
  refine ⟨b && (decide (0 ≤ st ∧ st ≤ now) && (q' && t')), ev_mk (K1 + K3 + K4 + 1) fun k hk => ?_, ev_mk (K2 + K5 + 1) fun k hk => ?_, ?_⟩
  · obtain ⟨k, rfl⟩ : ∃ m, k = m + 1 := ⟨k - 1, by omega⟩
    unfold spec_TxnOK.f spec_l07OK.f
    rw [h1 _ (by omega)]
    simp only [Option.bind_some, spec_in]
    rw [h3 _ (by omega)]
    simp only [Option.bind_some, spec_l07OK.j0]
    rw [h4 k (by omega)]
    cases b <;> cases hd : decide (0 ≤ st ∧ st ≤ now) <;> cases q' <;> cases t' <;> rfl
  · obtain ⟨k, rfl⟩ : ∃ m, k = m + 1 := ⟨k - 1, by omega⟩
    unfold impl_TxnOK.f impl_Store_isHour.f
    rw [h2 _ (by omega), f2]
    simp only [Option.bind_some, impl_in, impl_TxnOK.j0]
    rw [h5 k (by omega)]
    cases b <;> cases hd : decide (0 ≤ st ∧ st ≤ now) <;> cases q' <;> cases t' <;> rfl
  · rw [Bool.and_eq_true, Bool.and_eq_true, Bool.and_eq_true, hb, hq, ht, decide_eq_true_iff]
    rfl
end Go.Proofs.Ytfiboooflebdpaa.Pure2
namespace Go.Proofs.Ytfiboooflebdpaa.Q
open Go.RowKit Go.Proofs.YtfiboooflebdpaaW.PrintWords Go.Proofs.YtfiboooflebdpaaW.PrintLast Go.Proofs.YtfiboooflebdpaaW.PrintMore
attribute [local go_sem] max2_int min2_int max_two min_two max_three min_three max_four min_four
set_option linter.unusedVariables false
set_option linter.unusedSimpArgs false

def laws_heldVersionS.l0 : Nat → List (S43) → Int → Int → Option (Int)
 | 0, _, _, _ => none
 | k + 1, x0, x1, x5 => if x5 < (x0.length : Int) then (if 0 ≤ x5 then (if ((rd_T43 x0 x5).f0) = x1 then (if ((rd_T43 x0 x5).f1) = (wrap64 (x1 + 1)) then (laws_heldVersionS.l0 k x0 (wrap64 ((wrap64 (x1 + 1)) + 1)) (wrap64 (x5 + 1))) else (some (-1))) else (some (-1))) else (none)) else (some x1)
def laws_heldVersionS.f (k : Nat) (l0 : List (S43)) (a1 : Int) : Option (Int) := laws_heldVersionS.l0 k l0 a1 0
set_option maxHeartbeats 8000000 in
set_option maxRecDepth 100000 in
theorem laws_heldVersionS.calls (k : Nat) (A0 : Option Addr) (c0 : Nat) (l0 : List (S43)) (a1 : Int) (r : Int) (w : World) (hr0 : Kd.C k43 w A0 l0.length l0) (hc0 : l0.length ≤ c0) (h : laws_heldVersionS.f k l0 a1 = some r) :
  Calls Try.prog 106 #[.slice A0 l0.length c0, .int .i64 a1] w fun e w' => e = .returned (.int .i64 r) ∧ Drawn0 w w' := by
 have HR0 := qO hr0; have HC0 := qO hc0; clear hr0 hc0; have H : (laws_heldVersionS.l0 k l0 a1 0) = some r := h; clear h; have H' := qO H; clear H
 go_enter Try.func106, Try.ntmps106
 go_wp2
 go_loopg [1, 5] k (fun kq v1 v5 w' => ∃ (x1_1 : Int) (x5_1 : Int), v1 = .int .i64 x1_1 ∧ v5 = .int .i64 x5_1 ∧ Aside0 (laws_heldVersionS.l0 kq l0 x1_1 x5_1 = some r) ∧ Aside0 (kq ≤ k) ∧ Drawn0 w w')
 case atStart => exact ⟨(a1), (0), (by first | rfl | (simp; done) | (simp [*]; done)), (by first | rfl | (simp; done) | (simp [*]; done)), H', ⟨Nat.le_refl _⟩, by repeat (first | exact Drawn0.refl _ | apply Drawn0.step)⟩
 case round =>
  clear H'
  try clear c1
  try clear p2
  obtain ⟨x1_1, x5_1, rfl, rfl, HA, HK1, ⟨m1, rfl⟩⟩ := hrel
  cases gk with
  | zero => exact absurd HA.out (by simp [laws_heldVersionS.l0])
  | succ k1 =>
   have H := HA.out; clear HA; simp only [laws_heldVersionS.l0] at H
   by_cases c3 : x5_1 < (l0.length : Int)
   ·rw [if_pos c3] at H
    have c3b0 : decide (x5_1 < (l0.length : Int)) = true := decide_eq_true c3; clear c3
    by_cases c4 : 0 ≤ x5_1
    ·rw [if_pos c4] at H
     have c4b0 : decide (0 ≤ x5_1) = true := decide_eq_true c4; clear c4
     by_cases c5 : ((rd_T43 l0 x5_1).f0) = x1_1
     ·rw [if_pos c5] at H
      have c5b0 : (((rd_T43 l0 x5_1).f0) == x1_1) = true := beq_iff_eq.mpr c5; have c5b1 : (((rd_T43 l0 x5_1).f0) != x1_1) = false := bne_eq_false_iff_eq.mpr c5; clear c5
      by_cases c6 : ((rd_T43 l0 x5_1).f1) = (wrap64 (x1_1 + 1))
      ·rw [if_pos c6] at H
       have c6b0 : (((rd_T43 l0 x5_1).f1) == (wrap64 (x1_1 + 1))) = true := beq_iff_eq.mpr c6; have c6b1 : (((rd_T43 l0 x5_1).f1) != (wrap64 (x1_1 + 1))) = false := bne_eq_false_iff_eq.mpr c6; clear c6; have H' := qO H; clear H; have p101 : 0 ≤ (x5_1 : Int) := qT (by first | (with_reducible assumption) | assumption); have q101 : x5_1 < (l0.length : Int) := qT (by first | (with_reducible assumption) | assumption); obtain ⟨ad101, e101, hx101_0, hx101_1⟩ := at_T43 HR0.out x5_1 p101 q101
       cases e101
       replace p101 := eq_true p101; replace q101 := eq_true q101; have p102 : 0 ≤ (x5_1 : Int) := qT (by first | (with_reducible assumption) | assumption); have q102 : x5_1 < (l0.length : Int) := qT (by first | (with_reducible assumption) | assumption); obtain ⟨ad102, e102, hx102_0, hx102_1⟩ := at_T43 HR0.out x5_1 p102 q102; obtain rfl : ad101 = ad102 := (by injection e102); replace p102 := eq_true p102; replace q102 := eq_true q102; go_wp2
       go_roundg k1
       case measure => have := HK1.out; omega
       case rel => exact ⟨(wrap64 ((wrap64 (x1_1 + 1)) + 1)), (wrap64 (x5_1 + 1)), (by first | rfl | (simp; done) | (simp [*]; done)), (by first | rfl | (simp; done) | (simp [*]; done)), H', ⟨by have := HK1.out; omega⟩, by repeat (first | exact Drawn0.refl _ | apply Drawn0.step)⟩
      ·rw [if_neg c6] at H
       have c6b0 : (((rd_T43 l0 x5_1).f1) == (wrap64 (x1_1 + 1))) = false := beq_eq_false_iff_ne.mpr c6; have c6b1 : (((rd_T43 l0 x5_1).f1) != (wrap64 (x1_1 + 1))) = true := bne_iff_ne.mpr c6; obtain rfl := Option.some.inj H; have p101 : 0 ≤ (x5_1 : Int) := qT (by first | (with_reducible assumption) | assumption); have q101 : x5_1 < (l0.length : Int) := qT (by first | (with_reducible assumption) | assumption); obtain ⟨ad101, e101, hx101_0, hx101_1⟩ := at_T43 HR0.out x5_1 p101 q101
       cases e101
       replace p101 := eq_true p101; replace q101 := eq_true q101; have p102 : 0 ≤ (x5_1 : Int) := qT (by first | (with_reducible assumption) | assumption); have q102 : x5_1 < (l0.length : Int) := qT (by first | (with_reducible assumption) | assumption); obtain ⟨ad102, e102, hx102_0, hx102_1⟩ := at_T43 HR0.out x5_1 p102 q102; obtain rfl : ad101 = ad102 := (by injection e102); replace p102 := eq_true p102; replace q102 := eq_true q102; go_wp2
       go_ret
       exact ⟨by first | rfl | (simp; done) | (simp [*]; done), by repeat (first | exact Drawn0.refl _ | apply Drawn0.step)⟩
     ·rw [if_neg c5] at H
      have c5b0 : (((rd_T43 l0 x5_1).f0) == x1_1) = false := beq_eq_false_iff_ne.mpr c5; have c5b1 : (((rd_T43 l0 x5_1).f0) != x1_1) = true := bne_iff_ne.mpr c5; obtain rfl := Option.some.inj H; have p101 : 0 ≤ (x5_1 : Int) := qT (by first | (with_reducible assumption) | assumption); have q101 : x5_1 < (l0.length : Int) := qT (by first | (with_reducible assumption) | assumption); obtain ⟨ad101, e101, hx101_0, hx101_1⟩ := at_T43 HR0.out x5_1 p101 q101
      cases e101
      replace p101 := eq_true p101; replace q101 := eq_true q101; go_wp2
      go_ret
      exact ⟨by first | rfl | (simp; done) | (simp [*]; done), by repeat (first | exact Drawn0.refl _ | apply Drawn0.step)⟩
    ·rw [if_neg c4] at H
     exact absurd H (by simp)
   ·rw [if_neg c3] at H
    have c3b0 : decide (x5_1 < (l0.length : Int)) = false := decide_eq_false c3; clear c3; obtain rfl := Option.some.inj H; go_wp2
    go_ret
    exact ⟨by first | rfl | (simp; done) | (simp [*]; done), by repeat (first | exact Drawn0.refl _ | apply Drawn0.step)⟩

end Go.Proofs.Ytfiboooflebdpaa.Q
namespace Go.Proofs.Ytfiboooflebdpaa.Q
open Go.RowKit Go.Proofs.YtfiboooflebdpaaW.PrintWords Go.Proofs.YtfiboooflebdpaaW.PrintLast Go.Proofs.YtfiboooflebdpaaW.PrintMore
attribute [local go_sem] max2_int min2_int max_two min_two max_three min_three max_four min_four
set_option linter.unusedVariables false
set_option linter.unusedSimpArgs false

def laws_heldVersionSS.l0 : Nat → List (List (S43)) → Int → Int → Option (Int)
 | 0, _, _, _ => none
 | k + 1, x0, x1, x5 => if x5 < (x0.length : Int) then (if 0 ≤ x5 then ((laws_heldVersionS.f k (rd_L4 x0 x5) x1).bind fun t102 => (if t102 < 0 then (some (-1)) else (laws_heldVersionSS.l0 k x0 t102 (wrap64 (x5 + 1))))) else (none)) else (some x1)
def laws_heldVersionSS.f (k : Nat) (l0 : List (List (S43))) (a1 : Int) : Option (Int) := laws_heldVersionSS.l0 k l0 a1 0
set_option maxHeartbeats 8000000 in
set_option maxRecDepth 100000 in
theorem laws_heldVersionSS.calls (k : Nat) (A0 : Option Addr) (c0 : Nat) (l0 : List (List (S43))) (a1 : Int) (r : Int) (w : World) (hr0 : Kd.C (Kd.slice 43 k43) w A0 l0.length l0) (hc0 : l0.length ≤ c0) (h : laws_heldVersionSS.f k l0 a1 = some r) :
  Calls Try.prog 61 #[.slice A0 l0.length c0, .int .i64 a1] w fun e w' => e = .returned (.int .i64 r) ∧ Drawn0 w w' := by
 have HR0 := qO hr0; have HC0 := qO hc0; clear hr0 hc0; have H : (laws_heldVersionSS.l0 k l0 a1 0) = some r := h; clear h; have H' := qO H; clear H
 go_enter Try.func61, Try.ntmps61
 go_wp2
 go_loopg [1, 5] k (fun kq v1 v5 w' => ∃ (x1_1 : Int) (x5_1 : Int), v1 = .int .i64 x1_1 ∧ v5 = .int .i64 x5_1 ∧ Aside0 (laws_heldVersionSS.l0 kq l0 x1_1 x5_1 = some r) ∧ Aside0 (kq ≤ k) ∧ Drawn0 w w')
 case atStart => exact ⟨(a1), (0), (by first | rfl | (simp; done) | (simp [*]; done)), (by first | rfl | (simp; done) | (simp [*]; done)), H', ⟨Nat.le_refl _⟩, by repeat (first | exact Drawn0.refl _ | apply Drawn0.step)⟩
 case round =>
  clear H'
  try clear p2
  obtain ⟨x1_1, x5_1, rfl, rfl, HA, HK1, ⟨m1, rfl⟩⟩ := hrel
  cases gk with
  | zero => exact absurd HA.out (by simp [laws_heldVersionSS.l0])
  | succ k1 =>
   have H := HA.out; clear HA; simp only [laws_heldVersionSS.l0] at H
   by_cases c3 : x5_1 < (l0.length : Int)
   ·rw [if_pos c3] at H
    have c3b0 : decide (x5_1 < (l0.length : Int)) = true := decide_eq_true c3; clear c3
    by_cases c4 : 0 ≤ x5_1
    ·rw [if_pos c4] at H
     have c4b0 : decide (0 ≤ x5_1) = true := decide_eq_true c4; clear c4; replace H := Option.bind_eq_some_iff.mp H; obtain ⟨t102, A50, H⟩ := H; replace H : (if t102 < 0 then (some (-1)) else (laws_heldVersionSS.l0 k1 l0 t102 (wrap64 (x5_1 + 1)))) = some r := H; have A5 := qO A50; clear A50
     by_cases c6 : t102 < 0
     ·rw [if_pos c6] at H
      have c6b0 : decide (t102 < 0) = true := decide_eq_true c6; clear c6; obtain rfl := Option.some.inj H; have p101 : 0 ≤ (x5_1 : Int) := qT (by first | (with_reducible assumption) | assumption); have q101 : x5_1 < (l0.length : Int) := qT (by first | (with_reducible assumption) | assumption); obtain ⟨ad101, A101_0, c101_0, e101, hx101_0, hl101_0, hi101_0⟩ := at_L4 HR0.out x5_1 p101 q101
      cases e101
      have HR101_0 := qO hi101_0; have HC101_0 := qO hl101_0; clear hi101_0 hl101_0; replace p101 := eq_true p101; replace q101 := eq_true q101
      go_wp2_with (first | ((with_reducible refine gate_callee (f := 106) rfl ?_); refine goesL_ (some 17) rfl rfl Try.func106 (by kernel_rfl) rfl #[.slice A101_0 (rd_L4 l0 x5_1).length c101_0, .int .i64 x1_1] rfl (by (try simp only [List.map_toArray, List.map_cons, List.map_nil]); first | done | rfl | (simp only [List.length_drop, List.length_take]; rfl)) ?_; (with_reducible refine (laws_heldVersionS.calls k1 _ _ (rd_L4 l0 x5_1) x1_1 t102 _ ?side1 ?side2 A5.out).mono ?_); (case side1 => repeat (first | exact HR101_0.out | with_reducible first | refine Kd.C_alloc ?_ _ | refine Kd.C_drewN ?_ _ | refine Kd.C_drew ?_)); (case side2 => exact HC101_0.out); rintro e w' ⟨rfl, ⟨nd, rfl⟩⟩; refine ⟨_, rfl, ?_⟩))
      go_ret
      exact ⟨by first | rfl | (simp; done) | (simp [*]; done), by repeat (first | exact Drawn0.refl _ | apply Drawn0.step)⟩
     ·rw [if_neg c6] at H
      have c6b0 : decide (t102 < 0) = false := decide_eq_false c6; clear c6; have H' := qO H; clear H; have p101 : 0 ≤ (x5_1 : Int) := qT (by first | (with_reducible assumption) | assumption); have q101 : x5_1 < (l0.length : Int) := qT (by first | (with_reducible assumption) | assumption); obtain ⟨ad101, A101_0, c101_0, e101, hx101_0, hl101_0, hi101_0⟩ := at_L4 HR0.out x5_1 p101 q101
      cases e101
      have HR101_0 := qO hi101_0; have HC101_0 := qO hl101_0; clear hi101_0 hl101_0; replace p101 := eq_true p101; replace q101 := eq_true q101
      go_wp2_with (first | ((with_reducible refine gate_callee (f := 106) rfl ?_); refine goesL_ (some 17) rfl rfl Try.func106 (by kernel_rfl) rfl #[.slice A101_0 (rd_L4 l0 x5_1).length c101_0, .int .i64 x1_1] rfl (by (try simp only [List.map_toArray, List.map_cons, List.map_nil]); first | done | rfl | (simp only [List.length_drop, List.length_take]; rfl)) ?_; (with_reducible refine (laws_heldVersionS.calls k1 _ _ (rd_L4 l0 x5_1) x1_1 t102 _ ?side1 ?side2 A5.out).mono ?_); (case side1 => repeat (first | exact HR101_0.out | with_reducible first | refine Kd.C_alloc ?_ _ | refine Kd.C_drewN ?_ _ | refine Kd.C_drew ?_)); (case side2 => exact HC101_0.out); rintro e w' ⟨rfl, ⟨nd, rfl⟩⟩; refine ⟨_, rfl, ?_⟩))
      go_roundg k1
      case measure => have := HK1.out; omega
      case rel => exact ⟨(t102), (wrap64 (x5_1 + 1)), (by first | rfl | (simp; done) | (simp [*]; done)), (by first | rfl | (simp; done) | (simp [*]; done)), H', ⟨by have := HK1.out; omega⟩, by repeat (first | exact Drawn0.refl _ | apply Drawn0.step)⟩
    ·rw [if_neg c4] at H
     exact absurd H (by simp)
   ·rw [if_neg c3] at H
    have c3b0 : decide (x5_1 < (l0.length : Int)) = false := decide_eq_false c3; clear c3; obtain rfl := Option.some.inj H; go_wp2
    go_ret
    exact ⟨by first | rfl | (simp; done) | (simp [*]; done), by repeat (first | exact Drawn0.refl _ | apply Drawn0.step)⟩

end Go.Proofs.Ytfiboooflebdpaa.Q
namespace Go.Proofs.Ytfiboooflebdpaa.Q
open Go.RowKit Go.Proofs.YtfiboooflebdpaaW.PrintWords Go.Proofs.YtfiboooflebdpaaW.PrintLast Go.Proofs.YtfiboooflebdpaaW.PrintMore
attribute [local go_sem] max2_int min2_int max_two min_two max_three min_three max_four min_four
set_option linter.unusedVariables false
set_option linter.unusedSimpArgs false

def laws_heldStore.f (k : Nat) (l0_0 : List (List (S43))) (a0_1 : Int) (a1 : Int) : Option (Int) := (laws_heldVersionSS.f k l0_0 a1).bind fun t102 => (if t102 < 0 then (some (-1)) else (some t102))
set_option maxHeartbeats 8000000 in
set_option maxRecDepth 100000 in
theorem laws_heldStore.calls (k : Nat) (A0_0 : Option Addr) (c0_0 : Nat) (l0_0 : List (List (S43))) (a0_1 : Int) (a1 : Int) (r : Int) (w : World) (hr0_0 : Kd.C (Kd.slice 43 k43) w A0_0 l0_0.length l0_0) (hc0_0 : l0_0.length ≤ c0_0) (h : laws_heldStore.f k l0_0 a0_1 a1 = some r) :
  Calls Try.prog 17 #[.agg #[.slice A0_0 l0_0.length c0_0, .int .i64 a0_1], .int .i64 a1] w fun e w' => e = .returned (.int .i64 r) ∧ Below w.heap.size w w' := by
 have hu28 := Try.underlying28; have HR0_0 := qO hr0_0; have HC0_0 := qO hc0_0; clear hr0_0 hc0_0; have HB := qO (Below.refl w.heap.size w); have H : ((laws_heldVersionSS.f k l0_0 a1).bind fun t102 => (if t102 < 0 then (some (-1)) else (some t102))) = some r := h; clear h; replace H := Option.bind_eq_some_iff.mp H; obtain ⟨t102, A30, H⟩ := H; replace H : (if t102 < 0 then (some (-1)) else (some t102)) = some r := H; have A3 := qO A30; clear A30
 by_cases c4 : t102 < 0
 ·rw [if_pos c4] at H
  have c4b0 : decide (t102 < 0) = true := decide_eq_true c4; clear c4; obtain rfl := Option.some.inj H
  go_enter Try.func17, Try.ntmps17
  go_wp2_with (first | ((with_reducible refine gate_dst (N := 2) rfl ?_); refine box_event ?hg (N := 2) ?hd (cs := #[.slice A0_0 l0_0.length c0_0, .int .i64 a0_1]) (t := 28) ?hr ?_; (case hd => rfl); (case hg => rfl); (case hr => first | (go_simp; done) | (go_simp; rfl)); intro gb101 hg w5 hbox hb; have hx_ := qHX HB hb (by with_reducible repeat (first | refine qbN ?_ _ | refine qbD ?_ | refine qbA ?_ _ | exact Below.refl _ _)); have n0_ := qO (below_step (below_step HB.out hx_) hb); have n1_ := qO (hbox); have n2_ := qO ((by rw [hg]; exact (below_size (below_step HB.out hx_)) : w.heap.size ≤ gb101)); have n3_ := n2_; clear HB; have HB := n0_; have BK101 := n1_; have GW101 := n2_; have GE101 := n3_; clear n0_ n1_ n2_ n3_; clear hx_; clear hb hbox hg; have hcz6_0 : w5.cell? ⟨gb101, 0, none⟩ = some (.slice A0_0 l0_0.length c0_0) := (blk_cell BK101.out 0).trans rfl; have hcz6_1 : w5.cell? ⟨gb101, 1, none⟩ = some (.int .i64 a0_1) := (blk_cell BK101.out 1).trans rfl; have hfz6_0 := blk_frozen BK101.out 0; have hfz6_1 := blk_frozen BK101.out 1) | ((with_reducible refine gate_callee (f := 61) rfl ?_); refine goesL_ (some 8) rfl rfl Try.func61 (by kernel_rfl) rfl #[.slice A0_0 l0_0.length c0_0, .int .i64 a1] rfl (by (try simp only [List.map_toArray, List.map_cons, List.map_nil]); first | done | rfl | (simp only [List.length_drop, List.length_take]; rfl)) ?_; (with_reducible refine (laws_heldVersionSS.calls k _ _ l0_0 a1 t102 _ ?side1 ?side2 A3.out).mono ?_); (case side1 => repeat (first | exact (Kd.C_below HR0_0.out HB.out) | with_reducible first | refine Kd.C_alloc ?_ _ | refine Kd.C_drewN ?_ _ | refine Kd.C_drew ?_)); (case side2 => exact HC0_0.out); rintro e w' ⟨rfl, ⟨nd, rfl⟩⟩; refine ⟨_, rfl, ?_⟩))
  go_ret
  exact ⟨by first | rfl | (simp [errW_none, errW_some] <;> rfl) | (simp [*, errW_none, errW_some] <;> rfl), by repeat (first | (with_reducible first | exact HB.out | apply qbA | apply qbN | apply qbD | refine qbS ?_ GE101.out) | exact HB.out)⟩
 ·rw [if_neg c4] at H
  have c4b0 : decide (t102 < 0) = false := decide_eq_false c4; clear c4; obtain rfl := Option.some.inj H
  go_enter Try.func17, Try.ntmps17
  go_wp2_with (first | ((with_reducible refine gate_dst (N := 2) rfl ?_); refine box_event ?hg (N := 2) ?hd (cs := #[.slice A0_0 l0_0.length c0_0, .int .i64 a0_1]) (t := 28) ?hr ?_; (case hd => rfl); (case hg => rfl); (case hr => first | (go_simp; done) | (go_simp; rfl)); intro gb101 hg w7 hbox hb; have hx_ := qHX HB hb (by with_reducible repeat (first | refine qbN ?_ _ | refine qbD ?_ | refine qbA ?_ _ | exact Below.refl _ _)); have n0_ := qO (below_step (below_step HB.out hx_) hb); have n1_ := qO (hbox); have n2_ := qO ((by rw [hg]; exact (below_size (below_step HB.out hx_)) : w.heap.size ≤ gb101)); have n3_ := n2_; clear HB; have HB := n0_; have BK101 := n1_; have GW101 := n2_; have GE101 := n3_; clear n0_ n1_ n2_ n3_; clear hx_; clear hb hbox hg; have hcz8_0 : w7.cell? ⟨gb101, 0, none⟩ = some (.slice A0_0 l0_0.length c0_0) := (blk_cell BK101.out 0).trans rfl; have hcz8_1 : w7.cell? ⟨gb101, 1, none⟩ = some (.int .i64 a0_1) := (blk_cell BK101.out 1).trans rfl; have hfz8_0 := blk_frozen BK101.out 0; have hfz8_1 := blk_frozen BK101.out 1) | ((with_reducible refine gate_callee (f := 61) rfl ?_); refine goesL_ (some 8) rfl rfl Try.func61 (by kernel_rfl) rfl #[.slice A0_0 l0_0.length c0_0, .int .i64 a1] rfl (by (try simp only [List.map_toArray, List.map_cons, List.map_nil]); first | done | rfl | (simp only [List.length_drop, List.length_take]; rfl)) ?_; (with_reducible refine (laws_heldVersionSS.calls k _ _ l0_0 a1 t102 _ ?side1 ?side2 A3.out).mono ?_); (case side1 => repeat (first | exact (Kd.C_below HR0_0.out HB.out) | with_reducible first | refine Kd.C_alloc ?_ _ | refine Kd.C_drewN ?_ _ | refine Kd.C_drew ?_)); (case side2 => exact HC0_0.out); rintro e w' ⟨rfl, ⟨nd, rfl⟩⟩; refine ⟨_, rfl, ?_⟩))
  go_ret
  exact ⟨by first | rfl | (simp [errW_none, errW_some] <;> rfl) | (simp [*, errW_none, errW_some] <;> rfl), by repeat (first | (with_reducible first | exact HB.out | apply qbA | apply qbN | apply qbD | refine qbS ?_ GE101.out) | exact HB.out)⟩

end Go.Proofs.Ytfiboooflebdpaa.Q
namespace Go.Proofs.Ytfiboooflebdpaa.Pure2
open Go.RowKit Go.Proofs.Ytfiboooflebdpaa.Q Go.Proofs.YtfiboooflebdpaaW.PrintWords Go.Proofs.YtfiboooflebdpaaW.PrintLast
set_option linter.unusedVariables false
set_option linter.unusedSimpArgs false
/-! marks of rows of versions -/
def mkV (m : Int) (n : Nat) : List S43 := (List.range n).map (fun (j : Nat) => ⟨m + 2 * (j : Int), m + 2 * (j : Int) + 1⟩)
theorem mkV_len (m : Int) (n : Nat) : (mkV m n).length = n := by simp [mkV]
theorem mkV_at (m : Int) (n i : Nat) (h : i < n) : (mkV m n)[i]? = some ⟨m + 2 * (i : Int), m + 2 * (i : Int) + 1⟩ := by simp [mkV, h]
theorem mark_row (l : List S43) (m : Int) (h0 : 0 ≤ m) (hm : m ≤ 4611686018427387904) (hl : l.length ≤ 1048576) : Ev (fun k => laws_markVersionS.f k l m) (m + 2 * (l.length : Int), mkV m l.length) := by
  obtain ⟨r, hr, he⟩ := state_loop l.length (fun k (s : List S43 × Int) i => laws_markVersionS.l0 k s.1 s.2 i) (fun j s => s.2 = m + 2 * (j : Int) ∧ s.1.length = l.length ∧ ∀ i, i < j → s.1[i]? = some ⟨m + 2 * (i : Int), m + 2 * (i : Int) + 1⟩) (fun _ _ r => r = (m + 2 * (l.length : Int), mkV m l.length))
    (fun s hi => ⟨(s.2, s.1), by
      obtain ⟨h1, h2, h3⟩ := hi
      refine Prod.ext h1 (List.ext_getElem? fun i => ?_)
      by_cases h : i < l.length
      · rw [h3 i h, mkV_at m _ i h]
      · rw [List.getElem?_eq_none (show s.1.length ≤ i by omega), List.getElem?_eq_none (by rw [mkV_len]; omega)], ev_now ⟨0, fun k _ => by
        have h2 := hi.2.1
        simp only [laws_markVersionS.l0]; rw [if_neg (by omega)]⟩⟩)
    (fun j s hj hi => by
      obtain ⟨h1, h2, h3⟩ := hi
      have hw : wrap64 (s.2 + 1) = s.2 + 1 := by unfold wrap64; omega
      have hw2 : wrap64 ((wrap64 (s.2 + 1)) + 1) = s.2 + 2 := by rw [hw]; unfold wrap64; omega
      have hg : ((s.1.set j (⟨s.2, (s.1.getD j z43).f1⟩ : S43)).getD j z43) = ⟨s.2, (s.1.getD j z43).f1⟩ := by
        rw [List.getD_eq_getElem?_getD, List.getElem?_set_self (by omega)]; rfl
      refine .inr ⟨((s.1.set j (⟨s.2, (s.1.getD j z43).f1⟩ : S43)).set j (⟨s.2, s.2 + 1⟩ : S43), s.2 + 2), ⟨by show s.2 + 2 = _; omega, by simp [h2], fun i hij => ?_⟩, fun r h => h, 0, fun k _ => ?_⟩
      · by_cases he : i = j
        · subst he
          rw [List.getElem?_set_self (by simp; omega), h1]
        · rw [List.getElem?_set_ne (by omega), List.getElem?_set_ne (by omega)]
          exact h3 i (by omega)
      · simp only [laws_markVersionS.l0]
        rw [if_pos (by omega), if_pos (by omega)]
        simp only [Option.bind_some]
        rw [hw2, wsucc hj (by omega), hw]
        show laws_markVersionS.l0 k ((s.1.set j (⟨s.2, (s.1.getD j z43).f1⟩ : S43)).set j (⟨((s.1.set j (⟨s.2, (s.1.getD j z43).f1⟩ : S43)).getD j z43).f0, s.2 + 1⟩ : S43)) (s.2 + 2) _ = _
        rw [hg]) 0 (l, m) (by omega) ⟨by show m = _; omega, rfl, fun i hi => by omega⟩
  subst hr
  exact ev_same ⟨0, fun k _ => by unfold laws_markVersionS.f; rfl⟩ he
def posV (m : Int) (ls : List (List S43)) (i : Nat) : Int := m + 2 * ((((ls.take i).map List.length).sum : Nat) : Int)
theorem posV_zero (m : Int) (ls : List (List S43)) : posV m ls 0 = m := by simp [posV]
theorem posV_succ (m : Int) (ls : List (List S43)) (i : Nat) (h : i < ls.length) : posV m ls (i + 1) = posV m ls i + 2 * (((ls.getD i []).length : Nat) : Int) := by
  unfold posV
  rw [List.take_add_one, List.getElem?_eq_getElem h, List.getD_eq_getElem?_getD, List.getElem?_eq_getElem h]
  simp only [Option.toList, List.map_append, List.map_cons, List.map_nil, List.sum_append, List.sum_cons, List.sum_nil, Option.getD_some]
  omega
theorem posV_bound (m : Int) (ls : List (List S43)) (hx : ∀ x ∈ ls, x.length ≤ 1048576) : ∀ i, i ≤ ls.length → m ≤ posV m ls i ∧ posV m ls i ≤ m + 2097152 * (i : Int) := by
  intro i
  induction i with
  | zero => intro _; rw [posV_zero]; omega
  | succ i ih =>
    intro h
    have hm : (ls.getD i []) ∈ ls := by rw [List.getD_eq_getElem?_getD, List.getElem?_eq_getElem (by omega)]; exact List.getElem_mem (by omega)
    have := ih (by omega)
    have := hx _ hm
    rw [posV_succ m ls i (by omega)]
    omega
def mkS (m : Int) (ls : List (List S43)) : List (List S43) := (List.range ls.length).map (fun (i : Nat) => mkV (posV m ls i) (ls.getD i []).length)
theorem mkS_len (m : Int) (ls : List (List S43)) : (mkS m ls).length = ls.length := by simp [mkS]
theorem mkS_at (m : Int) (ls : List (List S43)) (i : Nat) (h : i < ls.length) : (mkS m ls)[i]? = some (mkV (posV m ls i) (ls.getD i []).length) := by simp [mkS, h]
theorem mark_rows (ls : List (List S43)) (m : Int) (h0 : 0 ≤ m) (hm : m ≤ 1099511627776) (hl : ls.length ≤ 1048576) (hx : ∀ x ∈ ls, x.length ≤ 1048576) : Ev (fun k => laws_markVersionSS.f k ls m) (posV m ls ls.length, mkS m ls) := by
  obtain ⟨r, hr, he⟩ := state_loop ls.length (fun k (s : List (List S43) × Int) i => laws_markVersionSS.l0 k s.1 s.2 i) (fun j s => s.2 = posV m ls j ∧ s.1.length = ls.length ∧ (∀ i, i < j → s.1[i]? = (mkS m ls)[i]?) ∧ ∀ i, j ≤ i → s.1[i]? = ls[i]?) (fun _ _ r => r = (posV m ls ls.length, mkS m ls))
    (fun s hi => ⟨(s.2, s.1), by
      obtain ⟨h1, h2, h3, _⟩ := hi
      refine Prod.ext h1 (List.ext_getElem? fun i => ?_)
      by_cases h : i < ls.length
      · exact h3 i h
      · rw [List.getElem?_eq_none (show s.1.length ≤ i by omega), List.getElem?_eq_none (by rw [mkS_len]; omega)], ev_now ⟨0, fun k _ => by
        have h2 := hi.2.1
        simp only [laws_markVersionSS.l0]; rw [if_neg (by omega)]⟩⟩)
    (fun j s hj hi => by
      obtain ⟨h1, h2, h3, h4⟩ := hi
      have hmem : (ls.getD j []) ∈ ls := by rw [List.getD_eq_getElem?_getD, List.getElem?_eq_getElem hj]; exact List.getElem_mem hj
      have hb := posV_bound m ls hx j (by omega)
      have hrow : s.1.getD j [] = ls.getD j [] := by rw [List.getD_eq_getElem?_getD, List.getD_eq_getElem?_getD, h4 j (Nat.le_refl _)]
      obtain ⟨K, hk⟩ := ev_at (mark_row (ls.getD j []) (posV m ls j) (by omega) (by omega) (hx _ hmem))
      refine .inr ⟨(s.1.set j (mkV (posV m ls j) (ls.getD j []).length), posV m ls (j + 1)), ⟨rfl, by simp [h2], fun i hij => ?_, fun i hij => ?_⟩, fun r h => h, K, fun k hK => ?_⟩
      · by_cases he : i = j
        · subst he
          rw [List.getElem?_set_self (by omega), mkS_at m ls i hj]
        · rw [List.getElem?_set_ne (by omega)]
          exact h3 i (by omega)
      · rw [List.getElem?_set_ne (by omega)]
        exact h4 i (by omega)
      · have e' : laws_markVersionS.f k (s.1.getD j []) s.2 = some (posV m ls j + 2 * ((ls.getD j []).length : Int), mkV (posV m ls j) (ls.getD j []).length) := by rw [hrow, h1]; exact hk k hK
        simp only [laws_markVersionSS.l0]
        rw [if_pos (by omega), if_pos (by omega)]
        show (laws_markVersionS.f k (s.1.getD j []) s.2).bind _ = _
        rw [e']
        simp only [Option.bind_some, Int.toNat_natCast]
        rw [wsucc hj (by omega), posV_succ m ls j hj]) 0 (ls, m) (by omega) ⟨(posV_zero m ls).symm, rfl, fun i hi => by omega, fun i _ => rfl⟩
  subst hr
  exact ev_same ⟨0, fun k _ => by unfold laws_markVersionSS.f; rfl⟩ he
theorem held_row (n : Nat) (m : Int) (h0 : 0 ≤ m) (hm : m ≤ 4611686018427387904) (hl : n ≤ 1048576) : Ev (fun k => laws_heldVersionS.f k (mkV m n) m) (m + 2 * (n : Int)) := by
  have hlen := mkV_len m n
  obtain ⟨r, hr, he⟩ := state_loop n (fun k (s : Int) i => laws_heldVersionS.l0 k (mkV m n) s i) (fun j s => s = m + 2 * (j : Int)) (fun _ _ r => r = m + 2 * (n : Int))
    (fun s hi => ⟨s, hi, ev_now ⟨0, fun k _ => by simp only [laws_heldVersionS.l0]; rw [if_neg (by omega)]⟩⟩)
    (fun j s hj hi => by
      have hw : wrap64 (s + 1) = s + 1 := by unfold wrap64; omega
      have hw2 : wrap64 ((wrap64 (s + 1)) + 1) = s + 2 := by rw [hw]; unfold wrap64; omega
      have hg : rd_T43 (mkV m n) (j : Int) = ⟨m + 2 * (j : Int), m + 2 * (j : Int) + 1⟩ := by
        show (mkV m n).getD j z43 = _
        rw [List.getD_eq_getElem?_getD, mkV_at m n j hj]; rfl
      refine .inr ⟨s + 2, by show s + 2 = _; omega, fun r h => h, 0, fun k _ => ?_⟩
      simp only [laws_heldVersionS.l0]
      rw [if_pos (by omega), if_pos (by omega), hg, if_pos hi.symm, hw, if_pos (by show m + 2 * (j : Int) + 1 = _; omega), wsucc hj (by omega)]
      have : wrap64 (s + 1 + 1) = s + 2 := by unfold wrap64; omega
      rw [this]) 0 m (by omega) (by omega)
  subst hr
  exact ev_same ⟨0, fun k _ => by unfold laws_heldVersionS.f; rfl⟩ he
theorem held_rows (ls : List (List S43)) (m : Int) (h0 : 0 ≤ m) (hm : m ≤ 1099511627776) (hl : ls.length ≤ 1048576) (hx : ∀ x ∈ ls, x.length ≤ 1048576) : Ev (fun k => laws_heldVersionSS.f k (mkS m ls) m) (posV m ls ls.length) := by
  have hlen := mkS_len m ls
  obtain ⟨r, hr, he⟩ := state_loop ls.length (fun k (s : Int) i => laws_heldVersionSS.l0 k (mkS m ls) s i) (fun j s => s = posV m ls j) (fun _ _ r => r = posV m ls ls.length)
    (fun s hi => ⟨s, hi, ev_now ⟨0, fun k _ => by simp only [laws_heldVersionSS.l0]; rw [if_neg (by omega)]⟩⟩)
    (fun j s hj hi => by
      have hmem : (ls.getD j []) ∈ ls := by rw [List.getD_eq_getElem?_getD, List.getElem?_eq_getElem hj]; exact List.getElem_mem hj
      have hb := posV_bound m ls hx j (by omega)
      have hg : (mkS m ls).getD j [] = mkV (posV m ls j) (ls.getD j []).length := by rw [List.getD_eq_getElem?_getD, mkS_at m ls j hj]; rfl
      obtain ⟨K, hk⟩ := ev_at (held_row (ls.getD j []).length (posV m ls j) (by omega) (by omega) (hx _ hmem))
      refine .inr ⟨posV m ls (j + 1), rfl, fun r h => h, K, fun k hK => ?_⟩
      have e' : laws_heldVersionS.f k ((mkS m ls).getD j []) s = some (posV m ls (j + 1)) := by rw [hg, hi, posV_succ m ls j hj]; exact hk k hK
      have hb2 := posV_bound m ls hx (j + 1) (by omega)
      simp only [laws_heldVersionSS.l0]
      rw [if_pos (by omega), if_pos (by omega)]
      show (laws_heldVersionS.f k ((mkS m ls).getD j []) s).bind _ = _
      rw [e']
      simp only [Option.bind_some]
      rw [if_neg (by omega), wsucc hj (by omega)]) 0 m (by omega) (posV_zero m ls).symm
  subst hr
  exact ev_same ⟨0, fun k _ => by unfold laws_heldVersionSS.f; rfl⟩ he
theorem mark_store (ls : List (List S43)) (n : Int) (hl : ls.length ≤ 1048576) (hx : ∀ x ∈ ls, x.length ≤ 1048576) : ∃ m l', Ev (fun k => laws_markStore.f k ls n 1) (m, l') ∧ Ev (fun k => laws_heldStore.f k l' n 1) m ∧ 0 ≤ m := by
  have hb := posV_bound 1 ls hx ls.length (Nat.le_refl _)
  refine ⟨_, _, mark_rows ls 1 (by omega) (by omega) hl hx, ?_, by omega⟩
  obtain ⟨K, hk⟩ := ev_at (held_rows ls 1 (by omega) (by omega) hl hx)
  exact ev_mk K fun k hK => by unfold laws_heldStore.f; rw [hk k hK]; simp only [Option.bind_some]; rw [if_neg (by omega)]
theorem mark_store_arg (ls : List (List S43)) (n : Int) (hl : ls.length ≤ 1048576) (hx : ∀ x ∈ ls, x.length ≤ 1048576) : ∃ m, Ev (fun k => laws_markStore.f k ls n 1) (m, mkS 1 ls) ∧ 0 ≤ m ∧ m ≤ 4398046511104 := by
  have hb := posV_bound 1 ls hx ls.length (Nat.le_refl _)
  exact ⟨_, mark_rows ls 1 (by omega) (by omega) hl hx, by omega, by omega⟩
end Go.Proofs.Ytfiboooflebdpaa.Pure2
namespace Go.Proofs.Ytfiboooflebdpaa.Pure2
open Go.RowKit Go.Proofs.Ytfiboooflebdpaa.Q Go.Proofs.YtfiboooflebdpaaW.PrintWords Go.Proofs.YtfiboooflebdpaaW.PrintLast
set_option linter.unusedVariables false
set_option linter.unusedSimpArgs false
/-! marks of whole numbers -/
def mkI (m : Int) (n : Nat) : List Int := (List.range n).map (fun (j : Nat) => m + (j : Int))
theorem mkI_len (m : Int) (n : Nat) : (mkI m n).length = n := by simp [mkI]
theorem mkI_at (m : Int) (n i : Nat) (h : i < n) : (mkI m n)[i]? = some (m + (i : Int)) := by simp [mkI, h]
theorem mark_ints (l : List Int) (m : Int) (h0 : 0 ≤ m) (hm : m ≤ 4611686018427387904) (hl : l.length ≤ 1048576) : Ev (fun k => laws_markIntS.f k l m) (m + (l.length : Int), mkI m l.length) := by
  obtain ⟨r, hr, he⟩ := state_loop l.length (fun k (s : List Int × Int) i => laws_markIntS.l0 k s.1 s.2 i) (fun j s => s.2 = m + (j : Int) ∧ s.1.length = l.length ∧ ∀ i, i < j → s.1[i]? = some (m + (i : Int))) (fun _ _ r => r = (m + (l.length : Int), mkI m l.length))
    (fun s hi => ⟨(s.2, s.1), by
      obtain ⟨h1, h2, h3⟩ := hi
      refine Prod.ext h1 (List.ext_getElem? fun i => ?_)
      by_cases h : i < l.length
      · rw [h3 i h, mkI_at m _ i h]
      · rw [List.getElem?_eq_none (show s.1.length ≤ i by omega), List.getElem?_eq_none (by rw [mkI_len]; omega)], ev_now ⟨0, fun k _ => by
        have h2 := hi.2.1
        simp only [laws_markIntS.l0]; rw [if_neg (by omega)]⟩⟩)
    (fun j s hj hi => by
      obtain ⟨h1, h2, h3⟩ := hi
      have hw : wrap64 (s.2 + 1) = s.2 + 1 := by unfold wrap64; omega
      refine .inr ⟨(s.1.set j s.2, s.2 + 1), ⟨by show s.2 + 1 = _; omega, by simp [h2], fun i hij => ?_⟩, fun r h => h, 0, fun k _ => ?_⟩
      · by_cases he : i = j
        · subst he
          rw [List.getElem?_set_self (by omega), h1]
        · rw [List.getElem?_set_ne (by omega)]
          exact h3 i (by omega)
      · simp only [laws_markIntS.l0]
        rw [if_pos (by omega), if_pos (by omega), hw, wsucc hj (by omega), Int.toNat_natCast]) 0 (l, m) (by omega) ⟨by show m = _; omega, rfl, fun i hi => by omega⟩
  subst hr
  exact ev_same ⟨0, fun k _ => by unfold laws_markIntS.f; rfl⟩ he
theorem held_ints (n : Nat) (m : Int) (h0 : 0 ≤ m) (hm : m ≤ 4611686018427387904) (hl : n ≤ 1048576) : Ev (fun k => laws_heldIntS.f k (mkI m n) m) (m + (n : Int)) := by
  have hlen := mkI_len m n
  obtain ⟨r, hr, he⟩ := state_loop n (fun k (s : Int) i => laws_heldIntS.l0 k (mkI m n) s i) (fun j s => s = m + (j : Int)) (fun _ _ r => r = m + (n : Int))
    (fun s hi => ⟨s, hi, ev_now ⟨0, fun k _ => by simp only [laws_heldIntS.l0]; rw [if_neg (by omega)]⟩⟩)
    (fun j s hj hi => by
      have hw : wrap64 (s + 1) = s + 1 := by unfold wrap64; omega
      have hg : rd (mkI m n) (j : Int) = m + (j : Int) := by
        show (mkI m n).getD j 0 = _
        rw [List.getD_eq_getElem?_getD, mkI_at m n j hj]; rfl
      refine .inr ⟨s + 1, by show s + 1 = _; omega, fun r h => h, 0, fun k _ => ?_⟩
      simp only [laws_heldIntS.l0]
      rw [if_pos (by omega), if_pos (by omega), hg, if_pos hi.symm, hw, wsucc hj (by omega)]) 0 m (by omega) (by omega)
  subst hr
  exact ev_same ⟨0, fun k _ => by unfold laws_heldIntS.f; rfl⟩ he
/-! marks of puts and of transactions -/
def mkP (m : Int) (n : Nat) : List S58 := (List.range n).map (fun (j : Nat) => ⟨m + 2 * (j : Int), m + 2 * (j : Int) + 1⟩)
theorem mkP_len (m : Int) (n : Nat) : (mkP m n).length = n := by simp [mkP]
theorem mkP_at (m : Int) (n i : Nat) (h : i < n) : (mkP m n)[i]? = some ⟨m + 2 * (i : Int), m + 2 * (i : Int) + 1⟩ := by simp [mkP, h]
theorem mark_puts (l : List S58) (m : Int) (h0 : 0 ≤ m) (hm : m ≤ 4611686018427387904) (hl : l.length ≤ 1048576) : Ev (fun k => laws_markPutS.f k l m) (m + 2 * (l.length : Int), mkP m l.length) := by
  obtain ⟨r, hr, he⟩ := state_loop l.length (fun k (s : List S58 × Int) i => laws_markPutS.l0 k s.1 s.2 i) (fun j s => s.2 = m + 2 * (j : Int) ∧ s.1.length = l.length ∧ ∀ i, i < j → s.1[i]? = some ⟨m + 2 * (i : Int), m + 2 * (i : Int) + 1⟩) (fun _ _ r => r = (m + 2 * (l.length : Int), mkP m l.length))
    (fun s hi => ⟨(s.2, s.1), by
      obtain ⟨h1, h2, h3⟩ := hi
      refine Prod.ext h1 (List.ext_getElem? fun i => ?_)
      by_cases h : i < l.length
      · rw [h3 i h, mkP_at m _ i h]
      · rw [List.getElem?_eq_none (show s.1.length ≤ i by omega), List.getElem?_eq_none (by rw [mkP_len]; omega)], ev_now ⟨0, fun k _ => by
        have h2 := hi.2.1
        simp only [laws_markPutS.l0]; rw [if_neg (by omega)]⟩⟩)
    (fun j s hj hi => by
      obtain ⟨h1, h2, h3⟩ := hi
      have hw : wrap64 (s.2 + 1) = s.2 + 1 := by unfold wrap64; omega
      have hw2 : wrap64 ((wrap64 (s.2 + 1)) + 1) = s.2 + 2 := by rw [hw]; unfold wrap64; omega
      have hg : ((s.1.set j (⟨s.2, (s.1.getD j z58).f1⟩ : S58)).getD j z58) = ⟨s.2, (s.1.getD j z58).f1⟩ := by
        rw [List.getD_eq_getElem?_getD, List.getElem?_set_self (by omega)]; rfl
      refine .inr ⟨((s.1.set j (⟨s.2, (s.1.getD j z58).f1⟩ : S58)).set j (⟨s.2, s.2 + 1⟩ : S58), s.2 + 2), ⟨by show s.2 + 2 = _; omega, by simp [h2], fun i hij => ?_⟩, fun r h => h, 0, fun k _ => ?_⟩
      · by_cases he : i = j
        · subst he
          rw [List.getElem?_set_self (by simp; omega), h1]
        · rw [List.getElem?_set_ne (by omega), List.getElem?_set_ne (by omega)]
          exact h3 i (by omega)
      · simp only [laws_markPutS.l0]
        rw [if_pos (by omega), if_pos (by omega)]
        simp only [Option.bind_some]
        rw [hw2, wsucc hj (by omega), hw]
        show laws_markPutS.l0 k ((s.1.set j (⟨s.2, (s.1.getD j z58).f1⟩ : S58)).set j (⟨((s.1.set j (⟨s.2, (s.1.getD j z58).f1⟩ : S58)).getD j z58).f0, s.2 + 1⟩ : S58)) (s.2 + 2) _ = _
        rw [hg]) 0 (l, m) (by omega) ⟨by show m = _; omega, rfl, fun i hi => by omega⟩
  subst hr
  exact ev_same ⟨0, fun k _ => by unfold laws_markPutS.f; rfl⟩ he
theorem held_puts (n : Nat) (m : Int) (h0 : 0 ≤ m) (hm : m ≤ 4611686018427387904) (hl : n ≤ 1048576) : Ev (fun k => laws_heldPutS.f k (mkP m n) m) (m + 2 * (n : Int)) := by
  have hlen := mkP_len m n
  obtain ⟨r, hr, he⟩ := state_loop n (fun k (s : Int) i => laws_heldPutS.l0 k (mkP m n) s i) (fun j s => s = m + 2 * (j : Int)) (fun _ _ r => r = m + 2 * (n : Int))
    (fun s hi => ⟨s, hi, ev_now ⟨0, fun k _ => by simp only [laws_heldPutS.l0]; rw [if_neg (by omega)]⟩⟩)
    (fun j s hj hi => by
      have hw : wrap64 (s + 1) = s + 1 := by unfold wrap64; omega
      have hw2 : wrap64 ((wrap64 (s + 1)) + 1) = s + 2 := by rw [hw]; unfold wrap64; omega
      have hg : rd_T58 (mkP m n) (j : Int) = ⟨m + 2 * (j : Int), m + 2 * (j : Int) + 1⟩ := by
        show (mkP m n).getD j z58 = _
        rw [List.getD_eq_getElem?_getD, mkP_at m n j hj]; rfl
      refine .inr ⟨s + 2, by show s + 2 = _; omega, fun r h => h, 0, fun k _ => ?_⟩
      simp only [laws_heldPutS.l0]
      rw [if_pos (by omega), if_pos (by omega), hg, if_pos hi.symm, hw, if_pos (by show m + 2 * (j : Int) + 1 = _; omega), wsucc hj (by omega)]
      have : wrap64 (s + 1 + 1) = s + 2 := by unfold wrap64; omega
      rw [this]) 0 m (by omega) (by omega)
  subst hr
  exact ev_same ⟨0, fun k _ => by unfold laws_heldPutS.f; rfl⟩ he
theorem mark_txn (t : Int) (l : List Int) (p : List S58) (hl : l.length ≤ 1048576) (hp : p.length ≤ 1048576) : ∃ m l' p', Ev (fun k => laws_markTxn.f k t l p 1) (m, l', p') ∧ Ev (fun k => laws_heldTxn.f k t l' p' 1) m ∧ 0 ≤ m := by
  obtain ⟨K1, h1⟩ := ev_at (mark_ints l 1 (by omega) (by omega) hl)
  obtain ⟨K2, h2⟩ := ev_at (mark_puts p (1 + (l.length : Int)) (by omega) (by omega) hp)
  obtain ⟨K3, h3⟩ := ev_at (held_ints l.length 1 (by omega) (by omega) hl)
  obtain ⟨K4, h4⟩ := ev_at (held_puts p.length (1 + (l.length : Int)) (by omega) (by omega) hp)
  refine ⟨1 + (l.length : Int) + 2 * (p.length : Int), mkI 1 l.length, mkP (1 + (l.length : Int)) p.length, ev_mk (K1 + K2) (fun k hk => ?_), ev_mk (K3 + K4) (fun k hk => ?_), by omega⟩
  · unfold laws_markTxn.f; rw [h1 k (by omega)]; simp only [Option.bind_some]; rw [h2 k (by omega)]; rfl
  · unfold laws_heldTxn.f; rw [h3 k (by omega)]; simp only [Option.bind_some]; rw [if_neg (by omega), h4 k (by omega)]; simp only [Option.bind_some]; rw [if_neg (by omega)]
/-- A transaction that came in and was marked. -/
theorem mark_txn_arg (t : Int) (l : List Int) (p : List S58) (m : Int) (h0 : 0 ≤ m) (hm : m ≤ 4398046511104) (hl : l.length ≤ 1048576) (hp : p.length ≤ 1048576) : ∃ m' l' p', Ev (fun k => laws_markTxn.f k t l p m) (m', l', p') ∧ 0 ≤ m' := by
  obtain ⟨K1, h1⟩ := ev_at (mark_ints l m (by omega) (by omega) hl)
  obtain ⟨K2, h2⟩ := ev_at (mark_puts p (m + (l.length : Int)) (by omega) (by omega) hp)
  exact ⟨m + (l.length : Int) + 2 * (p.length : Int), mkI m l.length, mkP (m + (l.length : Int)) p.length, ev_mk (K1 + K2) (fun k hk => by unfold laws_markTxn.f; rw [h1 k (by omega)]; simp only [Option.bind_some]; rw [h2 k (by omega)]; rfl), by omega⟩
end Go.Proofs.Ytfiboooflebdpaa.Pure2
namespace Go.Proofs.Ytfiboooflebdpaa.Pure2
open Go.RowKit Go.Proofs.Ytfiboooflebdpaa.Q Go.Proofs.YtfiboooflebdpaaW.PrintWords Go.Proofs.YtfiboooflebdpaaW.PrintLast
set_option linter.unusedVariables false
set_option linter.unusedSimpArgs false
/-! a transaction written to -/
theorem own_agree (a : Int) (l : List Int) (p : List S58) (hl : l.length ≤ 1048576) (hp : p.length ≤ 1048576) : spec_l07Own.f a l p = some (a, l, p) ∧ impl_copyTxn.f a l p = some (a, l, p) := by
  constructor
  · unfold spec_l07Own.f
    simp only [Option.bind_some, List.nil_append, List.length_nil, Nat.zero_add]
    rw [if_pos (by omega), if_pos (by omega)]
  · unfold impl_copyTxn.f slices_Clone_int_int.f impl_Put_118.f
    rw [if_pos (by omega)]; simp only [Option.bind_some]; rw [if_pos (by omega)]; rfl
theorem one_put (a b : Int) : ∃ r, Ev (fun k => spec_l06Puts.f k [(⟨a, b⟩ : S58)]) r ∧ impl_isPut.f a b = some r ∧ (r = true ↔ IsPut ⟨a, b⟩) := by
  obtain ⟨r, e, hr⟩ := spec_puts [(⟨a, b⟩ : S58)] (by simp)
  have h1 : r = true ↔ IsPut ⟨a, b⟩ := by
    rw [hr]
    constructor
    · rintro ⟨_, h⟩
      exact h 0 (by simp)
    · intro h
      refine ⟨by simp, fun j hj => ?_⟩
      obtain rfl : j = 0 := by simpa using hj
      exact h
  refine ⟨r, e, ?_, h1⟩
  rw [impl_put]
  congr 1
  rw [Bool.eq_iff_iff, h1, Bool.and_eq_true, decide_eq_true_iff]
  exact Iff.rfl
theorem ask_write (cs : List (List S43)) (now st : Int) (l : List Int) (p : List S58) (a b : Int) (hx : ∀ x ∈ cs, x.length ≤ 1048576) (hl : l.length ≤ 1048576) (hp : p.length ≤ 1048576) :
    ∃ r : Int × List Int × (List S58) × Int, Ev (fun k => spec_WriteTxn.f k cs now st l p a b) r ∧ Ev (fun k => impl_WriteTxn.f k cs now st l p a b) r ∧ r.2.1.length ≤ 1048576 ∧ r.2.2.1.length ≤ 1048576 := by
  obtain ⟨c, e1, e2, hb⟩ := txns_agree cs now st l p hx (by omega) (by omega)
  obtain ⟨K1, h1⟩ := ev_at e1
  obtain ⟨K2, h2⟩ := ev_at e2
  cases c with
  | false => exact ⟨(0, [], [], 1), ev_mk K1 fun k hk => by unfold spec_WriteTxn.f; rw [h1 k hk]; rfl, ev_mk K2 fun k hk => by unfold impl_WriteTxn.f; rw [h2 k hk]; rfl, by simp, by simp⟩
  | true =>
    obtain ⟨_, _, ⟨hp4, _⟩, _⟩ := hb.1 rfl
    obtain ⟨q, f1, f2, _⟩ := one_put a b
    obtain ⟨K3, h3⟩ := ev_at f1
    obtain ⟨o1, o2⟩ := own_agree st l p (by omega) (by omega)
    cases q with
    | false => exact ⟨(0, [], [], 4), ev_mk (K1 + K3) fun k hk => by unfold spec_WriteTxn.f; rw [h1 k (by omega)]; simp only [Option.bind_some, if_true]; rw [h3 k (by omega)]; rfl, ev_mk K2 fun k hk => by unfold impl_WriteTxn.f; rw [h2 k hk]; simp only [Option.bind_some, if_true]; rw [f2]; rfl, by simp, by simp⟩
    | true =>
      by_cases hm : (p.length : Int) = 400
      · exact ⟨(st, l, p, 6), ev_mk (K1 + K3) fun k hk => by unfold spec_WriteTxn.f; rw [h1 k (by omega)]; simp only [Option.bind_some, if_true]; rw [h3 k (by omega)]; simp only [Option.bind_some, if_true]; rw [if_pos hm, o1]; rfl, ev_mk K2 fun k hk => by unfold impl_WriteTxn.f; rw [h2 k hk]; simp only [Option.bind_some, if_true]; rw [f2]; simp only [Option.bind_some, if_true]; rw [o2]; simp only [Option.bind_some]; rw [if_pos hm], by show l.length ≤ _; omega, by show p.length ≤ _; omega⟩
      · exact ⟨(st, l, p ++ [⟨a, b⟩], 0), ev_mk (K1 + K3) fun k hk => by unfold spec_WriteTxn.f; rw [h1 k (by omega)]; simp only [Option.bind_some, if_true]; rw [h3 k (by omega)]; simp only [Option.bind_some, if_true]; rw [if_neg hm, o1]; simp only [Option.bind_some]; rw [if_pos (by omega)], ev_mk K2 fun k hk => by unfold impl_WriteTxn.f; rw [h2 k hk]; simp only [Option.bind_some, if_true]; rw [f2]; simp only [Option.bind_some, if_true]; rw [o2]; simp only [Option.bind_some]; rw [if_neg hm, if_pos (by omega)], by show l.length ≤ _; omega, by show (p ++ [_]).length ≤ _; simp; omega⟩
theorem FnExactWriteTxn : laws_FnExactWriteTxn.Pure2 := by
  intro y z x hy hz _
  obtain ⟨r, he, hr⟩ := sz_store y 1048576 (by omega) (by omega) hy
  refine Ev.rounds (r := true) ?_
  obtain ⟨K1, h1⟩ := ev_at he
  rcases hr with hr | ⟨hr0, hr1, hs⟩
  · exact ev_mk K1 fun k hk => by unfold laws_FnExactWriteTxn.f; rw [h1 k hk]; simp only [Option.bind_some]; rw [if_pos hr]
  · obtain ⟨q, e2, hq⟩ := sz_txn z r hr0 (by omega) hz
    rcases hq with hq | ⟨_, _, hl, hp⟩
    · exact ev_mk K1 fun k hk => by unfold laws_FnExactWriteTxn.f; rw [h1 k hk]; simp only [Option.bind_some]; rw [if_neg (by omega), e2]; simp only [Option.bind_some]; rw [if_pos hq]
    · have hpl : (z.f2.map cvP).length ≤ 1048576 := by rw [List.length_map]; exact hp
      have hP : laws_toPut.f x.f0 x.f1 = some (x.f0, x.f1) := rfl
      obtain ⟨K2, h2⟩ := ev_at (to_store y.f0 y.f1 hs)
      obtain ⟨K3, h3⟩ := ev_at (to_txn z.f0 z.f1 z.f2 hl hp)
      obtain ⟨⟨t, l, p, c⟩, g1, g2, hl', hp'⟩ := ask_write (cvS y.f0) y.f1 z.f0 z.f1 (z.f2.map cvP) x.f0 x.f1 (small_cv _ hs).2 hl hpl
      obtain ⟨K4, h4⟩ := ev_at g1
      obtain ⟨K5, h5⟩ := ev_at g2
      obtain ⟨K6, h6⟩ := ev_at (eq_store (cvS y.f0) y.f1 (small_cv _ hs).1 (small_cv _ hs).2)
      obtain ⟨K7, h7⟩ := ev_at (eq_txn z.f0 z.f1 (z.f2.map cvP) hl hpl)
      obtain ⟨K8, h8⟩ := ev_at (eq_txn t l p hl' hp')
      obtain ⟨m, e9, hm0, hm⟩ := mark_store_arg (cvS y.f0) y.f1 (small_cv _ hs).1 (small_cv _ hs).2
      obtain ⟨K9, h9⟩ := ev_at e9
      obtain ⟨m2, l2, p2, e10, hm2⟩ := mark_txn_arg z.f0 z.f1 (z.f2.map cvP) m hm0 hm hl hpl
      obtain ⟨K10, h10⟩ := ev_at e10
      obtain ⟨m3, l3, p3, e11, e12, hm3⟩ := mark_txn t l p hl' hp'
      obtain ⟨K11, h11⟩ := ev_at e11
      obtain ⟨K12, h12⟩ := ev_at e12
      refine ev_mk (K1 + K2 + K3 + K4 + K5 + K6 + K7 + K8 + K9 + K10 + K11 + K12) fun k hk => ?_
      unfold laws_FnExactWriteTxn.f
      rw [h1 _ (by omega)]; simp only [Option.bind_some]; rw [if_neg (by omega), e2]; simp only [Option.bind_some]; rw [if_neg (by omega), h2 _ (by omega)]; simp only [Option.bind_some]
      rw [h3 _ (by omega), hP]; simp only [Option.bind_some]; rw [h4 _ (by omega)]; simp only [Option.bind_some]; rw [h5 _ (by omega)]; simp only [Option.bind_some]
      rw [h8 _ (by omega)]; simp only [Option.bind_some, if_true]; rw [h6 _ (by omega)]; simp only [Option.bind_some, if_true]; rw [h7 _ (by omega)]; simp only [Option.bind_some, if_true]
      rw [h9 _ (by omega)]; simp only [Option.bind_some]; rw [h10 _ (by omega)]; simp only [Option.bind_some]; rw [if_pos (by omega)]
      rw [h11 _ (by omega)]; simp only [Option.bind_some]; rw [h12 _ (by omega)]; simp only [Option.bind_some]; rw [if_pos (by omega)]; simp only [if_true]
      rw [if_pos (by omega)]
end Go.Proofs.Ytfiboooflebdpaa.Pure2
