/- Texts of the claim on FnExactPlainSchema, gathered by a program of this session: what the program's functions compute (proved by walks), and the plain part. -/
import Derived.Test.YtoogmlghfljeiaaKFnExactPlainSchemac
namespace Go.Proofs.Ytoogmlghfljeiaa.Pure2
open Go.RowKit Go.Proofs.Ytoogmlghfljeiaa.Q Go.Proofs.YtoogmlghfljeiaaW.PrintWords Go.Proofs.YtoogmlghfljeiaaW.PrintLast
set_option linter.unusedVariables false
set_option linter.unusedSimpArgs false
/-! schemas -/
theorem getD_mem {α : Type} (l : List α) (z : α) (j : Nat) (h : j < l.length) : l.getD j z ∈ l := by rw [List.getD_eq_getElem?_getD, List.getElem?_eq_getElem h]; exact List.getElem_mem h
theorem wsub (a : Int) (n : Nat) (h0 : 0 ≤ a) (h1 : a ≤ 1048576) (hn : n ≤ 9223372036854775807) : wrap64 (a - (n : Int)) = a - (n : Int) := by unfold wrap64; omega
theorem sz_loop {α : Type} (l : List α) (z : α) (P : α → Prop) (a : Int) (h0 : 0 ≤ a) (L : Nat → Int → Int → Option Int) (hend : ∀ k s, L (k + 1) s (l.length : Int) = some s)
    (hx : ∀ j, j < l.length → ∀ s, 0 ≤ s → s ≤ a → ∃ t, (t < 0 ∨ 0 ≤ t ∧ t ≤ s ∧ P (l.getD j z)) ∧ ∃ K, ∀ k, K ≤ k → L (k + 1) s (j : Int) = if t < 0 then some (-1) else L k t ((j + 1 : Nat) : Int)) :
    ∃ r, Ev (fun k => L k a 0) r ∧ (r < 0 ∨ 0 ≤ r ∧ r ≤ a ∧ ∀ x ∈ l, P x) := by
  obtain ⟨r, hr, he⟩ := state_loop l.length L (fun j s => 0 ≤ s ∧ s ≤ a ∧ ∀ i, i < j → P (l.getD i z)) (fun _ _ r => r < 0 ∨ 0 ≤ r ∧ r ≤ a ∧ ∀ i, i < l.length → P (l.getD i z))
    (fun s hi => ⟨s, .inr hi, ev_now ⟨0, fun k _ => hend k s⟩⟩)
    (fun j s hj hi => by
      obtain ⟨t, ht, K, hk⟩ := hx j hj s hi.1 hi.2.1
      rcases ht with ht | ⟨t0, t1, t2⟩
      · exact .inl ⟨-1, .inl qa22, ev_now ⟨K, fun k h => by rw [hk k h, if_pos ht]⟩⟩
      · refine .inr ⟨t, ⟨t0, qa22, fun i hij => ?_⟩, fun r h => h, K, fun k h => by rw [hk k h, if_neg qa22]⟩
        rcases Nat.lt_or_eq_of_le (Nat.le_of_lt_succ hij) with h' | rfl
        · exact hi.2.2 i h'
        · exact t2) 0 a qa22 ⟨h0, qa22, fun i hi => by omega⟩
  refine ⟨r, he, ?_⟩
  rcases hr with hr | ⟨h2, h3, h4⟩
  · exact .inl hr
  · refine .inr ⟨h2, h3, fun x hx' => ?_⟩
    obtain ⟨i, hi, rfl⟩ := List.getElem_of_mem hx'
    have := h4 i hi
    rw [List.getD_eq_getElem?_getD, List.getElem?_eq_getElem hi] at this
    exact this
def SmA (x : S106) : Prop := x.f0.size ≤ 1048576
def SmF (x : S101) : Prop := x.f0.size ≤ 1048576 ∧ x.f2.size ≤ 1048576 ∧ x.f1.length ≤ 1048576 ∧ ∀ y ∈ x.f1, SmA y
def SmT (x : S77) : Prop := x.f0.size ≤ 1048576 ∧ x.f1.length ≤ 1048576 ∧ ∀ y ∈ x.f1, SmF y
def SmS (l : List S77) : Prop := l.length ≤ 1048576 ∧ ∀ y ∈ l, SmT y
theorem sz_args (l : List S106) (a : Int) (h0 : 0 ≤ a) (h1 : a ≤ 1048576) (hl : l.length ≤ 9223372036854775807) (hx : ∀ x ∈ l, i106 x) :
    ∃ r, Ev (fun k => laws_szArgDefS.f k l a) r ∧ (r < 0 ∨ 0 ≤ r ∧ r ≤ a ∧ l.length ≤ 1048576 ∧ ∀ x ∈ l, SmA x) := by
  have hw := wsub a l.length h0 h1 hl
  by_cases h : a - (l.length : Int) < 0
  · exact ⟨-1, ev_mk 0 (fun k _ => by unfold laws_szArgDefS.f; rw [hw, if_pos h]), .inl qa22⟩
  · obtain ⟨r, he, hr⟩ := sz_loop l z106 SmA (a - l.length) qa22 (fun k s i => laws_szArgDefS.l0 k l s i) (fun k s => by simp only [laws_szArgDefS.l0]; rw [if_neg qa22]) (fun j hj s s0 s1 => by
      have hi := hx _ (getD_mem l z106 j hj)
      have hw' := wsub s (l.getD j z106).f0.size s0 qa22 hi.1
      have hrd : rd_T106 l (j : Int) = l.getD j z106 := rfl
      by_cases h2 : s - ((l.getD j z106).f0.size : Int) < 0
      · exact ⟨-1, .inl qa22, 0, fun k _ => by simp only [laws_szArgDefS.l0, laws_szArgDef.f]; rw [if_pos qa22, if_pos qa22, hrd, hw', if_pos h2, Option.bind_some, if_pos qa22, if_pos qa22]⟩
      · refine ⟨s - ((l.getD j z106).f0.size : Int), .inr ⟨qa22, qa22, ?_⟩, 0, fun k _ => by simp only [laws_szArgDefS.l0, laws_szArgDef.f]; rw [if_pos qa22, if_pos qa22, hrd, hw', if_neg h2, Option.bind_some, if_neg qa22, if_neg qa22, wsucc hj qa22]⟩
        show (l.getD j z106).f0.size ≤ 1048576
        omega)
    refine ⟨r, ev_same ⟨0, fun k _ => by unfold laws_szArgDefS.f; rw [hw, if_neg h]⟩ he, ?_⟩
    rcases hr with hr | ⟨h2, h3, h4⟩
    · exact .inl hr
    · exact .inr ⟨h2, qa22, qa22, h4⟩
theorem sz_field (x : S101) (a : Int) (h0 : 0 ≤ a) (h1 : a ≤ 1048576) (hi : i101 x) :
    ∃ r, Ev (fun k => laws_szFieldDef.f k x.f0 x.f1 x.f2 x.f3 x.f4 a) r ∧ (r < 0 ∨ 0 ≤ r ∧ r ≤ a ∧ SmF x) := by
  have hw := wsub a x.f0.size h0 h1 hi.1
  by_cases h : a - (x.f0.size : Int) < 0
  · exact ⟨-1, ev_mk 0 (fun k _ => by unfold laws_szFieldDef.f; rw [hw, if_pos h]), .inl qa22⟩
  · obtain ⟨r, he, hr⟩ := sz_args x.f1 (a - (x.f0.size : Int)) qa22 qa22 hi.2.1.1 hi.2.1.2
    obtain ⟨K, hk⟩ := ev_at he
    rcases hr with hr | ⟨h2, h3, h4⟩
    · exact ⟨-1, ev_mk K (fun k hq => by unfold laws_szFieldDef.f; rw [hw, if_neg h, hk k hq, Option.bind_some, if_pos hr]), .inl qa22⟩
    · have hw' := wsub r x.f2.size h2 qa22 hi.2.2.1
      by_cases h5 : r - (x.f2.size : Int) < 0
      · exact ⟨-1, ev_mk K (fun k hq => by unfold laws_szFieldDef.f; rw [hw, if_neg h, hk k hq, Option.bind_some, if_neg qa22, hw', if_pos h5]), .inl qa22⟩
      · exact ⟨r - (x.f2.size : Int), ev_mk K (fun k hq => by unfold laws_szFieldDef.f; rw [hw, if_neg h, hk k hq, Option.bind_some, if_neg qa22, hw', if_neg h5]), .inr ⟨qa22, qa22, qa22, qa22, h4⟩⟩
theorem sz_fields (l : List S101) (a : Int) (h0 : 0 ≤ a) (h1 : a ≤ 1048576) (hl : l.length ≤ 9223372036854775807) (hx : ∀ x ∈ l, i101 x) :
    ∃ r, Ev (fun k => laws_szFieldDefS.f k l a) r ∧ (r < 0 ∨ 0 ≤ r ∧ r ≤ a ∧ l.length ≤ 1048576 ∧ ∀ x ∈ l, SmF x) := by
  have hw := wsub a l.length h0 h1 hl
  by_cases h : a - (l.length : Int) < 0
  · exact ⟨-1, ev_mk 0 (fun k _ => by unfold laws_szFieldDefS.f; rw [hw, if_pos h]), .inl qa22⟩
  · obtain ⟨r, he, hr⟩ := sz_loop l z101 SmF (a - l.length) qa22 (fun k s i => laws_szFieldDefS.l0 k l s i) (fun k s => by simp only [laws_szFieldDefS.l0]; rw [if_neg qa22]) (fun j hj s s0 s1 => by
      obtain ⟨t, te, ht⟩ := sz_field (l.getD j z101) s s0 qa22 (hx _ (getD_mem l z101 j hj))
      obtain ⟨K, hk⟩ := ev_at te
      have hrd : rd_T101 l (j : Int) = l.getD j z101 := rfl
      exact ⟨t, ht, K, fun k hq => by simp only [laws_szFieldDefS.l0]; rw [if_pos qa22, if_pos qa22, hrd, hk k hq, Option.bind_some, wsucc hj qa22]⟩)
    refine ⟨r, ev_same ⟨0, fun k _ => by unfold laws_szFieldDefS.f; rw [hw, if_neg h]⟩ he, ?_⟩
    rcases hr with hr | ⟨h2, h3, h4⟩
    · exact .inl hr
    · exact .inr ⟨h2, qa22, qa22, h4⟩
theorem sz_type (x : S77) (a : Int) (h0 : 0 ≤ a) (h1 : a ≤ 1048576) (hi : i77 x) :
    ∃ r, Ev (fun k => laws_szTypeDef.f k x.f0 x.f1 a) r ∧ (r < 0 ∨ 0 ≤ r ∧ r ≤ a ∧ SmT x) := by
  have hw := wsub a x.f0.size h0 h1 hi.1
  by_cases h : a - (x.f0.size : Int) < 0
  · exact ⟨-1, ev_mk 0 (fun k _ => by unfold laws_szTypeDef.f; rw [hw, if_pos h]), .inl qa22⟩
  · obtain ⟨r, he, hr⟩ := sz_fields x.f1 (a - (x.f0.size : Int)) qa22 qa22 hi.2.1 hi.2.2
    obtain ⟨K, hk⟩ := ev_at he
    rcases hr with hr | ⟨h2, h3, h4⟩
    · exact ⟨-1, ev_mk K (fun k hq => by unfold laws_szTypeDef.f; rw [hw, if_neg h, hk k hq, Option.bind_some, if_pos hr]), .inl qa22⟩
    · exact ⟨r, ev_mk K (fun k hq => by unfold laws_szTypeDef.f; rw [hw, if_neg h, hk k hq, Option.bind_some, if_neg qa22]), .inr ⟨h2, qa22, qa22, h4⟩⟩
theorem sz_schema (l : List S77) (a : Int) (h0 : 0 ≤ a) (h1 : a ≤ 1048576) (hl : l.length ≤ 9223372036854775807) (hx : ∀ x ∈ l, i77 x) :
    ∃ r, Ev (fun k => laws_szSchema.f k l a) r ∧ (r < 0 ∨ 0 ≤ r ∧ r ≤ a ∧ SmS l) := by
  have hw := wsub a l.length h0 h1 hl
  by_cases h : a - (l.length : Int) < 0
  · exact ⟨-1, ev_mk 0 (fun k _ => by unfold laws_szSchema.f laws_szTypeDefS.f; rw [hw, if_pos h]; rfl), .inl qa22⟩
  · obtain ⟨r, he, hr⟩ := sz_loop l z77 SmT (a - l.length) qa22 (fun k s i => laws_szTypeDefS.l0 k l s i) (fun k s => by simp only [laws_szTypeDefS.l0]; rw [if_neg qa22]) (fun j hj s s0 s1 => by
      obtain ⟨t, te, ht⟩ := sz_type (l.getD j z77) s s0 qa22 (hx _ (getD_mem l z77 j hj))
      obtain ⟨K, hk⟩ := ev_at te
      have hrd : rd_T77 l (j : Int) = l.getD j z77 := rfl
      exact ⟨t, ht, K, fun k hq => by simp only [laws_szTypeDefS.l0]; rw [if_pos qa22, if_pos qa22, hrd, hk k hq, Option.bind_some, wsucc hj qa22]⟩)
    obtain ⟨K, hk⟩ := ev_at he
    rcases hr with hr | ⟨h2, h3, h4⟩
    · exact ⟨-1, ev_mk K (fun k hq => by unfold laws_szSchema.f laws_szTypeDefS.f; rw [hw, if_neg h, hk k hq, Option.bind_some, if_pos hr]), .inl qa22⟩
    · exact ⟨r, ev_mk K (fun k hq => by unfold laws_szSchema.f laws_szTypeDefS.f; rw [hw, if_neg h, hk k hq, Option.bind_some, if_neg qa22]), .inr ⟨h2, qa22, qa22, h4⟩⟩
def cvA (x : S106) : S57 := ⟨x.f0, x.f1⟩
def cvF (x : S101) : S38 := ⟨x.f0, x.f1.map cvA, x.f2, x.f3, x.f4⟩
def cvT (x : S77) : S53 := ⟨x.f0, x.f1.map cvF⟩
theorem to_args (l : List S106) (hl : l.length ≤ 1048576) : Ev (fun k => laws_toArgDefS.f k l) (l.map cvA) := by
  have h := fill_loop l z106 cvA (fun k y i => laws_toArgDefS.l0 k l y i) (fun y hy => ⟨0, fun k _ => by simp only [laws_toArgDefS.l0]; rw [if_neg qa22]⟩)
    (fun j y hj hy => ⟨0, fun k _ => by
      simp only [laws_toArgDefS.l0, laws_toArgDef.f]; rw [if_pos qa22, if_pos qa22, Option.bind_some, if_pos qa22, wsucc hj qa22]; rfl⟩) (List.replicate l.length z57) qa61
  refine ev_same ⟨0, fun k _ => ?_⟩ h
  unfold laws_toArgDefS.f
  rw [if_pos qa22, if_pos (by simp; omega), Int.toNat_natCast]
theorem to_fields (l : List S101) (hl : l.length ≤ 1048576) (hx : ∀ x ∈ l, SmF x) : Ev (fun k => laws_toFieldDefS.f k l) (l.map cvF) := by
  have h := fill_loop l z101 cvF (fun k y i => laws_toFieldDefS.l0 k l y i) (fun y hy => ⟨0, fun k _ => by simp only [laws_toFieldDefS.l0]; rw [if_neg qa22]⟩)
    (fun j y hj hy => by
      obtain ⟨K, hk⟩ := ev_at (to_args (l.getD j z101).f1 (hx _ (getD_mem l z101 j hj)).2.2.1)
      have hrd : rd_T101 l (j : Int) = l.getD j z101 := rfl
      exact ⟨K, fun k hq => by
        simp only [laws_toFieldDefS.l0, laws_toFieldDef.f]; rw [if_pos qa22, if_pos qa22, hrd, hk k hq, Option.bind_some, Option.bind_some, if_pos qa22, wsucc hj qa22]; rfl⟩) (List.replicate l.length z38) qa61
  refine ev_same ⟨0, fun k _ => ?_⟩ h
  unfold laws_toFieldDefS.f
  rw [if_pos qa22, if_pos (by simp; omega), Int.toNat_natCast]
theorem to_schema (l : List S77) (hl : SmS l) : Ev (fun k => laws_toSchema.f k l) (l.map cvT) := by
  obtain ⟨hl, hx⟩ := hl
  have h := fill_loop l z77 cvT (fun k y i => laws_toTypeDefS.l0 k l y i) (fun y hy => ⟨0, fun k _ => by simp only [laws_toTypeDefS.l0]; rw [if_neg qa22]⟩)
    (fun j y hj hy => by
      have hm := hx _ (getD_mem l z77 j hj)
      obtain ⟨K, hk⟩ := ev_at (to_fields (l.getD j z77).f1 hm.2.1 hm.2.2)
      have hrd : rd_T77 l (j : Int) = l.getD j z77 := rfl
      exact ⟨K, fun k hq => by
        simp only [laws_toTypeDefS.l0, laws_toTypeDef.f]; rw [if_pos qa22, if_pos qa22, hrd, hk k hq, Option.bind_some, Option.bind_some, if_pos qa22, wsucc hj qa22]; rfl⟩) (List.replicate l.length z53) qa61
  obtain ⟨K, hk⟩ := ev_at h
  refine ev_mk K fun k hq => ?_
  unfold laws_toSchema.f laws_toTypeDefS.f
  rw [if_pos qa22, if_pos (by simp; omega), Int.toNat_natCast, hk k hq]
  rfl
theorem eq_loop {α : Type} (n : Nat) (L : Nat → Int → Option Bool) (hend : ∀ k, L (k + 1) (n : Int) = some true) (hs : ∀ j, j < n → ∃ K, ∀ k, K ≤ k → L (k + 1) (j : Int) = L k ((j + 1 : Nat) : Int)) : Ev (fun k => L k 0) true := by
  obtain ⟨r, hr, he⟩ := count_loop n L (fun _ r => r = true) ⟨true, rfl, ev_now ⟨0, fun k _ => hend k⟩⟩ (fun j hj r hr he => ⟨r, hr, ev_step (hs j hj) he⟩) 0 qa22
  subst hr
  exact he
theorem eq_args (l : List S57) (hl : l.length ≤ 1048576) : Ev (fun k => laws_eqArgDefS.f k l l) true := by
  refine ev_same ⟨0, fun k _ => by unfold laws_eqArgDefS.f; rw [if_pos rfl]⟩ (eq_loop (α := Unit) l.length (fun k i => laws_eqArgDefS.l0 k l l i) (fun k => by simp only [laws_eqArgDefS.l0]; rw [if_neg qa22]) fun j hj => ⟨0, fun k _ => ?_⟩)
  simp only [laws_eqArgDefS.l0, laws_eqArgDef.f, bne_self_eq_false]; rw [if_pos qa22, if_pos qa22, if_pos qa22, if_pos trivial, if_neg qa61, Option.bind_some, if_pos rfl, wsucc hj qa22]
theorem eq_fields (l : List S38) (hl : l.length ≤ 1048576) (hx : ∀ x ∈ l, x.f1.length ≤ 1048576) : Ev (fun k => laws_eqFieldDefS.f k l l) true := by
  refine ev_same ⟨0, fun k _ => by unfold laws_eqFieldDefS.f; rw [if_pos rfl]⟩ (eq_loop (α := Unit) l.length (fun k i => laws_eqFieldDefS.l0 k l l i) (fun k => by simp only [laws_eqFieldDefS.l0]; rw [if_neg qa22]) fun j hj => ?_)
  obtain ⟨K, hk⟩ := ev_at (eq_args (l.getD j z38).f1 (hx _ (getD_mem l z38 j hj)))
  have hrd : rd_T38 l (j : Int) = l.getD j z38 := rfl
  refine ⟨K, fun k hq => ?_⟩
  simp only [laws_eqFieldDefS.l0, laws_eqFieldDef.f, bne_self_eq_false]; rw [if_pos qa22, if_pos qa22, if_pos qa22, if_pos trivial, hrd, hk k hq, Option.bind_some, if_pos rfl, if_pos trivial, if_neg qa61, if_neg qa61, Option.bind_some, if_pos rfl, wsucc hj qa22]
theorem eq_schema (l : List S53) (hl : l.length ≤ 1048576) (hx : ∀ x ∈ l, x.f1.length ≤ 1048576 ∧ ∀ y ∈ x.f1, y.f1.length ≤ 1048576) : Ev (fun k => laws_eqSchema.f k l l) true := by
  have h : Ev (fun k => laws_eqTypeDefS.f k l l) true := by
    refine ev_same ⟨0, fun k _ => by unfold laws_eqTypeDefS.f; rw [if_pos rfl]⟩ (eq_loop (α := Unit) l.length (fun k i => laws_eqTypeDefS.l0 k l l i) (fun k => by simp only [laws_eqTypeDefS.l0]; rw [if_neg qa22]) fun j hj => ?_)
    obtain ⟨K, hk⟩ := ev_at (eq_fields (l.getD j z53).f1 (hx _ (getD_mem l z53 j hj)).1 (hx _ (getD_mem l z53 j hj)).2)
    have hrd : rd_T53 l (j : Int) = l.getD j z53 := rfl
    refine ⟨K, fun k hq => ?_⟩
    simp only [laws_eqTypeDefS.l0, laws_eqTypeDef.f]; rw [if_pos qa22, if_pos qa22, if_pos qa22, if_pos trivial, hrd, hk k hq, Option.bind_some, if_pos rfl, Option.bind_some, if_pos rfl, wsucc hj qa22]
  obtain ⟨K, hk⟩ := ev_at h
  exact ev_mk K fun k hq => by unfold laws_eqSchema.f; rw [hk k hq]; rfl
end Go.Proofs.Ytoogmlghfljeiaa.Pure2
namespace Go.Proofs.Ytoogmlghfljeiaa.Pure2
open Go.RowKit Go.Proofs.Ytoogmlghfljeiaa.Q Go.Proofs.YtoogmlghfljeiaaW.PrintWords Go.Proofs.YtoogmlghfljeiaaW.PrintLast
set_option linter.unusedVariables false
set_option linter.unusedSimpArgs false
/-! loops over lists, counted by what they hold -/
theorem psum_succ {α : Type} (f : α → Nat) (l : List α) (z : α) (j : Nat) (h : j < l.length) : ((l.take (j + 1)).map f).sum = ((l.take j).map f).sum + f (l.getD j z) := by
  rw [List.take_succ_eq_append_getElem h, List.map_append, List.sum_append]
  simp [List.getD_eq_getElem?_getD, List.getElem?_eq_getElem h]
theorem psum_le {α : Type} (f : α → Nat) (l : List α) (j : Nat) : ((l.take j).map f).sum ≤ (l.map f).sum := by
  have h : (l.map f).sum = ((l.take j).map f).sum + ((l.drop j).map f).sum := by rw [← List.sum_append, ← List.map_append, List.take_append_drop]
  omega
theorem psum_len {α : Type} (f : α → Nat) (l : List α) : ((l.take l.length).map f).sum = (l.map f).sum := by rw [List.take_length]
theorem sum_one {α : Type} (c : α → Nat) : ∀ l : List α, (l.map (fun x => 1 + c x)).sum = l.length + (l.map c).sum
  | [] => rfl
  | a :: l => by simp only [List.map_cons, List.sum_cons, List.length_cons, sum_one c l]; omega
theorem sum_ones {α : Type} : ∀ l : List α, (l.map (fun _ : α => 1)).sum = l.length
  | [] => rfl
  | a :: l => by simp only [List.map_cons, List.sum_cons, List.length_cons, sum_ones l]; omega
theorem mem_sum {α : Type} (c : α → Nat) : ∀ (l : List α) (x : α), x ∈ l → c x ≤ (l.map c).sum
  | a :: l, x, h => by
    rcases List.mem_cons.1 h with h | h
    · subst h; simp only [List.map_cons, List.sum_cons]; omega
    · have := mem_sum c l x h; simp only [List.map_cons, List.sum_cons]; omega
theorem ev_shift {α : Type} {g f : Nat → Option α} {r : α} (m : Nat) (h : ∃ K, ∀ k, K ≤ k → g (k + m) = f k) (k : Ev f r) : Ev g r := by
  obtain ⟨K, h⟩ := h
  obtain ⟨K', k⟩ := k
  refine ⟨max K K' + m, fun n hn => ?_⟩
  obtain ⟨q, rfl⟩ : ∃ q, n = q + m := ⟨n - m, qa22⟩
  rw [h q qa22, k q qa22]
theorem state_loop2 {σ ρ : Type} (n : Nat) (L : Nat → σ → Int → Option ρ) (Inv : Nat → σ → Prop) (Post : ρ → Prop) (hend : ∀ s, Inv n s → ∃ r, Post r ∧ Ev (fun k => L k s (n : Int)) r)
    (hstep : ∀ j s, j < n → Inv j s → (∃ r, Post r ∧ Ev (fun k => L k s (j : Int)) r) ∨ ∃ s', Inv (j + 1) s' ∧ ∀ r, Ev (fun k => L k s' ((j + 1 : Nat) : Int)) r → Ev (fun k => L k s (j : Int)) r) :
    ∀ j s, j ≤ n → Inv j s → ∃ r, Post r ∧ Ev (fun k => L k s (j : Int)) r := by
  have key : ∀ d j s, j ≤ n → n - j = d → Inv j s → ∃ r, Post r ∧ Ev (fun k => L k s (j : Int)) r := by
    intro d
    induction d with
    | zero => intro j s hj hd hi; obtain rfl : j = n := by omega
              exact hend s hi
    | succ d ih =>
      intro j s hj hd hi
      rcases hstep j s qa22 hi with h | ⟨s', hi', hk⟩
      · exact h
      · obtain ⟨r, hr, he⟩ := ih (j + 1) s' qa22 qa22 hi'
        exact ⟨r, hr, hk r he⟩
  intro j s hj hi
  exact key _ j s hj rfl hi
/-- The measure of a list. -/
theorem szs {α : Type} (z : α) (c : α → Nat) (F : Nat → Option Int) (L : Nat → Int → Int → Option Int) (l : List α) (a : Int) (h0 : 0 ≤ a) (h1 : a ≤ 1048576)
    (hneg : a - (l.length : Int) < 0 → Ev F (-1)) (hpos : ¬ a - (l.length : Int) < 0 → ∀ r, Ev (fun k => L k (a - (l.length : Int)) 0) r → Ev F r)
    (hL0 : ∀ k s, L (k + 1) s (l.length : Int) = some s)
    (hL1 : ∀ j, j < l.length → l.length ≤ 1048576 → ∀ s : Int, 0 ≤ s → s ≤ 1048576 → ∃ t : Int, (t < 0 ∨ 0 ≤ t ∧ t + (c (l.getD j z) : Nat) ≤ s) ∧ ∃ K, ∀ k, K ≤ k → L (k + 1) s (j : Int) = if t < 0 then some (-1) else L k t ((j + 1 : Nat) : Int)) :
    ∃ r : Int, Ev F r ∧ (r < 0 ∨ 0 ≤ r ∧ r + ((l.map (fun x => 1 + c x)).sum : Nat) ≤ a) := by
  rw [sum_one]
  by_cases h : a - (l.length : Int) < 0
  · exact ⟨-1, hneg h, .inl qa22⟩
  · obtain ⟨r, hr, he⟩ := state_loop2 l.length L (fun j s => 0 ≤ s ∧ s + (((l.take j).map c).sum : Nat) ≤ a - (l.length : Int)) (fun r => r < 0 ∨ 0 ≤ r ∧ r + ((l.map c).sum : Nat) ≤ a - (l.length : Int))
      (fun s hi => ⟨s, .inr ⟨hi.1, by have := hi.2; rw [psum_len] at this; exact this⟩, ev_now ⟨0, fun k _ => hL0 k s⟩⟩)
      (fun j s hj hi => by
        obtain ⟨t, ht, K, hK⟩ := hL1 j hj qa22 s hi.1 (by have := hi.2; omega)
        have ps := psum_succ c l z j hj
        rcases ht with ht | ⟨t0, t1⟩
        · exact .inl ⟨-1, .inl qa22, ev_now ⟨K, fun k hk => by rw [hK k hk, if_pos ht]⟩⟩
        · exact .inr ⟨t, ⟨t0, by have := hi.2; omega⟩, fun r hr => ev_shift 1 ⟨K, fun k hk => by rw [hK k hk, if_neg qa22]⟩ hr⟩) 0 (a - l.length) qa22 ⟨qa22, qa61⟩
    refine ⟨r, hpos h r he, ?_⟩
    rcases hr with hr | hr
    · exact .inl hr
    · exact .inr ⟨hr.1, qa22⟩
/-- Marks of a list: only how far they count. -/
theorem mks {α : Type} (z : α) (c : α → Nat) (L : Nat → Int → Int → Option Int) (l : List α) (m0 : Int) (h1 : 1 ≤ m0) (hB : m0 + 6 * ((l.map c).sum : Nat) ≤ 1099511627776)
    (hL0 : ∀ k m, L (k + 1) m (l.length : Int) = some m)
    (hL1 : ∀ j, j < l.length → ∀ m : Int, 1 ≤ m → m + 6 * (c (l.getD j z) : Nat) ≤ 1099511627776 → ∃ m' : Int, m ≤ m' ∧ m' ≤ m + 6 * (c (l.getD j z) : Nat) ∧ ∃ K, ∀ k, K ≤ k → L (k + 1) m (j : Int) = L k m' ((j + 1 : Nat) : Int)) :
    ∃ r : Int, Ev (fun k => L k m0 0) r ∧ m0 ≤ r ∧ r ≤ m0 + 6 * ((l.map c).sum : Nat) := by
  obtain ⟨r, ⟨hr1, hr2⟩, he⟩ := state_loop2 l.length L (fun j m => m0 ≤ m ∧ m ≤ m0 + 6 * (((l.take j).map c).sum : Nat)) (fun r => m0 ≤ r ∧ r ≤ m0 + 6 * ((l.map c).sum : Nat))
    (fun m hi => ⟨m, by have := hi.2; rw [psum_len] at this; exact ⟨hi.1, this⟩, ev_now ⟨0, fun k _ => hL0 k m⟩⟩)
    (fun j m hj hi => by
      have ps := psum_succ c l z j hj
      have hle := psum_le c l (j + 1)
      obtain ⟨m', a1, a2, K, hK⟩ := hL1 j hj m qa22 qa22
      exact .inr ⟨m', ⟨qa22, qa22⟩, fun r hr => ev_shift 1 ⟨K, hK⟩ hr⟩) 0 m0 qa22 ⟨qa22, qa61⟩
  exact ⟨r, he, hr1, hr2⟩
theorem mark_text_from : ∀ (d : Nat) (a : Nat) (s : ByteArray), a < d → d ≤ 4611686018427387904 → s.size + d ≤ 4611686018427387904 → ∃ t, Ev (fun k => laws_markText.l0 k (a : Int) s) t := by
  intro d
  induction d with
  | zero => intro a s h; omega
  | succ d ih =>
    intro a s h h1 h2
    by_cases hz : a = 0
    · subst hz
      exact ⟨_, ev_now ⟨0, fun k _ => by simp only [laws_markText.l0]; rw [if_neg qa22, if_pos qa22]⟩⟩
    · have e2 : wrap64 (Int.tdiv (a : Int) 10) = ((a / 10 : Nat) : Int) := by rw [Int.tdiv_eq_ediv_of_nonneg qa22]; unfold wrap64; omega
      have hs : ∀ x : Int, (strOfNums [x]).size = 1 := fun x => rfl
      obtain ⟨t, ht⟩ := ih (a / 10) ((strOfNums ([(wrap64 (48 + (Int.tmod (a : Int) 10))) % 256] : List Int)) ++ s) qa22 qa22 (by rw [ByteArray.size_append, hs]; omega)
      refine ⟨t, ev_step ⟨0, fun k _ => ?_⟩ ht⟩
      simp only [laws_markText.l0, Option.bind_some]
      rw [if_pos qa22, if_pos (by rw [hs]; omega), e2]
theorem mark_text (a : Int) (h1 : a ≤ 4611686018427387903) : ∃ t, Ev (fun k => laws_markText.f k a) t := by
  by_cases h : a ≤ 0
  · exact ⟨_, ev_mk 0 fun k _ => by unfold laws_markText.f; rw [if_pos h]⟩
  · obtain ⟨t, ht⟩ := mark_text_from (a.toNat + 1) a.toNat (⟨#[]⟩ : ByteArray) qa22 qa22 (by show 0 + _ ≤ _; omega)
    refine ⟨t, ev_same ⟨0, fun k _ => ?_⟩ ht⟩
    unfold laws_markText.f
    rw [if_neg h, show ((a.toNat : Nat) : Int) = a by omega]
theorem w1 (m : Int) (h : 0 ≤ m) (h1 : m ≤ 4611686018427387903) : wrap64 (m + 1) = m + 1 := by unfold wrap64; omega
end Go.Proofs.Ytoogmlghfljeiaa.Pure2
namespace Go.Proofs.Ytoogmlghfljeiaa.Pure2
open Go.RowKit Go.Proofs.Ytoogmlghfljeiaa.Q Go.Proofs.YtoogmlghfljeiaaW.PrintWords Go.Proofs.YtoogmlghfljeiaaW.PrintLast
set_option linter.unusedVariables false
set_option linter.unusedSimpArgs false
/-! marks of rows of rows of rows, from any number on -/
def gA (mt : Int → ByteArray) : List S57 → Int → Int × List S57
  | [], m => (m, [])
  | _ :: r, m => ((gA mt r (m + 2)).1, ⟨mt m, (Int.tmod (m + 1) 3) == 0⟩ :: (gA mt r (m + 2)).2)
def gF (mt : Int → ByteArray) : List S38 → Int → Int × List S38
  | [], m => (m, [])
  | f :: r, m => ((gF mt r ((gA mt f.f1 (m + 1)).1 + 3)).1, ⟨mt m, (gA mt f.f1 (m + 1)).2, mt (gA mt f.f1 (m + 1)).1, (Int.tmod ((gA mt f.f1 (m + 1)).1 + 1) 3) == 0, (Int.tmod ((gA mt f.f1 (m + 1)).1 + 2) 3) == 0⟩ :: (gF mt r ((gA mt f.f1 (m + 1)).1 + 3)).2)
def gT (mt : Int → ByteArray) : List S53 → Int → Int × List S53
  | [], m => (m, [])
  | t :: r, m => ((gT mt r (gF mt t.f1 (m + 1)).1).1, ⟨mt m, (gF mt t.f1 (m + 1)).2⟩ :: (gT mt r (gF mt t.f1 (m + 1)).1).2)
def gcF (l : List S38) : Nat := (l.map (fun f => 4 + 2 * f.f1.length)).sum
def gcT (l : List S53) : Nat := (l.map (fun t => 1 + gcF t.f1)).sum
variable {mt : Int → ByteArray}
theorem gA_fst : ∀ (l : List S57) (m : Int), (gA mt l m).1 = m + 2 * (l.length : Int)
  | [], m => by simp [gA]
  | _ :: r, m => by rw [gA]; show (gA mt r (m + 2)).1 = _; rw [gA_fst r, List.length_cons]; omega
theorem gA_len : ∀ (l : List S57) (m : Int), (gA mt l m).2.length = l.length
  | [], m => rfl
  | _ :: r, m => by rw [gA]; show (_ :: (gA mt r (m + 2)).2).length = _; rw [List.length_cons, gA_len r, List.length_cons]
theorem gF_fst : ∀ (l : List S38) (m : Int), (gF mt l m).1 = m + (gcF l : Int)
  | [], m => by simp [gF, gcF]
  | f :: r, m => by
    rw [gF]
    show (gF mt r _).1 = _
    rw [gF_fst r, gA_fst]
    simp only [gcF, List.map_cons, List.sum_cons]
    omega
theorem gF_len : ∀ (l : List S38) (m : Int), (gF mt l m).2.length = l.length
  | [], m => rfl
  | f :: r, m => by rw [gF]; show (_ :: (gF mt r _).2).length = _; rw [List.length_cons, gF_len r, List.length_cons]
theorem gT_fst : ∀ (l : List S53) (m : Int), (gT mt l m).1 = m + (gcT l : Int)
  | [], m => by simp [gT, gcT]
  | f :: r, m => by
    rw [gT]
    show (gT mt r _).1 = _
    rw [gT_fst r, gF_fst]
    simp only [gcT, List.map_cons, List.sum_cons]
    omega
theorem gT_len : ∀ (l : List S53) (m : Int), (gT mt l m).2.length = l.length
  | [], m => rfl
  | f :: r, m => by rw [gT]; show (_ :: (gT mt r _).2).length = _; rw [List.length_cons, gT_len r, List.length_cons]
theorem at_mid {α : Type} (done r : List α) (a z : α) : (done ++ a :: r).getD done.length z = a := by simp
theorem set_mid {α : Type} (done r : List α) (a b : α) : (done ++ a :: r).set done.length b = done ++ b :: r := by simp
theorem mid_cons {α : Type} (done r : List α) (a : α) : done ++ a :: r = (done ++ [a]) ++ r := by simp
theorem mid_len {α : Type} (done : List α) (a : α) : ((done.length : Int) + 1) = (((done ++ [a]).length : Nat) : Int) := by simp
def MTOK (mt : Int → ByteArray) : Prop := ∀ m : Int, m ≤ 4611686018427387903 → Ev (fun k => laws_markText.f k m) (mt m)
theorem mtok_some : ∃ mt : Int → ByteArray, MTOK mt := by
  have h : ∀ m : Int, ∃ t, m ≤ 4611686018427387903 → Ev (fun k => laws_markText.f k m) t := fun m => by
    by_cases hm : m ≤ 4611686018427387903
    · obtain ⟨t, ht⟩ := mark_text m hm
      exact ⟨t, fun _ => ht⟩
    · exact ⟨⟨#[]⟩, fun h => absurd h hm⟩
  exact ⟨fun m => (h m).choose, fun m hm => (h m).choose_spec hm⟩
theorem mark_args_at (hmt : MTOK mt) : ∀ (rest done : List S57) (m : Int), 0 ≤ m → m + 2 * (rest.length : Int) ≤ 4611686018427387903 → done.length + rest.length ≤ 4611686018427387903 → Ev (fun k => laws_markArgDefS.l0 k (done ++ rest) m (done.length : Int)) ((gA mt rest m).1, done ++ (gA mt rest m).2)
  | [], done, m, h0, h1, h2 => ev_now ⟨0, fun k _ => by
    simp only [laws_markArgDefS.l0, List.append_nil]
    rw [if_neg (by omega)]
    simp [gA]⟩
  | a :: r, done, m, h0, h1, h2 => by
    rw [List.length_cons] at h1 h2
    have ih := mark_args_at hmt r (done ++ [⟨mt m, (Int.tmod (m + 1) 3) == 0⟩]) (m + 2) (by omega) (by omega) (by simp only [List.length_append, List.length_singleton]; omega)
    obtain ⟨K, hK⟩ := ev_at (hmt m (by omega))
    have ih2 : Ev (fun k => laws_markArgDefS.l0 k ((done ++ [⟨mt m, (Int.tmod (m + 1) 3) == 0⟩]) ++ r) (m + 2) (((done ++ [(⟨mt m, (Int.tmod (m + 1) 3) == 0⟩ : S57)]).length : Nat) : Int)) ((gA mt (a :: r) m).1, done ++ (gA mt (a :: r) m).2) := by
      rw [gA]
      show Ev _ ((gA mt r (m + 2)).1, done ++ (_ :: (gA mt r (m + 2)).2))
      rw [mid_cons done (gA mt r (m + 2)).2 _]
      exact ih
    refine ev_step ⟨K, fun k hk => ?_⟩ ih2
    simp only [laws_markArgDefS.l0]
    rw [if_pos (by simp only [List.length_append, List.length_cons]; omega), hK k hk]
    simp only [Option.bind_some]
    rw [if_pos (by omega)]
    simp only [Int.toNat_natCast, set_mid]
    have hr : (rd_T57 (done ++ (⟨mt m, (rd_T57 (done ++ a :: r) (done.length : Int)).f1⟩ : S57) :: r) (done.length : Int)).f0 = mt m := by
      show ((done ++ _ :: r).getD done.length z57).f0 = _
      rw [at_mid]
    rw [hr, w1 m (by omega) (by omega), w1 (m + 1) (by omega) (by omega), w1 (done.length : Int) (by omega) (by omega), mid_len done (⟨mt m, (Int.tmod (m + 1) 3) == 0⟩ : S57), show m + 1 + 1 = m + 2 by omega, mid_cons done r _]
theorem mark_argsG (hmt : MTOK mt) (l : List S57) (m : Int) (h0 : 0 ≤ m) (h1 : m + 2 * (l.length : Int) ≤ 4611686018427387903) : Ev (fun k => laws_markArgDefS.f k l m) (gA mt l m) :=
  ev_same ⟨0, fun k _ => by unfold laws_markArgDefS.f; rfl⟩ (mark_args_at hmt l [] m h0 h1 (by simp; omega))
theorem held_args_at (hmt : MTOK mt) : ∀ (rest done : List S57) (m : Int), 0 ≤ m → m + 2 * (rest.length : Int) ≤ 4611686018427387903 → done.length + rest.length ≤ 4611686018427387903 → Ev (fun k => laws_heldArgDefS.l0 k (done ++ (gA mt rest m).2) m (done.length : Int)) (gA mt rest m).1
  | [], done, m, h0, h1, h2 => ev_now ⟨0, fun k _ => by
    simp only [laws_heldArgDefS.l0, gA, List.append_nil]
    rw [if_neg (by omega)]⟩
  | a :: r, done, m, h0, h1, h2 => by
    rw [List.length_cons] at h1 h2
    have ih := held_args_at hmt r (done ++ [⟨mt m, (Int.tmod (m + 1) 3) == 0⟩]) (m + 2) (by omega) (by omega) (by simp only [List.length_append, List.length_singleton]; omega)
    obtain ⟨K, hK⟩ := ev_at (hmt m (by omega))
    rw [List.append_assoc] at ih
    refine ev_step ⟨K, fun k hk => ?_⟩ ih
    have hg : rd_T57 (done ++ (gA mt (a :: r) m).2) (done.length : Int) = ⟨mt m, (Int.tmod (m + 1) 3) == 0⟩ := by
      show (done ++ (gA mt (a :: r) m).2).getD done.length z57 = _
      rw [gA, at_mid]
    simp only [laws_heldArgDefS.l0]
    rw [if_pos (by rw [List.length_append, gA_len, List.length_cons]; omega), if_pos (by omega), hK k hk, hg]
    simp only [Option.bind_some, if_true]
    rw [w1 m (by omega) (by omega), bne_self_eq_false, if_neg (by simp), w1 (m + 1) (by omega) (by omega), w1 (done.length : Int) (by omega) (by omega), mid_len done (⟨mt m, (Int.tmod (m + 1) 3) == 0⟩ : S57), show m + 1 + 1 = m + 2 by omega, gA]
    rfl
theorem held_argsG (hmt : MTOK mt) (l : List S57) (m : Int) (h0 : 0 ≤ m) (h1 : m + 2 * (l.length : Int) ≤ 4611686018427387903) : Ev (fun k => laws_heldArgDefS.f k (gA mt l m).2 m) (gA mt l m).1 :=
  ev_same ⟨0, fun k _ => by unfold laws_heldArgDefS.f; rfl⟩ (held_args_at hmt l [] m h0 h1 (by simp; omega))
theorem gcF_cons (f : S38) (r : List S38) : gcF (f :: r) = 4 + 2 * f.f1.length + gcF r := by simp [gcF]
theorem gcT_cons (t : S53) (r : List S53) : gcT (t :: r) = 1 + gcF t.f1 + gcT r := by simp [gcT]
theorem held_fields_at (hmt : MTOK mt) : ∀ (rest done : List S38) (m : Int), 0 ≤ m → m + (gcF rest : Int) ≤ 4611686018427387903 → done.length + rest.length ≤ 4611686018427387903 → Ev (fun k => laws_heldFieldDefS.l0 k (done ++ (gF mt rest m).2) m (done.length : Int)) (gF mt rest m).1
  | [], done, m, h0, h1, h2 => ev_now ⟨0, fun k _ => by
    simp only [laws_heldFieldDefS.l0, gF, List.append_nil]
    rw [if_neg (by omega)]⟩
  | f :: r, done, m, h0, h1, h2 => by
    rw [List.length_cons] at h2
    rw [gcF_cons] at h1
    have a1 := gA_fst (mt := mt) f.f1 (m + 1)
    have ha := held_argsG hmt f.f1 (m + 1) (by omega) (by omega)
    obtain ⟨x, hx⟩ : ∃ x : S38, x = ⟨mt m, (gA mt f.f1 (m + 1)).2, mt (gA mt f.f1 (m + 1)).1, (Int.tmod ((gA mt f.f1 (m + 1)).1 + 1) 3) == 0, (Int.tmod ((gA mt f.f1 (m + 1)).1 + 2) 3) == 0⟩ := ⟨_, rfl⟩
    obtain ⟨q, hq⟩ : ∃ q, q = (gA mt f.f1 (m + 1)).1 := ⟨_, rfl⟩
    have ih := held_fields_at hmt r (done ++ [x]) (q + 3) (by omega) (by omega) (by simp only [List.length_append, List.length_singleton]; omega)
    have hgf : gF mt (f :: r) m = ((gF mt r (q + 3)).1, x :: (gF mt r (q + 3)).2) := by rw [gF, hx, hq]
    obtain ⟨K, hK⟩ := ev_at (hmt m (by omega))
    obtain ⟨K2, hK2⟩ := ev_at ha
    obtain ⟨K3, hK3⟩ := ev_at (hmt q (by omega))
    rw [List.append_assoc] at ih
    refine ev_step ⟨max K (max K2 K3), fun k hk => ?_⟩ (r := (gF mt (f :: r) m).1) (by rw [hgf]; exact ih)
    have hg : rd_T38 (done ++ (gF mt (f :: r) m).2) (done.length : Int) = x := by
      show (done ++ (gF mt (f :: r) m).2).getD done.length z38 = _
      rw [hgf, at_mid]
    have x0 : x.f0 = mt m := by rw [hx]
    have x1 : x.f1 = (gA mt f.f1 (m + 1)).2 := by rw [hx]
    have x2 : x.f2 = mt q := by rw [hx, hq]
    have x3 : x.f3 = ((Int.tmod (q + 1) 3) == 0) := by rw [hx, hq]
    have x4 : x.f4 = ((Int.tmod (q + 1 + 1) 3) == 0) := by rw [hx, hq, show (gA mt f.f1 (m + 1)).1 + 1 + 1 = (gA mt f.f1 (m + 1)).1 + 2 by omega]
    simp only [laws_heldFieldDefS.l0]
    rw [if_pos (by rw [List.length_append, gF_len, List.length_cons]; omega), if_pos (by omega), hK k (by omega), hg]
    simp only [Option.bind_some]
    rw [if_pos (by rw [x0]), w1 m (by omega) (by omega), x1, hK2 k (by omega)]
    simp only [Option.bind_some]
    rw [← hq, if_neg (by omega), hK3 k (by omega)]
    simp only [Option.bind_some]
    rw [if_pos (by rw [x2]), w1 q (by omega) (by omega), x3, bne_self_eq_false, if_neg (by simp), w1 (q + 1) (by omega) (by omega), x4, bne_self_eq_false, if_neg (by simp), w1 (q + 1 + 1) (by omega) (by omega), w1 (done.length : Int) (by omega) (by omega), mid_len done x, show q + 1 + 1 + 1 = q + 3 by omega, hgf]
    rfl
theorem held_fieldsG (hmt : MTOK mt) (l : List S38) (m : Int) (h0 : 0 ≤ m) (h1 : m + (gcF l : Int) ≤ 4611686018427387903) (h2 : l.length ≤ 4611686018427387903) : Ev (fun k => laws_heldFieldDefS.f k (gF mt l m).2 m) (gF mt l m).1 :=
  ev_same ⟨0, fun k _ => by unfold laws_heldFieldDefS.f; rfl⟩ (held_fields_at hmt l [] m h0 h1 (by simpa using h2))
theorem held_types_at (hmt : MTOK mt) : ∀ (rest done : List S53) (m : Int), 0 ≤ m → m + (gcT rest : Int) ≤ 4611686018427387903 → done.length + rest.length ≤ 4611686018427387903 → (∀ t ∈ rest, t.f1.length ≤ 4611686018427387903) → Ev (fun k => laws_heldTypeDefS.l0 k (done ++ (gT mt rest m).2) m (done.length : Int)) (gT mt rest m).1
  | [], done, m, h0, h1, h2, _ => ev_now ⟨0, fun k _ => by
    simp only [laws_heldTypeDefS.l0, gT, List.append_nil]
    rw [if_neg (by omega)]⟩
  | f :: r, done, m, h0, h1, h2, h3 => by
    rw [List.length_cons] at h2
    rw [gcT_cons] at h1
    have a1 := gF_fst (mt := mt) f.f1 (m + 1)
    have ha := held_fieldsG hmt f.f1 (m + 1) (by omega) (by omega) (h3 f List.mem_cons_self)
    obtain ⟨x, hx⟩ : ∃ x : S53, x = ⟨mt m, (gF mt f.f1 (m + 1)).2⟩ := ⟨_, rfl⟩
    obtain ⟨q, hq⟩ : ∃ q, q = (gF mt f.f1 (m + 1)).1 := ⟨_, rfl⟩
    have ih := held_types_at hmt r (done ++ [x]) q (by omega) (by omega) (by simp only [List.length_append, List.length_singleton]; omega) (fun t ht => h3 t (List.mem_cons_of_mem _ ht))
    have hgf : gT mt (f :: r) m = ((gT mt r q).1, x :: (gT mt r q).2) := by rw [gT, hx, hq]
    obtain ⟨K, hK⟩ := ev_at (hmt m (by omega))
    obtain ⟨K2, hK2⟩ := ev_at ha
    rw [List.append_assoc] at ih
    refine ev_step ⟨max K K2, fun k hk => ?_⟩ (r := (gT mt (f :: r) m).1) (by rw [hgf]; exact ih)
    have hg : rd_T53 (done ++ (gT mt (f :: r) m).2) (done.length : Int) = x := by
      show (done ++ (gT mt (f :: r) m).2).getD done.length z53 = _
      rw [hgf, at_mid]
    have x0 : x.f0 = mt m := by rw [hx]
    have x1 : x.f1 = (gF mt f.f1 (m + 1)).2 := by rw [hx]
    simp only [laws_heldTypeDefS.l0]
    rw [if_pos (by rw [List.length_append, gT_len, List.length_cons]; omega), if_pos (by omega), hK k (by omega), hg]
    simp only [Option.bind_some]
    rw [if_pos (by rw [x0]), w1 m (by omega) (by omega), x1, hK2 k (by omega)]
    simp only [Option.bind_some]
    rw [← hq, if_neg (by omega), w1 (done.length : Int) (by omega) (by omega), mid_len done x, hgf]
    rfl
theorem held_schemaG (hmt : MTOK mt) (l : List S53) (m : Int) (h0 : 0 ≤ m) (h1 : m + (gcT l : Int) ≤ 4611686018427387903) (h2 : l.length ≤ 4611686018427387903) (h3 : ∀ t ∈ l, t.f1.length ≤ 4611686018427387903) : Ev (fun k => laws_heldSchema.f k (gT mt l m).2 m) (gT mt l m).1 := by
  have h : Ev (fun k => laws_heldTypeDefS.f k (gT mt l m).2 m) (gT mt l m).1 := ev_same ⟨0, fun k _ => by unfold laws_heldTypeDefS.f; rfl⟩ (held_types_at hmt l [] m h0 h1 (by simpa using h2) h3)
  obtain ⟨K, hK⟩ := ev_at h
  have hf := gT_fst (mt := mt) l m
  refine ev_mk K fun k hk => ?_
  unfold laws_heldSchema.f
  rw [hK k hk]
  simp only [Option.bind_some]
  rw [if_neg (by omega)]
-- what the marks compute (mf, mt of the walk)
theorem mf_ev (hmt : MTOK mt) : ∀ (l : List S38) (m : Int), 0 ≤ m → m + (gcF l : Int) ≤ 4611686018427387903 → Ev (fun k => mf k l m) (gF mt l m)
  | [], m, _, _ => ev_mk 0 fun k _ => rfl
  | f :: r, m, h0, h1 => by
    rw [gcF_cons] at h1
    have a1 := gA_fst (mt := mt) f.f1 (m + 1)
    obtain ⟨q, hq⟩ : ∃ q, q = (gA mt f.f1 (m + 1)).1 := ⟨_, rfl⟩
    obtain ⟨K, hK⟩ := ev_at (hmt m (by omega))
    obtain ⟨K2, hK2⟩ := ev_at (mark_argsG hmt f.f1 (m + 1) (by omega) (by omega))
    obtain ⟨K3, hK3⟩ := ev_at (hmt q (by omega))
    obtain ⟨K4, hK4⟩ := ev_at (mf_ev hmt r (q + 3) (by omega) (by omega))
    refine ev_mk (max K (max K2 (max K3 K4))) fun k hk => ?_
    rw [mf, hK k (by omega), Option.bind_some, w1 m (by omega) (by omega), hK2 k (by omega), Option.bind_some, ← hq, hK3 k (by omega), Option.bind_some, w1 q (by omega) (by omega), w1 (q + 1) (by omega) (by omega), w1 (q + 1 + 1) (by omega) (by omega), show q + 1 + 1 + 1 = q + 3 by omega, hK4 k (by omega), Option.bind_some, gF, ← hq, show q + 1 + 1 = q + 2 by omega]
theorem mt_ev (hmt : MTOK mt) : ∀ (l : List S53) (m : Int), 0 ≤ m → m + (gcT l : Int) ≤ 4611686018427387903 → Ev (fun k => Q.mt k l m) (gT mt l m)
  | [], m, _, _ => ev_mk 0 fun k _ => rfl
  | f :: r, m, h0, h1 => by
    rw [gcT_cons] at h1
    have a1 := gF_fst (mt := mt) f.f1 (m + 1)
    obtain ⟨q, hq⟩ : ∃ q, q = (gF mt f.f1 (m + 1)).1 := ⟨_, rfl⟩
    obtain ⟨K, hK⟩ := ev_at (hmt m (by omega))
    obtain ⟨K2, hK2⟩ := ev_at (mf_ev hmt f.f1 (m + 1) (by omega) (by omega))
    obtain ⟨K4, hK4⟩ := ev_at (mt_ev hmt r q (by omega) (by omega))
    refine ev_mk (max K (max K2 K4)) fun k hk => ?_
    rw [Q.mt, hK k (by omega), Option.bind_some, w1 m (by omega) (by omega), hK2 k (by omega), Option.bind_some, ← hq, hK4 k (by omega), Option.bind_some, gT, ← hq]
end Go.Proofs.Ytoogmlghfljeiaa.Pure2
namespace Go.Proofs.Ytoogmlghfljeiaa.Pure2
open Go.RowKit Go.Proofs.Ytoogmlghfljeiaa.Q Go.Proofs.YtoogmlghfljeiaaW.PrintWords Go.Proofs.YtoogmlghfljeiaaW.PrintLast
theorem ps_spec : spec_PlainSchema.f = some psL := rfl
theorem ps_small : psL.length ≤ 1048576 ∧ ∀ x ∈ psL, x.f1.length ≤ 1048576 ∧ ∀ y ∈ x.f1, y.f1.length ≤ 1048576 := by
  refine ⟨qa66, fun x hx => ?_⟩
  have h : (psL.all fun x => decide (x.f1.length ≤ 1048576) && x.f1.all fun y => decide (y.f1.length ≤ 1048576)) = true := by kernel_rfl
  have h1 := List.all_eq_true.1 h x hx
  rw [Bool.and_eq_true, decide_eq_true_eq] at h1
  exact ⟨h1.1, fun y hy => of_decide_eq_true (List.all_eq_true.1 h1.2 y hy)⟩
theorem FnExactPlainSchema : ∃ (k : Nat) (m : Int) (psM spL : List S53), spec_PlainSchema.f = some spL ∧ laws_eqSchema.f k psL spL = some true ∧ Q.mt k psL 1 = some (m, psM) ∧ laws_heldSchema.f k psM 1 = some m ∧ 0 ≤ m := by
  obtain ⟨mt, hmt⟩ := mtok_some
  have hs := ps_small
  have hc : (gcT psL : Int) ≤ 1000 := by have : gcT psL ≤ 1000 := by decide
                                         omega
  obtain ⟨K1, h1⟩ := ev_at (eq_schema psL hs.1 hs.2)
  obtain ⟨K2, h2⟩ := ev_at (mt_ev hmt psL 1 qa22 qa22)
  obtain ⟨K3, h3⟩ := ev_at (held_schemaG hmt psL 1 qa22 qa22 (by have := hs.1; omega) (fun t ht => by have := (hs.2 t ht).1; omega))
  have hf := gT_fst (mt := mt) psL 1
  have hm : 0 ≤ (gT mt psL 1).1 := by omega
  exact ⟨max K1 (max K2 K3), (gT mt psL 1).1, (gT mt psL 1).2, psL, ps_spec, h1 _ qa22, h2 _ qa22, h3 _ qa22, hm⟩
end Go.Proofs.Ytoogmlghfljeiaa.Pure2
