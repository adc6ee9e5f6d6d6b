/- Texts of the claim on FnExactSameOut, gathered by a program of this session: what the program's functions compute (proved by walks), and the plain part. -/
import Derived.Test.YtfpkooafbeejmaaKFnExactSameOutc
namespace Go.Proofs.Ytfpkooafbeejmaa.Pure2
open Go.RowKit Go.Proofs.Ytfpkooafbeejmaa.Q Go.Proofs.YtfpkooafbeejmaaW.PrintWords Go.Proofs.YtfpkooafbeejmaaW.PrintLast
set_option linter.unusedVariables false
set_option linter.unusedSimpArgs false
/-! the tokens of a schema tell it -/
theorem toList_loop_spec (b : ByteArray) : ∀ (d i : Nat) (r : List UInt8), b.size - i = d → ByteArray.toList.loop b i r = r.reverse ++ b.data.toList.drop i := by
  have hsz : b.data.toList.length = b.size := Array.length_toList ..
  intro d
  induction d with
  | zero =>
    intro i r h
    unfold ByteArray.toList.loop
    rw [if_neg qa22, List.drop_eq_nil_of_le qa22, List.append_nil]
  | succ d ih =>
    intro i r h
    have hi : i < b.data.toList.length := by omega
    unfold ByteArray.toList.loop
    rw [if_pos qa22, ih (i + 1) _ qa22, List.reverse_cons, List.append_assoc, List.singleton_append, List.drop_eq_getElem_cons hi]
    have hg : b.get! i = b.data.toList[i] := by
      show b.data[i]! = _
      rw [getElem!_pos b.data i (by rw [← Array.length_toList]; exact hi), Array.getElem_toList]
    rw [hg]
theorem toList_data (b : ByteArray) : b.toList = b.data.toList := by
  unfold ByteArray.toList
  rw [toList_loop_spec b _ 0 [] rfl]
  rfl
/-! what a right answer is -/
theorem isEmpty_iff (s : ByteArray) : (s.toList == ([] : List UInt8)) = decide (s.toList = ([] : List UInt8)) := by
  cases s.toList <;> rfl
theorem ev_shift {α : Type} {g f : Nat → Option α} {r : α} (m : Nat) (h : ∃ K, ∀ k, K ≤ k → g (k + m) = f k) (k : Ev f r) : Ev g r := by
  obtain ⟨K, h⟩ := h
  obtain ⟨K', k⟩ := k
  refine ⟨max K K' + m, fun n hn => ?_⟩
  obtain ⟨q, rfl⟩ : ∃ q, n = q + m := ⟨n - m, qa22⟩
  rw [h q qa22, k q qa22]
/-- A loop that carries a state up to n; a round may take several steps. -/
theorem state_loop2 {σ ρ : Type} (n : Nat) (L : Nat → σ → Int → Option ρ) (Inv : Nat → σ → Prop) (Post : ρ → Prop) (hend : ∀ s, Inv n s → ∃ r, Post r ∧ Ev (fun k => L k s (n : Int)) r)
    (hstep : ∀ j s, j < n → Inv j s → (∃ r, Post r ∧ Ev (fun k => L k s (j : Int)) r) ∨ ∃ s', Inv (j + 1) s' ∧ ∀ r, Ev (fun k => L k s' ((j + 1 : Nat) : Int)) r → Ev (fun k => L k s (j : Int)) r) :
    ∀ j s, j ≤ n → Inv j s → ∃ r, Post r ∧ Ev (fun k => L k s (j : Int)) r := by
  have key : ∀ d j s, j ≤ n → n - j = d → Inv j s → ∃ r, Post r ∧ Ev (fun k => L k s (j : Int)) r := by
    intro d
    induction d with
    | zero => intro j s hj hd hi; obtain rfl : j = n := by omega
              exact hend s hi
    | succ d ih =>
      intro j s hj hd hi
      rcases hstep j s qa22 hi with h | ⟨s', hi', hk⟩
      · exact h
      · obtain ⟨r, hr, he⟩ := ih (j + 1) s' qa22 qa22 hi'
        exact ⟨r, hr, hk r he⟩
  intro j s hj hi
  exact key _ j s hj rfl hi
theorem psum_succ {α : Type} (f : α → Nat) (l : List α) (z : α) (j : Nat) (h : j < l.length) : ((l.take (j + 1)).map f).sum = ((l.take j).map f).sum + f (l.getD j z) := by
  rw [List.take_succ_eq_append_getElem h, List.map_append, List.sum_append]
  simp [List.getD_eq_getElem?_getD, List.getElem?_eq_getElem h]
theorem psum_le {α : Type} (f : α → Nat) (l : List α) (j : Nat) : ((l.take j).map f).sum ≤ (l.map f).sum := by
  have h : (l.map f).sum = ((l.take j).map f).sum + ((l.drop j).map f).sum := by rw [← List.sum_append, ← List.map_append, List.take_append_drop]
  omega
theorem psum_len {α : Type} (f : α → Nat) (l : List α) : ((l.take l.length).map f).sum = (l.map f).sum := by rw [List.take_length]
def cntO : Nat → S46 → Nat
  | 0, _ => 0
  | n + 1, x => 1 + (x.f4.map (cntO n)).sum
/-- A value right by itself. -/
def NodeOK (x : S46) : Prop := (x.f0 = 1 ∨ x.f1 = 0) ∧ (-2147483648 ≤ x.f1 ∧ x.f1 ≤ 2147483647) ∧ (x.f0 = 2 ∨ x.f2.toList = []) ∧ (x.f0 = 4 ∨ x.f3.length = 0) ∧
  ((x.f0 = 0 ∨ x.f0 = 1) ∧ x.f4.length = 0 ∨ x.f0 = 2 ∧ IsName x.f2 ∧ x.f4.length = 0 ∨ x.f0 = 3 ∨ x.f0 = 4 ∧ x.f3.length = x.f4.length)
def KeyOK (x : S46) (j : Nat) : Prop := IsName (x.f3.getD j ByteArray.empty) ∧ ∀ i, i < j → (x.f3.getD i ByteArray.empty).toList ≠ (x.f3.getD j ByteArray.empty).toList
def RtO : Nat → Nat → S46 → Prop
  | 0, _, _ => False
  | n + 1, d, x => 0 < d ∧ NodeOK x ∧ (∀ j, j < x.f3.length → KeyOK x j) ∧ ∀ y ∈ x.f4, RtO n (d - 1) y
theorem right_ok (x : S46) (hs : x.f2.size ≤ 1048576) : ∃ b, Ev (fun k => impl_Out_isRight.f k x.f0 x.f1 x.f2 x.f3 x.f4) b ∧ (b = true ↔ NodeOK x) := by
  obtain ⟨t, _, et, ht⟩ := names_ev x.f2 hs
  obtain ⟨K, hK⟩ := ev_at et
  obtain ⟨c, hc, hc'⟩ : ∃ c : Bool, (∀ b k, K ≤ k → impl_Out_isRight.j0 (k + 2) b x.f0 x.f1 x.f2 x.f3 x.f4 = some (!b && c)) ∧ (c = true ↔ ((x.f0 = 0 ∨ x.f0 = 1) ∧ x.f4.length = 0 ∨ x.f0 = 2 ∧ IsName x.f2 ∧ x.f4.length = 0 ∨ x.f0 = 3 ∨ x.f0 = 4 ∧ x.f3.length = x.f4.length)) := by
    by_cases h0 : x.f0 = 0
    · refine ⟨(x.f4.length : Int) == 0, fun b k _ => ?_, ?_⟩
      · simp only [impl_Out_isRight.j0, impl_Out_isRight.j1, h0]; cases b <;> simp
      · rw [h0]; simp; try omega
    by_cases h1 : x.f0 = 1
    · refine ⟨(x.f4.length : Int) == 0, fun b k _ => ?_, ?_⟩
      · simp only [impl_Out_isRight.j0, impl_Out_isRight.j1, h1]; cases b <;> simp
      · rw [h1]; simp; try omega
    have e1 : (x.f0 == 1) = false := by simpa using h1
    by_cases h2 : x.f0 = 2
    · refine ⟨t && ((x.f4.length : Int) == 0), fun b k hk => ?_, ?_⟩
      · simp only [impl_Out_isRight.j0, impl_Out_isRight.j1, e1, if_neg h0, if_pos h2, hK k hk, Option.bind_some]; cases b <;> cases t <;> simp
      · rw [h2, Bool.and_eq_true, ht]; simp; try omega
    by_cases h3 : x.f0 = 3
    · refine ⟨true, fun b k _ => ?_, by simp [h3]⟩
      simp only [impl_Out_isRight.j0, impl_Out_isRight.j1, e1, if_neg h0, if_neg h2, if_pos h3]; cases b <;> simp
    by_cases h4 : x.f0 = 4
    · refine ⟨(x.f3.length : Int) == (x.f4.length : Int), fun b k _ => ?_, ?_⟩
      · simp only [impl_Out_isRight.j0, impl_Out_isRight.j1, e1, if_neg h0, if_neg h2, if_neg h3, if_pos h4]; cases b <;> simp
      · rw [h4]; simp; try omega
    · refine ⟨false, fun b k _ => ?_, ?_⟩
      · simp only [impl_Out_isRight.j0, impl_Out_isRight.j1, e1, if_neg h0, if_neg h2, if_neg h3, if_neg h4]; cases b <;> simp
      · simp [h0, h1, h2, h3, h4]
  have hI : impl_IsInt.f x.f1 = some (decide (-2147483648 ≤ x.f1 ∧ x.f1 ≤ 2147483647)) := by unfold impl_IsInt.f; rw [impl_in]; rfl
  have key : ∀ b : Bool, (∀ k, K ≤ k → impl_Out_isRight.f (k + 2) x.f0 x.f1 x.f2 x.f3 x.f4 = impl_Out_isRight.j0 (k + 2) b x.f0 x.f1 x.f2 x.f3 x.f4) →
      (b = false ↔ (x.f0 = 1 ∨ x.f1 = 0) ∧ (-2147483648 ≤ x.f1 ∧ x.f1 ≤ 2147483647) ∧ (x.f0 = 2 ∨ x.f2.toList = []) ∧ (x.f0 = 4 ∨ x.f3.length = 0)) →
      ∃ b, Ev (fun k => impl_Out_isRight.f k x.f0 x.f1 x.f2 x.f3 x.f4) b ∧ (b = true ↔ NodeOK x) := by
    intro b h hb
    refine ⟨!b && c, ev_mk (K + 2) fun k hk => ?_, ?_⟩
    · obtain ⟨m, rfl⟩ : ∃ m, k = m + 2 := ⟨k - 2, qa22⟩
      rw [h m qa22, hc b m qa22]
    · unfold NodeOK
      rw [Bool.and_eq_true, hc']
      have : (!b) = true ↔ b = false := by cases b <;> simp
      rw [this, hb]
      constructor
      · rintro ⟨⟨a1, a2, a3, a4⟩, a5⟩; exact ⟨a1, a2, a3, a4, a5⟩
      · rintro ⟨a1, a2, a3, a4, a5⟩; exact ⟨⟨a1, a2, a3, a4⟩, a5⟩
  have tail : (x.f0 = 1 ∨ x.f1 = 0) → (-2147483648 ≤ x.f1 ∧ x.f1 ≤ 2147483647) → ∃ b, (∀ k, K ≤ k → impl_Out_isRight.f (k + 2) x.f0 x.f1 x.f2 x.f3 x.f4 = impl_Out_isRight.j0 (k + 2) b x.f0 x.f1 x.f2 x.f3 x.f4) ∧
      (b = false ↔ (x.f0 = 2 ∨ x.f2.toList = []) ∧ (x.f0 = 4 ∨ x.f3.length = 0)) := by
    intro ha hb
    by_cases h1 : x.f0 = 2
    · refine ⟨decide ((x.f3.length : Int) > 0), fun k _ => ?_, ?_⟩
      · unfold impl_Out_isRight.f
        rw [hI]; simp only [Option.bind_some, decide_eq_true hb, if_true, if_pos h1, if_neg (show ¬ x.f0 = 4 by omega)]
        by_cases hz : x.f0 = 1
        · rw [if_pos hz]
        · rw [if_neg hz, if_pos (ha.resolve_left hz)]
      · rw [h1]; simp; try omega
    · by_cases h2 : x.f2.toList = []
      · by_cases h4 : x.f0 = 4
        · refine ⟨false, fun k _ => ?_, by simp [h2, h4]⟩
          unfold impl_Out_isRight.f
          rw [hI]; simp only [Option.bind_some, decide_eq_true hb, if_true, if_neg h1, if_pos h2, if_pos h4]
          by_cases hz : x.f0 = 1
          · rw [if_pos hz]
          · rw [if_neg hz, if_pos (ha.resolve_left hz)]
        · refine ⟨decide ((x.f3.length : Int) > 0), fun k _ => ?_, ?_⟩
          · unfold impl_Out_isRight.f
            rw [hI]; simp only [Option.bind_some, decide_eq_true hb, if_true, if_neg h1, if_pos h2, if_neg h4]
            by_cases hz : x.f0 = 1
            · rw [if_pos hz]
            · rw [if_neg hz, if_pos (ha.resolve_left hz)]
          · simp [h2, h4]; try omega
      · refine ⟨true, fun k _ => ?_, by simp [h1, h2]⟩
        unfold impl_Out_isRight.f
        rw [hI]; simp only [Option.bind_some, decide_eq_true hb, if_true, if_neg h1, if_neg h2]
        by_cases hz : x.f0 = 1
        · rw [if_pos hz]
        · rw [if_neg hz, if_pos (ha.resolve_left hz)]
  by_cases ha : x.f0 = 1 ∨ x.f1 = 0
  · by_cases hb : -2147483648 ≤ x.f1 ∧ x.f1 ≤ 2147483647
    · obtain ⟨b, h1, h2⟩ := tail ha hb
      exact key b h1 (h2.trans ⟨fun h => ⟨ha, hb, h⟩, fun h => h.2.2⟩)
    · refine key true (fun k _ => ?_) ⟨fun h => qa94, fun h => absurd h.2.1 hb⟩
      unfold impl_Out_isRight.f
      rw [hI]; simp only [Option.bind_some, decide_eq_false hb]
      by_cases hz : x.f0 = 1
      · rw [if_pos hz]; rfl
      · rw [if_neg hz, if_pos (ha.resolve_left hz)]; rfl
  · refine key true (fun k _ => ?_) ⟨fun h => qa94, fun h => absurd h.1 ha⟩
    unfold impl_Out_isRight.f
    rw [if_neg (fun h => ha (.inl h)), if_neg (fun h => ha (.inr h))]
theorem spec_in_text (l : List ByteArray) (t : ByteArray) (hl : l.length ≤ 1048576) : ∃ r, Ev (fun k => spec_l04In.f k l t) r ∧ (r = true ↔ ∃ j, j < l.length ∧ (l.getD j ByteArray.empty).toList = t.toList) := by
  obtain ⟨r, hr, he⟩ := count_loop l.length (fun k i => spec_l04In.l0 k l t i) (fun j r => r = true ↔ ∃ j', j ≤ j' ∧ j' < l.length ∧ (l.getD j' ByteArray.empty).toList = t.toList)
    ⟨false, ⟨fun h => qa94, fun ⟨j', h1, h2, _⟩ => by omega⟩, ev_now ⟨0, fun k _ => by simp only [spec_l04In.l0]; rw [if_neg qa22]⟩⟩
    (fun j hj r hr he => by
      have hd : rdOf ByteArray.empty l (j : Int) = l.getD j ByteArray.empty := rfl
      by_cases hc : (l.getD j ByteArray.empty).toList = t.toList
      · exact ⟨true, ⟨fun _ => ⟨j, Nat.le_refl _, hj, hc⟩, fun _ => rfl⟩, ev_now ⟨0, fun k _ => by simp only [spec_l04In.l0]; rw [if_pos qa22, if_pos qa22, hd, if_pos hc]⟩⟩
      · refine ⟨r, hr.trans ⟨fun ⟨j', h1, h2, h3⟩ => ⟨j', qa22, h2, h3⟩, fun ⟨j', h1, h2, h3⟩ => ?_⟩, ev_step ⟨0, fun k _ => by simp only [spec_l04In.l0]; rw [if_pos qa22, if_pos qa22, hd, if_neg hc, wsucc hj qa22]⟩ he⟩
        rcases Nat.lt_or_eq_of_le h1 with h4 | rfl
        · exact ⟨j', h4, h2, h3⟩
        · exact absurd h3 hc) 0 qa22
  exact ⟨r, ev_same ⟨0, fun k _ => by unfold spec_l04In.f; rfl⟩ he, hr.trans ⟨fun ⟨j, _, h2, h3⟩ => ⟨j, h2, h3⟩, fun ⟨j, h2, h3⟩ => ⟨j, qa22, h2, h3⟩⟩⟩
/-- The reference's answer. -/
theorem spec_ok : ∀ (n : Nat) (x : S46) (d : Nat), SmO n x → d ≤ 20 → ∃ c b, Ev (fun k => spec_l08OK.f k x.f0 x.f1 x.f2 x.f3 x.f4 (d : Int)) (c, b) ∧ (b = true ↔ RtO n d x ∧ cntO n x ≤ 4000) ∧ (b = true → c = (cntO n x : Int)) := by
  intro n
  induction n with
  | zero => intro x d h; exact h.elim
  | succ n ih =>
    intro x d hs hd
    obtain ⟨h2, ⟨h3, h3'⟩, h4, h5⟩ := hs
    by_cases hz : d = 0
    · subst hz
      exact ⟨0, false, ev_now ⟨0, fun k _ => by simp only [spec_l08OK.f]; rfl⟩, ⟨fun h => qa94, fun h => absurd h.1.1 qa22⟩, fun h => qa94⟩
    have hz' : ¬ (d : Int) = 0 := by omega
    have start : ∀ c b, Ev (fun k => spec_l08OK.j0 k (d : Int) (decide (x.f3.length = 0) && decide (x.f4.length = 0)) x.f0 x.f1 x.f2 x.f3 x.f4) (c, b) → Ev (fun k => spec_l08OK.f k x.f0 x.f1 x.f2 x.f3 x.f4 (d : Int)) (c, b) := by
      intro c b h
      refine ev_step ⟨0, fun k _ => ?_⟩ h
      simp only [spec_l08OK.f, if_neg hz']
      by_cases e3 : x.f3.length = 0
      · rw [if_pos qa22]
        congr 1
        rw [decide_eq_true e3, Bool.true_and, Bool.eq_iff_iff]; simp
      · rw [if_neg qa22, decide_eq_false e3, Bool.false_and]
    obtain ⟨t, et, _, ht⟩ := names_ev x.f2 h2
    obtain ⟨K, hK⟩ := ev_at et
    have hI : spec_IsInt.f x.f1 = some (decide (-2147483648 ≤ x.f1 ∧ x.f1 ≤ 2147483647)) := by unfold spec_IsInt.f; rw [spec_in]; rfl
    have leaf : ∀ b : Bool, (∀ k, K ≤ k → spec_l08OK.j0 (k + 1) (d : Int) (decide (x.f3.length = 0) && decide (x.f4.length = 0)) x.f0 x.f1 x.f2 x.f3 x.f4 = some (1, b)) → (x.f0 = 0 ∨ x.f0 = 1 ∨ x.f0 = 2) → (b = true ↔ NodeOK x) →
        ∃ c b, Ev (fun k => spec_l08OK.f k x.f0 x.f1 x.f2 x.f3 x.f4 (d : Int)) (c, b) ∧ (b = true ↔ RtO (n + 1) d x ∧ cntO (n + 1) x ≤ 4000) ∧ (b = true → c = (cntO (n + 1) x : Int)) := by
      intro b h hk hb
      have em : NodeOK x → x.f3.length = 0 ∧ x.f4.length = 0 := by
        rintro ⟨_, _, _, a4, a5⟩
        have : x.f3.length = 0 := a4.resolve_left qa22
        refine ⟨this, ?_⟩
        rcases a5 with a5 | a5 | a5 | a5
        · exact a5.2
        · exact a5.2.2
        · omega
        · omega
      have c1 : NodeOK x → cntO (n + 1) x = 1 := by
        intro hn
        show 1 + (x.f4.map (cntO n)).sum = 1
        rw [List.length_eq_zero_iff.1 (em hn).2]; rfl
      refine ⟨1, b, start _ _ (ev_now ⟨K, h⟩), ⟨fun h' => ?_, fun h' => hb.2 h'.1.2.1⟩, fun h' => ?_⟩
      · have hn := hb.1 h'
        refine ⟨⟨qa22, hn, fun j hj => ?_, fun y hy => ?_⟩, by rw [c1 hn]; omega⟩
        · have := (em hn).1; omega
        · rw [List.length_eq_zero_iff.1 (em hn).2] at hy; cases hy
      · rw [c1 (hb.1 h')]; rfl
    by_cases k0 : x.f0 = 0
    · refine leaf (decide (x.f3.length = 0) && decide (x.f4.length = 0) && decide (x.f1 = 0) && decide (x.f2.toList = [])) (fun k _ => ?_) (.inl k0) ?_
      · simp only [spec_l08OK.j0, if_pos k0]
        cases (decide (x.f3.length = 0) && decide (x.f4.length = 0))
        · simp
        · by_cases e : x.f1 = 0
          · simp only [if_true, if_pos e, decide_eq_true e, Bool.true_and]; rw [isEmpty_iff]
          · simp [e]
      · unfold NodeOK; simp only [Bool.and_eq_true, decide_eq_true_eq, k0]
        constructor
        · rintro ⟨⟨⟨a, b⟩, c⟩, e⟩; exact ⟨.inr c, qa22, .inr e, .inr a, .inl ⟨.inl (by trivial), b⟩⟩
        · rintro ⟨a, b, c, e, f⟩
          refine ⟨⟨⟨qa22, ?_⟩, qa22⟩, c.resolve_left qa22⟩
          rcases f with f | f | f | f
          · exact f.2
          · omega
          · omega
          · omega
    by_cases k1 : x.f0 = 1
    · refine leaf (decide (x.f3.length = 0) && decide (x.f4.length = 0) && decide (-2147483648 ≤ x.f1 ∧ x.f1 ≤ 2147483647) && decide (x.f2.toList = [])) (fun k _ => ?_) (.inr (.inl k1)) ?_
      · simp only [spec_l08OK.j0, if_neg k0, if_pos k1, hI, Option.bind_some]
        cases (decide (x.f3.length = 0) && decide (x.f4.length = 0))
        · simp
        · by_cases e : -2147483648 ≤ x.f1 ∧ x.f1 ≤ 2147483647
          · simp only [if_true, decide_eq_true e, Bool.true_and]; rw [isEmpty_iff]
          · simp [decide_eq_false e]
      · unfold NodeOK; simp only [Bool.and_eq_true, decide_eq_true_eq, k1]
        constructor
        · rintro ⟨⟨⟨a, b⟩, c⟩, e⟩; exact ⟨.inl (by trivial), c, .inr e, .inr a, .inl ⟨.inr (by trivial), b⟩⟩
        · rintro ⟨a, b, c, e, f⟩
          refine ⟨⟨⟨qa22, ?_⟩, b⟩, c.resolve_left qa22⟩
          rcases f with f | f | f | f
          · exact f.2
          · omega
          · omega
          · omega
    by_cases k2 : x.f0 = 2
    · refine leaf (decide (x.f3.length = 0) && decide (x.f4.length = 0) && decide (x.f1 = 0) && t) (fun k hk => ?_) (.inr (.inr k2)) ?_
      · simp only [spec_l08OK.j0, if_neg k0, if_neg k1, if_pos k2]
        cases (decide (x.f3.length = 0) && decide (x.f4.length = 0))
        · simp
        · by_cases e : x.f1 = 0
          · simp only [if_true, if_pos e, decide_eq_true e, Bool.true_and, hK k hk, Option.bind_some]
          · simp [e]
      · unfold NodeOK; simp only [Bool.and_eq_true, decide_eq_true_eq, k2, ht]
        constructor
        · rintro ⟨⟨⟨a, b⟩, c⟩, e⟩; exact ⟨.inr c, qa22, .inl (by trivial), .inr a, .inr (.inl ⟨by trivial, e, b⟩)⟩
        · rintro ⟨a, b, c, e, f⟩
          rcases f with f | f | f | f
          · omega
          · exact ⟨⟨⟨qa22, f.2.2⟩, qa22⟩, f.2.1⟩
          · omega
          · omega
    -- lists and objects
    have bad : ∀ (hn : ¬ NodeOK x), Ev (fun k => spec_l08OK.j1 k (d : Int) true x.f0 x.f1 x.f2 x.f3 x.f4) (0, false) := fun _ => ev_now ⟨0, fun k _ => by simp only [spec_l08OK.j1]; rfl⟩
    have node : NodeOK x ↔ x.f1 = 0 ∧ x.f2.toList = [] ∧ (x.f0 = 3 ∧ x.f3.length = 0 ∨ x.f0 = 4 ∧ x.f3.length = x.f4.length) := by
      unfold NodeOK
      constructor
      · rintro ⟨a, b, c, e, f⟩
        refine ⟨a.resolve_left k1, c.resolve_left k2, ?_⟩
        rcases f with f | f | f | f
        · omega
        · omega
        · exact .inl ⟨f, e.resolve_left qa22⟩
        · exact .inr f
      · rintro ⟨a, c, f⟩
        refine ⟨.inr a, qa22, .inr c, ?_, ?_⟩
        · rcases f with f | f
          · exact .inr f.2
          · exact .inl f.1
        · rcases f with f | f
          · exact .inr (.inr (.inl f.1))
          · exact .inr (.inr (.inr f))
    obtain ⟨q, hq, hq'⟩ : ∃ q : Bool, (∀ k, spec_l08OK.j0 (k + 1) (d : Int) (decide (x.f3.length = 0) && decide (x.f4.length = 0)) x.f0 x.f1 x.f2 x.f3 x.f4 = spec_l08OK.j1 k (d : Int) q x.f0 x.f1 x.f2 x.f3 x.f4) ∧ (q = false ↔ NodeOK x) := by
      rw [node]
      by_cases e1 : x.f1 = 0
      · by_cases e2 : x.f2.toList = []
        · by_cases k3 : x.f0 = 3
          · by_cases e3 : x.f3.length = 0
            · exact ⟨false, fun k => by simp only [spec_l08OK.j0, if_neg k0, if_neg k1, if_neg k2, if_pos k3, if_pos e1, if_pos e2]; rw [if_neg qa22, if_neg qa22], by simp [e1, e2, k3, e3]⟩
            · exact ⟨true, fun k => by simp only [spec_l08OK.j0, if_neg k0, if_neg k1, if_neg k2, if_pos k3, if_pos e1, if_pos e2]; rw [if_pos qa22], by simp [k3, List.length_eq_zero_iff] at e3 ⊢; intro _ _; exact e3⟩
          · by_cases k4 : x.f0 = 4
            · refine ⟨(x.f3.length : Int) != (x.f4.length : Int), fun k => by simp only [spec_l08OK.j0, if_neg k0, if_neg k1, if_neg k2, if_neg k3, if_pos k4, if_pos e1, if_pos e2], ?_⟩
              simp [e1, e2, k4]; omega
            · exact ⟨true, fun k => by simp only [spec_l08OK.j0, if_neg k0, if_neg k1, if_neg k2, if_neg k3, if_neg k4], by simp [k3, k4]⟩
        · refine ⟨true, fun k => ?_, by simp [e2]⟩
          simp only [spec_l08OK.j0, if_neg k0, if_neg k1, if_neg k2, if_pos e1, if_neg e2]
          by_cases k3 : x.f0 = 3
          · rw [if_pos k3]
          · rw [if_neg k3]; by_cases k4 : x.f0 = 4
            · rw [if_pos k4]
            · rw [if_neg k4]
      · refine ⟨true, fun k => ?_, by simp [e1]⟩
        simp only [spec_l08OK.j0, if_neg k0, if_neg k1, if_neg k2, if_neg e1]
        by_cases k3 : x.f0 = 3
        · rw [if_pos k3]
        · rw [if_neg k3]; by_cases k4 : x.f0 = 4
          · rw [if_pos k4]
          · rw [if_neg k4]
    by_cases hN : NodeOK x
    case neg =>
      have : q = true := by cases q with
        | true => rfl
        | false => exact absurd (hq'.1 rfl) hN
      subst this
      exact ⟨0, false, start _ _ (ev_step ⟨0, fun k _ => hq k⟩ (bad hN)), ⟨fun h => qa94, fun h => absurd h.1.2.1 hN⟩, fun h => qa94⟩
    have q0 := hq'.2 hN
    subst q0
    have hN' := node.1 hN
    have hlen : ∀ j, j < x.f4.length → x.f0 = 4 → j < x.f3.length := by
      intro j hj h4'
      rcases hN'.2.2 with f | f
      · omega
      · omega
    obtain ⟨r, ⟨hr1, hr2⟩, he⟩ := state_loop2 (ρ := Int × Bool) x.f4.length (fun k s i => spec_l08OK.l0 k (d : Int) s i x.f0 x.f1 x.f2 x.f3 x.f4)
      (fun j s => s = 1 + (((x.f4.take j).map (cntO n)).sum : Int) ∧ s ≤ 4000 ∧ ∀ i, i < j → (x.f0 = 4 → KeyOK x i) ∧ RtO n (d - 1) (x.f4.getD i z46))
      (fun r => (r.2 = true ↔ (∀ i, i < x.f4.length → (x.f0 = 4 → KeyOK x i) ∧ RtO n (d - 1) (x.f4.getD i z46)) ∧ cntO (n + 1) x ≤ 4000) ∧ (r.2 = true → r.1 = (cntO (n + 1) x : Int)))
      (fun s hi => by
        have e : cntO (n + 1) x = 1 + ((x.f4.take x.f4.length).map (cntO n)).sum := by rw [psum_len]; rfl
        refine ⟨(s, true), ⟨⟨fun _ => ⟨hi.2.2, qa22⟩, fun _ => rfl⟩, fun _ => by show s = _; omega⟩, ev_now ⟨0, fun k _ => by simp only [spec_l08OK.l0]; rw [if_neg qa22]⟩⟩)
      (fun j s hj hi => by
        obtain ⟨i1, i2, i3⟩ := hi
        have hm := getD_mem x.f4 z46 j hj
        have no : (¬ (x.f0 = 4 → KeyOK x j)) → Ev (fun k => spec_l08OK.l0 k (d : Int) s (j : Int) x.f0 x.f1 x.f2 x.f3 x.f4) (0, false) → ∃ r : Int × Bool, ((r.2 = true ↔ (∀ i, i < x.f4.length → (x.f0 = 4 → KeyOK x i) ∧ RtO n (d - 1) (x.f4.getD i z46)) ∧ cntO (n + 1) x ≤ 4000) ∧ (r.2 = true → r.1 = (cntO (n + 1) x : Int))) ∧ Ev (fun k => spec_l08OK.l0 k (d : Int) s (j : Int) x.f0 x.f1 x.f2 x.f3 x.f4) r :=
          fun hn he => ⟨(0, false), ⟨⟨fun h => qa94, fun h => absurd (h.1 j hj).1 hn⟩, fun h => qa94⟩, he⟩
        -- behind the key
        have item : (x.f0 = 4 → KeyOK x j) → ∀ (m : Nat), (∃ K, ∀ k, K ≤ k → spec_l08OK.l0 (k + m) (d : Int) s (j : Int) x.f0 x.f1 x.f2 x.f3 x.f4 = spec_l08OK.j3 k (d : Int) s (j : Int) false x.f0 x.f1 x.f2 x.f3 x.f4) → 0 < m →
            (∃ r : Int × Bool, ((r.2 = true ↔ (∀ i, i < x.f4.length → (x.f0 = 4 → KeyOK x i) ∧ RtO n (d - 1) (x.f4.getD i z46)) ∧ cntO (n + 1) x ≤ 4000) ∧ (r.2 = true → r.1 = (cntO (n + 1) x : Int))) ∧ Ev (fun k => spec_l08OK.l0 k (d : Int) s (j : Int) x.f0 x.f1 x.f2 x.f3 x.f4) r) ∨
            ∃ s', (s' = 1 + (((x.f4.take (j + 1)).map (cntO n)).sum : Int) ∧ s' ≤ 4000 ∧ ∀ i, i < j + 1 → (x.f0 = 4 → KeyOK x i) ∧ RtO n (d - 1) (x.f4.getD i z46)) ∧ ∀ r, Ev (fun k => spec_l08OK.l0 k (d : Int) s' ((j + 1 : Nat) : Int) x.f0 x.f1 x.f2 x.f3 x.f4) r → Ev (fun k => spec_l08OK.l0 k (d : Int) s (j : Int) x.f0 x.f1 x.f2 x.f3 x.f4) r := by
          intro hk m ⟨K1, hK1⟩ hm0
          have hw : wrap64 ((d : Int) - 1) = ((d - 1 : Nat) : Int) := by unfold wrap64; omega
          obtain ⟨c, b, e, hb, hc⟩ := ih (x.f4.getD j z46) (d - 1) (h5 _ hm) qa22
          obtain ⟨K2, hK2⟩ := ev_at e
          have ps := psum_succ (cntO n) x.f4 z46 j hj
          have hle := psum_le (cntO n) x.f4 (j + 1)
          have hcn : cntO (n + 1) x = 1 + (x.f4.map (cntO n)).sum := rfl
          have fail : (¬ (RtO n (d - 1) (x.f4.getD j z46) ∧ cntO (n + 1) x ≤ 4000)) → (∃ K, ∀ k, K ≤ k → spec_l08OK.j3 (k + 1) (d : Int) s (j : Int) false x.f0 x.f1 x.f2 x.f3 x.f4 = some (0, false)) → (∃ r : Int × Bool, ((r.2 = true ↔ (∀ i, i < x.f4.length → (x.f0 = 4 → KeyOK x i) ∧ RtO n (d - 1) (x.f4.getD i z46)) ∧ cntO (n + 1) x ≤ 4000) ∧ (r.2 = true → r.1 = (cntO (n + 1) x : Int))) ∧ Ev (fun k => spec_l08OK.l0 k (d : Int) s (j : Int) x.f0 x.f1 x.f2 x.f3 x.f4) r) := by
            intro hn ⟨K3, hK3⟩
            refine ⟨(0, false), ⟨⟨fun h => qa94, fun h => absurd ⟨(h.1 j hj).2, h.2⟩ hn⟩, fun h => qa94⟩, ev_mk (K1 + K3 + m + 1) fun k hk => ?_⟩
            obtain ⟨p, rfl⟩ : ∃ p, k = (p + 1) + m := ⟨k - m - 1, qa22⟩
            rw [hK1 _ qa22, hK3 _ qa22]
          have e3 : ∀ k, K2 ≤ k → spec_l08OK.j3 (k + 1) (d : Int) s (j : Int) false x.f0 x.f1 x.f2 x.f3 x.f4 = (if b = true then (if (wrap64 (s + c)) > 4000 then (some (0, false)) else (spec_l08OK.l0 k (d : Int) (wrap64 (s + c)) (wrap64 ((j : Int) + 1)) x.f0 x.f1 x.f2 x.f3 x.f4)) else (some (0, false))) := by
            intro k hk
            simp only [spec_l08OK.j3]
            rw [if_neg qa70, if_pos qa22, if_pos qa22, show rd_T46 x.f4 (j : Int) = x.f4.getD j z46 from rfl, hw, hK2 k hk]; rfl
          cases b with
          | false =>
            refine .inl (fail (fun h => ?_) ⟨K2, fun k hk => by rw [e3 k hk]; rfl⟩)
            have := hb.2 ⟨h.1, qa22⟩
            cases this
          | true =>
            obtain ⟨g1, g2⟩ := hb.1 rfl
            have hc' := hc rfl
            have hw2 : wrap64 (s + c) = s + c := by unfold wrap64; omega
            by_cases h40 : s + c > 4000
            · exact .inl (fail (fun h => by omega) ⟨K2, fun k hk => by rw [e3 k hk, hw2, if_pos h40]; rfl⟩)
            · refine .inr ⟨s + c, ⟨qa22, qa22, fun i hi => ?_⟩, fun r hr => ev_shift (m + 1) ⟨K1 + K2, fun k hk => ?_⟩ hr⟩
              · rcases Nat.lt_or_eq_of_le (Nat.le_of_lt_succ hi) with h' | rfl
                · exact i3 i h'
                · exact ⟨hk, g1⟩
              · rw [show k + (m + 1) = (k + 1) + m by omega, hK1 _ qa22, e3 k qa22, hw2, if_neg h40, wsucc hj qa22]; rfl
        by_cases k4 : x.f0 = 4
        · have hj3 := hlen j hj k4
          have hsz := h3' _ (getD_mem x.f3 ByteArray.empty j hj3)
          obtain ⟨t1, e1, _, ht1⟩ := names_ev (x.f3.getD j ByteArray.empty) hsz
          obtain ⟨K1, hK1⟩ := ev_at e1
          have hrd : rdOf ByteArray.empty x.f3 (j : Int) = x.f3.getD j ByteArray.empty := rfl
          cases t1 with
          | false =>
            refine .inl (no (fun h => by cases ht1.2 (h k4).1) (ev_mk (K1 + 2) fun k hk => ?_))
            obtain ⟨m, rfl⟩ : ∃ m, k = m + 2 := ⟨k - 2, qa22⟩
            simp only [spec_l08OK.l0, spec_l08OK.j3]
            rw [if_pos qa22, if_pos k4, if_pos qa22, if_pos qa22, hrd, hK1 (m + 1) qa22]; rfl
          | true =>
            obtain ⟨t2, e2, ht2⟩ := spec_in_text (x.f3.take j) (x.f3.getD j ByteArray.empty) (by rw [List.length_take]; omega)
            obtain ⟨K2, hK2⟩ := ev_at e2
            have hl0 : ∀ k, K1 + K2 ≤ k → spec_l08OK.l0 (k + 1) (d : Int) s (j : Int) x.f0 x.f1 x.f2 x.f3 x.f4 = spec_l08OK.j3 k (d : Int) s (j : Int) t2 x.f0 x.f1 x.f2 x.f3 x.f4 := by
              intro k hk
              simp only [spec_l08OK.l0]
              rw [if_pos qa22, if_pos k4, if_pos qa22, if_pos qa22, hrd, hK1 k qa22]; simp only [Option.bind_some, if_true]
              rw [if_pos qa22, Int.toNat_natCast, hK2 k qa22]; rfl
            have htk : ∀ i, i < j → (x.f3.take j).getD i ByteArray.empty = x.f3.getD i ByteArray.empty := by
              intro i hi
              rw [List.getD_eq_getElem?_getD, List.getD_eq_getElem?_getD, List.getElem?_take_of_lt hi]
            cases t2 with
            | true =>
              refine .inl (no (fun h => ?_) (ev_mk (K1 + K2 + 2) fun k hk => ?_))
              · obtain ⟨i, hi, e⟩ := ht2.1 rfl
                rw [List.length_take] at hi
                rw [htk i qa22] at e
                exact (h k4).2 i qa22 e
              · obtain ⟨m, rfl⟩ : ∃ m, k = m + 2 := ⟨k - 2, qa22⟩
                rw [hl0 (m + 1) qa22]; simp only [spec_l08OK.j3]; rfl
            | false =>
              have hk : x.f0 = 4 → KeyOK x j := fun _ => ⟨ht1.1 rfl, fun i hi e => by
                have := ht2.2 ⟨i, by rw [List.length_take]; omega, by rw [htk i hi]; exact e⟩
                cases this⟩
              rcases item hk 1 ⟨K1 + K2, hl0⟩ qa22 with h | h
              · exact .inl h
              · exact .inr h
        · have hk : x.f0 = 4 → KeyOK x j := fun h => absurd h k4
          rcases item hk 1 ⟨0, fun k _ => by simp only [spec_l08OK.l0]; rw [if_pos qa22, if_neg k4]⟩ qa22 with h | h
          · exact .inl h
          · exact .inr h) 0 1 qa22 ⟨qa70, qa22, fun i hi => by omega⟩
    refine ⟨r.1, r.2, start _ _ (ev_step ⟨0, fun k _ => hq k⟩ (ev_step ⟨0, fun k _ => by simp only [spec_l08OK.j1]; rw [if_neg qa70]; rfl⟩ he)), hr1.trans ⟨fun h => ⟨⟨qa22, hN, fun j hj => ?_, fun y hy => ?_⟩, h.2⟩, fun h => ⟨fun i hi => ⟨fun h4' => h.1.2.2.1 i (hlen i hi h4'), h.1.2.2.2 _ (getD_mem x.f4 _ i hi)⟩, h.2⟩⟩, hr2⟩
    · rcases hN'.2.2 with f | f
      · omega
      · exact (h.1 j qa22).1 f.1
    · obtain ⟨i, hi, rfl⟩ := List.getElem_of_mem hy
      have := (h.1 i hi).2
      rw [List.getD_eq_getElem?_getD, List.getElem?_eq_getElem hi] at this
      exact this
/-- The program's answer. -/
theorem impl_ok : ∀ (n : Nat) (x : S46) (d rm : Nat), SmO n x → d ≤ 20 → rm ≤ 4000 → ∃ b r, Ev (fun k => impl_Out_okAt.f k x.f0 x.f1 x.f2 x.f3 x.f4 (20 - (d : Int)) (rm : Int)) (b, r) ∧ (b = true ↔ RtO n d x ∧ cntO n x ≤ rm) ∧ (b = true → r = (rm : Int) - (cntO n x : Int)) := by
  intro n
  induction n with
  | zero => intro x d rm h; exact h.elim
  | succ n ih =>
    intro x d rm hs hd hrm
    obtain ⟨h2, ⟨h3, h3'⟩, h4, h5⟩ := hs
    have hw : wrap64 ((rm : Int) - 1) = (rm : Int) - 1 := by unfold wrap64; omega
    have hcn : cntO (n + 1) x = 1 + (x.f4.map (cntO n)).sum := rfl
    have fail : (¬ (RtO (n + 1) d x ∧ cntO (n + 1) x ≤ rm)) → Ev (fun k => impl_Out_okAt.f k x.f0 x.f1 x.f2 x.f3 x.f4 (20 - (d : Int)) (rm : Int)) (false, (rm : Int) - 1) → ∃ b r, Ev (fun k => impl_Out_okAt.f k x.f0 x.f1 x.f2 x.f3 x.f4 (20 - (d : Int)) (rm : Int)) (b, r) ∧ (b = true ↔ RtO (n + 1) d x ∧ cntO (n + 1) x ≤ rm) ∧ (b = true → r = (rm : Int) - (cntO (n + 1) x : Int)) :=
      fun hn he => ⟨false, _, he, ⟨fun h => qa94, fun h => absurd h hn⟩, fun h => qa94⟩
    by_cases hr0 : rm = 0
    · refine fail (fun h => by omega) (ev_mk 2 fun k hk => ?_)
      obtain ⟨m, rfl⟩ : ∃ m, k = m + 2 := ⟨k - 2, qa22⟩
      simp only [impl_Out_okAt.f, impl_Out_okAt.j0, if_true]
      rw [hw, if_pos qa22]
    by_cases hz : d = 0
    · refine fail (fun h => by have := h.1.1; omega) (ev_mk 2 fun k hk => ?_)
      obtain ⟨m, rfl⟩ : ∃ m, k = m + 2 := ⟨k - 2, qa22⟩
      simp only [impl_Out_okAt.f, impl_Out_okAt.j0, if_true]
      rw [hw, if_neg qa22, if_pos qa22]
    obtain ⟨b, eb, hb⟩ := right_ok x h2
    obtain ⟨K, hK⟩ := ev_at eb
    have head : ∀ k, K ≤ k → impl_Out_okAt.f (k + 1) x.f0 x.f1 x.f2 x.f3 x.f4 (20 - (d : Int)) (rm : Int) = impl_Out_okAt.j0 k (20 - (d : Int)) (!b) ((rm : Int) - 1) x.f0 x.f1 x.f2 x.f3 x.f4 := by
      intro k hk
      simp only [impl_Out_okAt.f]
      rw [hw, if_neg qa22, if_neg qa22, hK k hk]; rfl
    cases b with
    | false =>
      refine fail (fun h => by cases hb.2 h.1.2.1) (ev_mk (K + 2) fun k hk => ?_)
      obtain ⟨m, rfl⟩ : ∃ m, k = m + 2 := ⟨k - 2, qa22⟩
      rw [head (m + 1) qa22]; simp only [impl_Out_okAt.j0]; rfl
    | true =>
      have hN := hb.1 rfl
      -- the items
      obtain ⟨r, ⟨hr1, hr2⟩, he⟩ := state_loop2 (ρ := Bool × Int) x.f4.length (fun k s i => impl_Out_okAt.l1 k (20 - (d : Int)) x.f4 (x.f4.length : Int) i s)
        (fun j s => s = (rm : Int) - 1 - (((x.f4.take j).map (cntO n)).sum : Int) ∧ 0 ≤ s ∧ ∀ i, i < j → RtO n (d - 1) (x.f4.getD i z46))
        (fun r => (r.1 = true ↔ (∀ i, i < x.f4.length → RtO n (d - 1) (x.f4.getD i z46)) ∧ cntO (n + 1) x ≤ rm) ∧ (r.1 = true → r.2 = (rm : Int) - (cntO (n + 1) x : Int)))
        (fun s hi => by
          have e : ((x.f4.take x.f4.length).map (cntO n)).sum = (x.f4.map (cntO n)).sum := psum_len _ _
          exact ⟨(true, s), ⟨⟨fun _ => ⟨hi.2.2, qa22⟩, fun _ => rfl⟩, fun _ => by show s = _; omega⟩, ev_now ⟨0, fun k _ => by simp only [impl_Out_okAt.l1]; rw [if_neg qa22]⟩⟩)
        (fun j s hj hi => by
          obtain ⟨i1, i2, i3⟩ := hi
          have hm := getD_mem x.f4 z46 j hj
          have ps := psum_succ (cntO n) x.f4 z46 j hj
          have hle := psum_le (cntO n) x.f4 (j + 1)
          have hw2 : wrap64 (20 - (d : Int) + 1) = 20 - ((d - 1 : Nat) : Int) := by unfold wrap64; omega
          obtain ⟨c, t, e, hc, ht⟩ := ih (x.f4.getD j z46) (d - 1) s.toNat (h5 _ hm) qa22 qa22
          rw [show ((s.toNat : Nat) : Int) = s by omega] at e ht
          obtain ⟨K2, hK2⟩ := ev_at e
          have step : ∀ k, K2 ≤ k → impl_Out_okAt.l1 (k + 1) (20 - (d : Int)) x.f4 (x.f4.length : Int) (j : Int) s = if c = true then impl_Out_okAt.l1 k (20 - (d : Int)) x.f4 (x.f4.length : Int) ((j + 1 : Nat) : Int) t else some (false, t) := by
            intro k hk
            simp only [impl_Out_okAt.l1]
            rw [if_pos qa22, if_pos qa22, if_pos qa22, show rd_T46 x.f4 (j : Int) = x.f4.getD j z46 from rfl, hw2, hK2 k hk]; simp only [Option.bind_some]; rw [wsucc hj qa22]
          cases c with
          | false =>
            refine .inl ⟨(false, t), ⟨⟨fun h => qa94, fun h => ?_⟩, fun h => qa94⟩, ev_now ⟨K2, fun k hk => by rw [step k hk]; rfl⟩⟩
            have := hc.2 ⟨h.1 j hj, qa22⟩
            cases this
          | true =>
            obtain ⟨g1, g2⟩ := hc.1 rfl
            have ht' := ht rfl
            refine .inr ⟨t, ⟨qa22, qa22, fun i hi => ?_⟩, fun r hr => ev_shift 1 ⟨K2, fun k hk => by rw [step k hk]; rfl⟩ hr⟩
            rcases Nat.lt_or_eq_of_le (Nat.le_of_lt_succ hi) with h' | rfl
            · exact i3 i h'
            · exact g1) 0 ((rm : Int) - 1) qa22 ⟨qa70, qa22, fun i hi => by omega⟩
      obtain ⟨K2, hK2⟩ := ev_at he
      -- the keys
      have all : ∃ q : Bool × Int, (q.1 = true ↔ (∀ j, j < x.f3.length → KeyOK x j) ∧ (∀ i, i < x.f4.length → RtO n (d - 1) (x.f4.getD i z46)) ∧ cntO (n + 1) x ≤ rm) ∧ (q.1 = true → q.2 = (rm : Int) - (cntO (n + 1) x : Int)) ∧ Ev (fun k => impl_Out_okAt.l0 k (20 - (d : Int)) x.f3 (x.f3.length : Int) 0 ((rm : Int) - 1) x.f0 x.f1 x.f2 x.f3 x.f4) q := by
        obtain ⟨q, ⟨hq1, hq2⟩, hq⟩ := state_loop2 (σ := Unit) (ρ := Bool × Int) x.f3.length (fun k _ i => impl_Out_okAt.l0 k (20 - (d : Int)) x.f3 (x.f3.length : Int) i ((rm : Int) - 1) x.f0 x.f1 x.f2 x.f3 x.f4)
          (fun j _ => ∀ i, i < j → KeyOK x i)
          (fun q => (q.1 = true ↔ (∀ j, j < x.f3.length → KeyOK x j) ∧ (∀ i, i < x.f4.length → RtO n (d - 1) (x.f4.getD i z46)) ∧ cntO (n + 1) x ≤ rm) ∧ (q.1 = true → q.2 = (rm : Int) - (cntO (n + 1) x : Int)))
          (fun _ hi => ⟨r, ⟨hr1.trans ⟨fun h => ⟨hi, h⟩, fun h => h.2⟩, hr2⟩, ev_now ⟨K2, fun k hk => by simp only [impl_Out_okAt.l0]; rw [if_neg qa22]; exact hK2 k hk⟩⟩)
          (fun j _ hj hi => by
            have hsz := h3' _ (getD_mem x.f3 ByteArray.empty j hj)
            obtain ⟨t1, _, e1, ht1⟩ := names_ev (x.f3.getD j ByteArray.empty) hsz
            obtain ⟨K1, hK1⟩ := ev_at e1
            have hrd : rdOf ByteArray.empty x.f3 (j : Int) = x.f3.getD j ByteArray.empty := rfl
            have no : (¬ KeyOK x j) → Ev (fun k => impl_Out_okAt.l0 k (20 - (d : Int)) x.f3 (x.f3.length : Int) (j : Int) ((rm : Int) - 1) x.f0 x.f1 x.f2 x.f3 x.f4) (false, (rm : Int) - 1) → ∃ q : Bool × Int, ((q.1 = true ↔ (∀ j, j < x.f3.length → KeyOK x j) ∧ (∀ i, i < x.f4.length → RtO n (d - 1) (x.f4.getD i z46)) ∧ cntO (n + 1) x ≤ rm) ∧ (q.1 = true → q.2 = (rm : Int) - (cntO (n + 1) x : Int))) ∧ Ev (fun k => impl_Out_okAt.l0 k (20 - (d : Int)) x.f3 (x.f3.length : Int) (j : Int) ((rm : Int) - 1) x.f0 x.f1 x.f2 x.f3 x.f4) q :=
              fun hn he => ⟨(false, (rm : Int) - 1), ⟨⟨fun h => qa94, fun h => absurd (h.1 j hj) hn⟩, fun h => qa94⟩, he⟩
            have hget : x.f3[j]? = some (x.f3.getD j ByteArray.empty) := by rw [List.getD_eq_getElem?_getD, List.getElem?_eq_getElem hj]; rfl
            have step : ∀ k, K1 ≤ k → impl_Out_okAt.l0 (k + 1) (20 - (d : Int)) x.f3 (x.f3.length : Int) (j : Int) ((rm : Int) - 1) x.f0 x.f1 x.f2 x.f3 x.f4 = if t1 = true then (if (x.f3.take j).any (fun z => z.data.toList == (x.f3.getD j ByteArray.empty).data.toList) = true then some (false, (rm : Int) - 1) else impl_Out_okAt.l0 k (20 - (d : Int)) x.f3 (x.f3.length : Int) ((j + 1 : Nat) : Int) ((rm : Int) - 1) x.f0 x.f1 x.f2 x.f3 x.f4) else some (false, (rm : Int) - 1) := by
              intro k hk
              simp only [impl_Out_okAt.l0]
              rw [if_pos qa22, if_pos qa22, if_pos qa22, hrd, hK1 k hk]; simp only [Option.bind_some, Int.toNat_natCast]
              rw [if_pos (show (x.f3.getD j ByteArray.empty).size ≤ 9223372036854775807 ∧ (j : Int) < 4611686018427387904 by omega), wsucc hj qa22]
            cases t1 with
            | false => exact .inl (no (fun h => by cases ht1.2 h.1) (ev_now ⟨K1, fun k hk => by rw [step k hk]; rfl⟩))
            | true =>
              have hany : (x.f3.take j).any (fun z => z.data.toList == (x.f3.getD j ByteArray.empty).data.toList) = true ↔ ∃ i, i < j ∧ (x.f3.getD i ByteArray.empty).toList = (x.f3.getD j ByteArray.empty).toList := by
                rw [List.any_eq_true]
                constructor
                · rintro ⟨z, hz, e⟩
                  obtain ⟨i, hi, rfl⟩ := List.getElem_of_mem hz
                  rw [List.length_take] at hi
                  refine ⟨i, qa22, ?_⟩
                  rw [List.getElem_take] at e
                  rw [toList_data, toList_data, List.getD_eq_getElem?_getD, List.getElem?_eq_getElem (show i < x.f3.length by omega)]
                  exact eq_of_beq e
                · rintro ⟨i, hi, e⟩
                  refine ⟨x.f3.getD i ByteArray.empty, ?_, ?_⟩
                  · rw [List.mem_take_iff_getElem]
                    exact ⟨i, qa22, by rw [List.getD_eq_getElem?_getD, List.getElem?_eq_getElem (show i < x.f3.length by omega)]; rfl⟩
                  · rw [toList_data, toList_data] at e
                    rw [e]; exact beq_self_eq_true _
              by_cases ha : (x.f3.take j).any (fun z => z.data.toList == (x.f3.getD j ByteArray.empty).data.toList) = true
              · refine .inl (no (fun h => ?_) (ev_now ⟨K1, fun k hk => by rw [step k hk, if_pos rfl, if_pos ha]⟩))
                obtain ⟨i, hi, e⟩ := hany.1 ha
                exact h.2 i hi e
              · refine .inr ⟨(), fun i hi' => ?_, fun r hr => ev_shift 1 ⟨K1, fun k hk => by rw [step k hk, if_pos rfl, if_neg ha]⟩ hr⟩
                rcases Nat.lt_or_eq_of_le (Nat.le_of_lt_succ hi') with h' | rfl
                · exact hi i h'
                · exact ⟨ht1.1 rfl, fun i' hi2 e => ha (hany.2 ⟨i', hi2, e⟩)⟩) 0 () qa22 (fun i hi => by omega)
        exact ⟨q, hq1, hq2, hq⟩
      obtain ⟨q, hq1, hq2, hq⟩ := all
      obtain ⟨K3, hK3⟩ := ev_at hq
      refine ⟨q.1, q.2, ev_mk (K + K3 + 2) fun k hk => ?_, hq1.trans ⟨fun h => ⟨⟨qa22, hN, h.1, fun y hy => ?_⟩, h.2.2⟩, fun h => ⟨h.1.2.2.1, fun i hi => h.1.2.2.2 _ (getD_mem x.f4 _ i hi), h.2⟩⟩, hq2⟩
      · obtain ⟨m, rfl⟩ : ∃ m, k = m + 2 := ⟨k - 2, qa22⟩
        rw [head (m + 1) qa22]; simp only [impl_Out_okAt.j0, Bool.not_true]
        rw [if_neg qa70]; exact hK3 m qa22
      · obtain ⟨i, hi, rfl⟩ := List.getElem_of_mem hy
        have := h.2.1 i hi
        rw [List.getD_eq_getElem?_getD, List.getElem?_eq_getElem hi] at this
        exact this
theorem outs_agree (n : Nat) (x : S46) (h : SmO n x) : ∃ b, Ev (fun k => spec_OutOK.f k x.f0 x.f1 x.f2 x.f3 x.f4) b ∧ Ev (fun k => impl_OutOK.f k x.f0 x.f1 x.f2 x.f3 x.f4) b ∧ (b = true ↔ RtO n 20 x ∧ cntO n x ≤ 4000) := by
  obtain ⟨c, b, e, hb, _⟩ := spec_ok n x 20 h qa22
  obtain ⟨b', r, e', hb', _⟩ := impl_ok n x 20 4000 h qa22 qa22
  have : b' = b := by rw [Bool.eq_iff_iff, hb, hb']
  subst this
  obtain ⟨K, hK⟩ := ev_at e
  obtain ⟨K', hK'⟩ := ev_at e'
  exact ⟨b', ev_mk K fun k hk => by unfold spec_OutOK.f; rw [show (20 : Int) = ((20 : Nat) : Int) from rfl, hK k hk]; rfl, ev_mk K' fun k hk => by unfold impl_OutOK.f; rw [show (0 : Int) = 20 - ((20 : Nat) : Int) from rfl, show (4000 : Int) = ((4000 : Nat) : Int) from rfl, hK' k hk]; rfl, hb⟩
end Go.Proofs.Ytfpkooafbeejmaa.Pure2
namespace Go.Proofs.Ytfpkooafbeejmaa.Pure2
open Go.RowKit Go.Proofs.Ytfpkooafbeejmaa.Q Go.Proofs.YtfpkooafbeejmaaW.PrintWords Go.Proofs.YtfpkooafbeejmaaW.PrintLast
set_option linter.unusedVariables false
set_option linter.unusedSimpArgs false
/-! the text of a right answer tells it -/
theorem app_toList (a b : ByteArray) : (a ++ b).toList = a.toList ++ b.toList := by rw [toList_data, toList_data, toList_data]; simp
theorem lit_toList (l : List UInt8) : (⟨l.toArray⟩ : ByteArray).toList = l := by rw [toList_data]
theorem size_toList (s : ByteArray) : s.toList.length = s.size := by rw [toList_data]; exact Array.length_toList ..
theorem toList_inj {a b : ByteArray} (h : a.toList = b.toList) : a = b := by
  rw [toList_data, toList_data] at h
  cases a; cases b
  congr 1
  exact Array.toList_inj.1 h
def decD (u : Nat) : List UInt8 := if h : u < 10 then [UInt8.ofNat (48 + u)] else decD (u / 10) ++ [UInt8.ofNat (48 + u % 10)]
termination_by u
decreasing_by omega
def valD (l : List UInt8) : Nat := l.foldl (fun a c => 10 * a + (c.toNat - 48)) 0
def IsDg (c : UInt8) : Prop := 48 ≤ c.toNat ∧ c.toNat ≤ 57
theorem ofNat_dg (v : Nat) (h : v < 10) : (UInt8.ofNat (48 + v)).toNat = 48 + v := by simp; omega
theorem val_dec : ∀ u : Nat, valD (decD u) = u ∧ (∀ c ∈ decD u, IsDg c) ∧ decD u ≠ [] := by
  intro u
  induction u using Nat.strongRecOn with
  | _ u ih =>
    rw [decD]
    by_cases h : u < 10
    · rw [dif_pos h]
      have e := ofNat_dg u h
      refine ⟨by simp only [valD, List.foldl_cons, List.foldl_nil, e]; omega, fun c hc => ?_, qa70⟩
      rw [List.mem_singleton.1 hc]; unfold IsDg; omega
    · rw [dif_neg h]
      obtain ⟨h1, h2, h3⟩ := ih (u / 10) qa22
      have e := ofNat_dg (u % 10) qa22
      refine ⟨?_, fun c hc => ?_, qa70⟩
      · unfold valD at h1 ⊢
        rw [List.foldl_append, h1]; simp only [List.foldl_cons, List.foldl_nil, e]; omega
      · rcases List.mem_append.1 hc with hc | hc
        · exact h2 c hc
        · rw [List.mem_singleton.1 hc]; unfold IsDg; omega
theorem dec_len : ∀ u : Nat, (decD u).length ≤ u + 1 := by
  intro u
  induction u using Nat.strongRecOn with
  | _ u ih =>
    rw [decD]
    by_cases h : u < 10
    · rw [dif_pos h]; simp
    · rw [dif_neg h, List.length_append]
      have := ih (u / 10) qa22
      simp only [List.length_cons, List.length_nil]; omega
def itoaD (n : Int) : List UInt8 := if n < 0 then 45 :: decD n.natAbs else decD n.toNat
theorem spec_dec : ∀ u : Nat, u ≤ 2147483648 → Ev (fun k => spec_l00Digits.f k (u : Int)) ⟨(decD u).toArray⟩ := by
  intro u
  induction u using Nat.strongRecOn with
  | _ u ih =>
    intro hu
    rw [decD]
    by_cases h : u < 10
    · rw [dif_pos h]
      refine ev_now ⟨0, fun k _ => ?_⟩
      simp only [spec_l00Digits.f]
      rw [if_neg qa22, if_neg qa22, if_pos qa22]
      have e : wrap64 (48 + (u : Int)) % 256 = ((48 + u : Nat) : Int) := by unfold wrap64; omega
      rw [e]
      rfl
    · rw [dif_neg h]
      obtain ⟨K, h1⟩ := ev_at (ih (u / 10) qa22 qa22)
      have hl := dec_len (u / 10)
      refine ev_mk (K + 1) fun k hk => ?_
      obtain ⟨m, rfl⟩ : ∃ m, k = m + 1 := ⟨k - 1, qa22⟩
      have e2 : wrap64 (Int.tdiv (u : Int) 10) = ((u / 10 : Nat) : Int) := by rw [Int.tdiv_eq_ediv_of_nonneg qa22]; unfold wrap64; omega
      have e3 : wrap64 (48 + Int.tmod (u : Int) 10) % 256 = ((48 + u % 10 : Nat) : Int) := by rw [Int.tmod_eq_emod_of_nonneg qa22]; unfold wrap64; omega
      simp only [spec_l00Digits.f]
      rw [if_neg qa22, if_neg qa22, if_neg qa22, e2, h1 m qa22, e3]
      simp only [Option.bind_some]
      have e4 : strOfNums [((48 + u % 10 : Nat) : Int)] = ⟨[UInt8.ofNat (48 + u % 10)].toArray⟩ := rfl
      rw [e4, if_pos (by show (decD (u / 10)).toArray.size + [UInt8.ofNat (48 + u % 10)].toArray.size ≤ _; simp; omega)]
      first | (congr 1; done) | (congr 1; apply ByteArray.ext; simp)
theorem spec_itoa (n : Int) (h0 : -2147483648 ≤ n) (h1 : n ≤ 2147483647) : Ev (fun k => spec_l00Digits.f k n) ⟨(itoaD n).toArray⟩ := by
  unfold itoaD
  by_cases h : n < 0
  · rw [if_pos h]
    obtain ⟨K, k1⟩ := ev_at (spec_dec n.natAbs qa22)
    have hl := dec_len n.natAbs
    refine ev_mk (K + 1) fun k hk => ?_
    obtain ⟨m, rfl⟩ : ∃ m, k = m + 1 := ⟨k - 1, qa22⟩
    have e2 : wrap64 (-n) = (n.natAbs : Int) := by unfold wrap64; omega
    simp only [spec_l00Digits.f]
    rw [if_neg qa22, if_pos h, e2, k1 m qa22]
    simp only [Option.bind_some]
    rw [if_pos (by show 1 + (decD n.natAbs).toArray.size ≤ _; simp; omega)]
    first | (congr 1; done) | (congr 1; apply ByteArray.ext; simp)
  · rw [if_neg h]
    have e1 := spec_dec n.toNat qa22
    rw [show (n.toNat : Int) = n by omega] at e1
    exact e1
theorem itoa_len (n : Int) (h0 : -2147483648 ≤ n) (h1 : n ≤ 2147483647) : (itoaD n).length ≤ 2147483650 := by
  unfold itoaD
  by_cases h : n < 0
  · rw [if_pos h]; have := dec_len n.natAbs; simp only [List.length_cons]; omega
  · rw [if_neg h]; have := dec_len n.toNat; omega
theorem itoa_chars (n : Int) : ∀ c ∈ itoaD n, c = 45 ∨ IsDg c := by
  unfold itoaD
  by_cases h : n < 0
  · rw [if_pos h]
    intro c hc
    rcases List.mem_cons.1 hc with hc | hc
    · exact .inl hc
    · exact .inr ((val_dec _).2.1 c hc)
  · rw [if_neg h]; exact fun c hc => .inr ((val_dec _).2.1 c hc)
theorem itoa_ne (n : Int) : itoaD n ≠ [] := by
  unfold itoaD
  by_cases h : n < 0
  · rw [if_pos h]; simp
  · rw [if_neg h]; exact (val_dec _).2.2
theorem itoa_inj (a b : Int) (h : itoaD a = itoaD b) : a = b := by
  have nd : ∀ u v : Nat, (45 : UInt8) :: decD u = decD v → False := by
    intro u v e
    have := (val_dec v).2.1 45 (by rw [← e]; simp)
    unfold IsDg at this
    have h45 : (45 : UInt8).toNat = 45 := rfl
    omega
  have eq : ∀ u v : Nat, decD u = decD v → u = v := fun u v e => by rw [← (val_dec u).1, ← (val_dec v).1, e]
  unfold itoaD at h
  by_cases ha : a < 0 <;> by_cases hb : b < 0
  · rw [if_pos ha, if_pos hb] at h
    have := eq _ _ (List.cons.inj h).2
    omega
  · rw [if_pos ha, if_neg hb] at h; exact (nd _ _ h).elim
  · rw [if_neg ha, if_pos hb] at h; exact (nd _ _ h.symm).elim
  · rw [if_neg ha, if_neg hb] at h
    have := eq _ _ h
    omega
theorem split_at (Q : UInt8 → Prop) : ∀ (p p' r r' : List UInt8), (∀ c ∈ p, Q c) → (∀ c ∈ p', Q c) → (∀ c t, r = c :: t → ¬ Q c) → (∀ c t, r' = c :: t → ¬ Q c) → p ++ r = p' ++ r' → p = p' ∧ r = r'
  | [], [], _, _, _, _, _, _, h => ⟨rfl, h⟩
  | [], c :: p', r, r', _, hp', hr, _, h => absurd (hp' c qa70) (hr c _ h)
  | c :: p, [], r, r', hp, _, _, hr', h => absurd (hp c qa70) (hr' c _ h.symm)
  | c :: p, c' :: p', r, r', hp, hp', hr, hr', h => by
    obtain ⟨e1, e2⟩ := List.cons.inj h
    obtain ⟨e3, e4⟩ := split_at Q p p' r r' (fun x hx => hp x (by simp [hx])) (fun x hx => hp' x (by simp [hx])) hr hr' e2
    exact ⟨by rw [e1, e3], e4⟩
/-- What stands behind a value. -/
def Dl (r : List UInt8) : Prop := ∀ c t, r = c :: t → c = 44 ∨ c = 93 ∨ c = 125
/-- Values with commas between, and the end's mark. -/
def Jn (cl : UInt8) : List (List UInt8) → List UInt8
  | [] => [cl]
  | [a] => a ++ [cl]
  | a :: b :: l => a ++ 44 :: Jn cl (b :: l)
def joinC : List (List UInt8) → List UInt8
  | [] => []
  | [a] => a
  | a :: b :: l => a ++ 44 :: joinC (b :: l)
theorem jn_join (cl : UInt8) : ∀ l, Jn cl l = joinC l ++ [cl]
  | [] => rfl
  | [a] => rfl
  | a :: b :: l => by simp only [Jn, joinC]; rw [jn_join cl (b :: l)]; simp
theorem join_snoc : ∀ (l : List (List UInt8)) (a : List UInt8), l ≠ [] → joinC (l ++ [a]) = joinC l ++ 44 :: a
  | [], a, h => absurd rfl h
  | [b], a, _ => rfl
  | b :: c :: l, a, _ => by
    show b ++ 44 :: joinC ((c :: l) ++ [a]) = (b ++ 44 :: joinC (c :: l)) ++ 44 :: a
    rw [join_snoc (c :: l) a qa70]; simp
theorem join_len : ∀ l : List (List UInt8), (joinC l).length ≤ (l.map (fun w => w.length + 1)).sum
  | [] => by simp [joinC]
  | [a] => by simp [joinC]
  | a :: b :: l => by
    have := join_len (b :: l)
    simp only [joinC, List.length_append, List.length_cons, List.map_cons, List.sum_cons] at this ⊢; omega
/-- Values are read back from such a text. -/
theorem jn_inj {α : Type} (t : α → List UInt8) (P : α → Prop) (cl : UInt8) (hcl : cl = 93 ∨ cl = 125) (U : ∀ a b, P a → P b → ∀ r r', Dl r → Dl r' → t a ++ r = t b ++ r' → a = b ∧ r = r') (hd : ∀ a, P a → ∃ c s, t a = c :: s ∧ c ≠ 44 ∧ c ≠ 93 ∧ c ≠ 125) :
    ∀ (L L' : List α) (r r' : List UInt8), (∀ a ∈ L, P a) → (∀ a ∈ L', P a) → Jn cl (L.map t) ++ r = Jn cl (L'.map t) ++ r' → L = L' ∧ r = r' := by
  have dcl : ∀ r, Dl (cl :: r) := fun r c s e => by rw [(List.cons.inj e).1] at hcl; exact .inr hcl
  have d44 : ∀ r, Dl (44 :: r) := fun r c s e => .inl (List.cons.inj e).1.symm
  have n44 : cl ≠ 44 := by rcases hcl with h | h <;> rw [h] <;> decide
  intro L
  induction L with
  | nil =>
    intro L' r r' _ hP' h
    cases L' with
    | nil => exact ⟨rfl, (List.cons.inj h).2⟩
    | cons b l' =>
      obtain ⟨c, s, e, h1, h2, h3⟩ := hd b (hP' b qa70)
      exfalso
      have hc : cl = c := by
        cases l' with
        | nil => simp only [List.map_cons, List.map_nil, Jn, e, List.cons_append, List.nil_append] at h; exact (List.cons.inj h).1
        | cons b' l' => simp only [List.map_cons, List.map_nil, Jn, e, List.cons_append, List.nil_append] at h; exact (List.cons.inj h).1
      rcases hcl with h' | h' <;> rw [← hc, h'] at h2 h3
      · exact h2 rfl
      · exact h3 rfl
  | cons a l ih =>
    intro L' r r' hP hP' h
    cases L' with
    | nil =>
      obtain ⟨c, s, e, h1, h2, h3⟩ := hd a (hP a qa70)
      exfalso
      have hc : c = cl := by
        cases l with
        | nil => simp only [List.map_cons, List.map_nil, Jn, e, List.cons_append, List.nil_append] at h; exact (List.cons.inj h).1
        | cons b' l' => simp only [List.map_cons, List.map_nil, Jn, e, List.cons_append, List.nil_append] at h; exact (List.cons.inj h).1
      rcases hcl with h' | h' <;> rw [hc, h'] at h2 h3
      · exact h2 rfl
      · exact h3 rfl
    | cons b l' =>
      have ha := hP a qa70
      have hb := hP' b qa70
      have hl : ∀ x ∈ l, P x := fun x hx => hP x (by simp [hx])
      have hl' : ∀ x ∈ l', P x := fun x hx => hP' x (by simp [hx])
      cases l with
      | nil =>
        cases l' with
        | nil =>
          simp only [List.map_cons, List.map_nil, Jn, List.append_assoc, List.cons_append, List.nil_append] at h
          obtain ⟨e1, e2⟩ := U a b ha hb _ _ (dcl _) (dcl _) h
          exact ⟨by rw [e1], (List.cons.inj e2).2⟩
        | cons b' l' =>
          simp only [List.map_cons, List.map_nil, Jn, List.append_assoc, List.cons_append, List.nil_append] at h
          obtain ⟨e1, e2⟩ := U a b ha hb _ _ (dcl _) (d44 _) h
          exact absurd (List.cons.inj e2).1 n44
      | cons a' l =>
        cases l' with
        | nil =>
          simp only [List.map_cons, List.map_nil, Jn, List.append_assoc, List.cons_append, List.nil_append] at h
          obtain ⟨e1, e2⟩ := U a b ha hb _ _ (d44 _) (dcl _) h
          exact absurd (List.cons.inj e2).1.symm n44
        | cons b' l' =>
          have h' : t a ++ 44 :: (Jn cl ((a' :: l).map t) ++ r) = t b ++ 44 :: (Jn cl ((b' :: l').map t) ++ r') := by
            simpa only [List.map_cons, Jn, List.append_assoc, List.cons_append] using h
          obtain ⟨e1, e2⟩ := U a b ha hb _ _ (d44 _) (d44 _) h'
          obtain ⟨e3, e4⟩ := ih (b' :: l') r r' hl hl' (List.cons.inj e2).2
          exact ⟨by rw [e1, e3], e4⟩
def keyed (t : S46 → List UInt8) (p : ByteArray × S46) : List UInt8 := 34 :: (p.1.toList ++ 34 :: 58 :: t p.2)
/-- The text of an answer. -/
def TX : Nat → S46 → List UInt8
  | 0, _ => []
  | n + 1, x => if x.f0 = 0 then [110, 117, 108, 108] else if x.f0 = 1 then itoaD x.f1 else if x.f0 = 2 then 34 :: (x.f2.toList ++ [34])
    else if x.f0 = 4 then 123 :: Jn 125 ((x.f3.zip x.f4).map (keyed (TX n))) else 91 :: Jn 93 (x.f4.map (TX n))
end Go.Proofs.Ytfpkooafbeejmaa.Pure2
namespace Go.Proofs.Ytfpkooafbeejmaa.Pure2
open Go.RowKit Go.Proofs.Ytfpkooafbeejmaa.Q Go.Proofs.YtfpkooafbeejmaaW.PrintWords Go.Proofs.YtfpkooafbeejmaaW.PrintLast
set_option linter.unusedVariables false
set_option linter.unusedSimpArgs false
theorem dg_ne (c : UInt8) (h : c = 45 ∨ IsDg c) (v : UInt8) (hv : 57 < v.toNat ∨ v.toNat < 45) : c ≠ v := by
  rintro rfl
  rcases h with h | h
  · subst h; revert hv; decide
  · unfold IsDg at h; omega
theorem right_parts {n d : Nat} {x : S46} (h : RtO (n + 1) d x) : NodeOK x ∧ (∀ k ∈ x.f3, IsName k) ∧ ∀ y ∈ x.f4, RtO n (d - 1) y := by
  obtain ⟨_, hN, hk, hi⟩ := h
  refine ⟨hN, fun k hk' => ?_, hi⟩
  obtain ⟨i, hi, rfl⟩ := List.getElem_of_mem hk'
  have := (hk i hi).1
  rw [List.getD_eq_getElem?_getD, List.getElem?_eq_getElem hi] at this
  exact this
theorem name_no34 (s : ByteArray) (h : IsName s) : ∀ c ∈ s.toList, c ≠ 34 := by
  intro c hc e
  subst e
  rw [toList_data] at hc
  obtain ⟨i, hi, e⟩ := List.getElem_of_mem hc
  have hi' : i < s.size := by rw [Array.length_toList] at hi; exact hi
  have hb : bt s (i : Int) = 34 := by
    have h1 := bt_at s (i : Int) (by rw [Int.toNat_natCast]; exact hi')
    simp only [Int.toNat_natCast] at h1
    have h2 : s[i]'hi' = 34 := by rw [Array.getElem_toList] at e; exact e
    rw [h2] at h1
    exact h1.symm
  have cl : isL (34 : Int) = false := by unfold isL; decide
  have cd : isD (34 : Int) = false := by unfold isD; decide
  by_cases hz : i = 0
  · subst hz
    have := h.2.2.1
    rw [show (0 : Int) = ((0 : Nat) : Int) from rfl, hb, cl] at this
    cases this
  · rcases h.2.2.2 (i : Int) qa22 qa22 with h1 | h1
    · rw [hb, cl] at h1; cases h1
    · rw [hb, cd] at h1; cases h1
/-- Where a value's text begins. -/
theorem tx_head (n d : Nat) (x : S46) (h : RtO n d x) : ∃ c s, TX n x = c :: s ∧ c ≠ 44 ∧ c ≠ 93 ∧ c ≠ 125 ∧ (x.f0 = 0 ∧ c = 110 ∨ x.f0 = 1 ∧ (c = 45 ∨ IsDg c) ∨ x.f0 = 2 ∧ c = 34 ∨ x.f0 = 4 ∧ c = 123 ∨ x.f0 = 3 ∧ c = 91) := by
  cases n with
  | zero => exact h.elim
  | succ n =>
    have hN := (right_parts h).1
    have hk : x.f0 = 0 ∨ x.f0 = 1 ∨ x.f0 = 2 ∨ x.f0 = 3 ∨ x.f0 = 4 := by
      rcases hN.2.2.2.2 with f | f | f | f <;> omega
    simp only [TX]
    by_cases k0 : x.f0 = 0
    · rw [if_pos k0]; exact ⟨_, _, rfl, qa68, qa68, qa68, .inl ⟨k0, rfl⟩⟩
    rw [if_neg k0]
    by_cases k1 : x.f0 = 1
    · rw [if_pos k1]
      obtain ⟨c, s, e⟩ := List.exists_cons_of_ne_nil (itoa_ne x.f1)
      have hc := itoa_chars x.f1 c (by rw [e]; simp)
      exact ⟨c, s, e, dg_ne c hc _ qa68, dg_ne c hc _ qa68, dg_ne c hc _ qa68, .inr (.inl ⟨k1, hc⟩)⟩
    rw [if_neg k1]
    by_cases k2 : x.f0 = 2
    · rw [if_pos k2]; exact ⟨_, _, rfl, qa68, qa68, qa68, .inr (.inr (.inl ⟨k2, rfl⟩))⟩
    rw [if_neg k2]
    by_cases k4 : x.f0 = 4
    · rw [if_pos k4]; exact ⟨_, _, rfl, qa68, qa68, qa68, .inr (.inr (.inr (.inl ⟨k4, rfl⟩)))⟩
    · rw [if_neg k4]; exact ⟨_, _, rfl, qa68, qa68, qa68, .inr (.inr (.inr (.inr ⟨qa22, rfl⟩)))⟩
theorem zip_inj {α β : Type} : ∀ (a a' : List α) (b b' : List β), a.length = b.length → a'.length = b'.length → a.zip b = a'.zip b' → a = a' ∧ b = b'
  | [], [], [], [], _, _, _ => ⟨rfl, rfl⟩
  | [], x :: a', [], y :: b', _, _, h => by simp at h
  | x :: a, [], y :: b, [], _, _, h => by simp at h
  | x :: a, x' :: a', y :: b, y' :: b', h1, h2, h => by
    simp only [List.zip_cons_cons, List.cons.injEq, Prod.mk.injEq] at h
    obtain ⟨e1, e2⟩ := zip_inj a a' b b' (by simpa using h1) (by simpa using h2) h.2
    exact ⟨by rw [h.1.1, e1], by rw [h.1.2, e2]⟩
/-- The text is read back. -/
theorem tx_inj : ∀ (n : Nat) (x y : S46) (d e : Nat), RtO n d x → RtO n e y → ∀ r r', Dl r → Dl r' → TX n x ++ r = TX n y ++ r' → x = y ∧ r = r' := by
  intro n
  induction n with
  | zero => intro x y d e h; exact h.elim
  | succ n ih =>
    intro x y d e hx hy r r' hr hr' h
    obtain ⟨cx, sx, ex, _, _, _, gx⟩ := tx_head (n + 1) d x hx
    obtain ⟨cy, sy, ey, _, _, _, gy⟩ := tx_head (n + 1) e y hy
    have hc : cx = cy := by rw [ex, ey] at h; exact (List.cons.inj h).1
    subst hc
    have nd : ∀ c : UInt8, (c = 45 ∨ IsDg c) → c ≠ 110 ∧ c ≠ 34 ∧ c ≠ 123 ∧ c ≠ 91 := by
      intro c hc
      exact ⟨dg_ne c hc _ qa68, dg_ne c hc _ qa68, dg_ne c hc _ qa68, dg_ne c hc _ qa68⟩
    have hk : x.f0 = y.f0 := by
      rcases gx with ⟨a, b⟩ | ⟨a, b⟩ | ⟨a, b⟩ | ⟨a, b⟩ | ⟨a, b⟩ <;> rcases gy with ⟨a', b'⟩ | ⟨a', b'⟩ | ⟨a', b'⟩ | ⟨a', b'⟩ | ⟨a', b'⟩ <;>
        first | (rw [a, a']; done) | (exfalso; rw [b] at b'; revert b'; decide) | (exfalso; have := nd _ b; rw [b'] at this; simp at this; done) | (exfalso; have := nd _ b'; rw [b] at this; simp at this; done)
    obtain ⟨nx, kx, ix⟩ := right_parts hx
    obtain ⟨ny, ky, iy⟩ := right_parts hy
    have ext : x.f1 = y.f1 → x.f2 = y.f2 → x.f3 = y.f3 → x.f4 = y.f4 → x = y := by
      intro e1 e2 e3 e4
      cases x; cases y
      simp only at hk e1 e2 e3 e4
      subst hk e1 e2 e3 e4
      rfl
    have nil2 : ∀ z : S46, NodeOK z → z.f0 ≠ 2 → z.f2 = ⟨#[]⟩ := fun z hz hne => toList_inj (by rw [hz.2.2.1.resolve_left hne, toList_data])
    have nil3 : ∀ z : S46, NodeOK z → z.f0 ≠ 4 → z.f3 = [] := fun z hz hne => List.length_eq_zero_iff.1 (hz.2.2.2.1.resolve_left hne)
    have one1 : ∀ z : S46, NodeOK z → z.f0 ≠ 1 → z.f1 = 0 := fun z hz hne => hz.1.resolve_left hne
    have nil4 : ∀ z : S46, NodeOK z → z.f0 ≠ 3 → z.f0 ≠ 4 → z.f4 = [] := by
      intro z hz h3 h4
      rcases hz.2.2.2.2 with f | f | f | f
      · exact List.length_eq_zero_iff.1 f.2
      · exact List.length_eq_zero_iff.1 f.2.2
      · exact absurd f h3
      · exact absurd f.1 h4
    simp only [TX] at h
    by_cases k0 : x.f0 = 0
    · rw [if_pos k0, if_pos qa22] at h
      exact ⟨ext qa89 qa90 qa91 qa83, List.append_cancel_left h⟩
    rw [if_neg k0, if_neg (qa22 : ¬ y.f0 = 0)] at h
    by_cases k1 : x.f0 = 1
    · rw [if_pos k1, if_pos qa22] at h
      have dq : ∀ r, Dl r → ∀ c t, r = c :: t → ¬ (c = 45 ∨ IsDg c) := by
        intro r hr c t e' hc
        rcases hr c t e' with h' | h' | h'
        · exact dg_ne c hc 44 qa68 h'
        · exact dg_ne c hc 93 qa68 h'
        · exact dg_ne c hc 125 qa68 h'
      obtain ⟨e1, e2⟩ := split_at (fun c => c = 45 ∨ IsDg c) _ _ r r' (itoa_chars x.f1) (itoa_chars y.f1) (dq r hr) (dq r' hr') h
      exact ⟨ext (itoa_inj _ _ e1) qa90 qa91 qa83, e2⟩
    rw [if_neg k1, if_neg (qa22 : ¬ y.f0 = 1)] at h
    have q34 : ∀ (u v : ByteArray), IsName u → IsName v → ∀ s t, u.toList ++ 34 :: s = v.toList ++ 34 :: t → u = v ∧ s = t := by
      intro u v hu hv s t e'
      obtain ⟨e1, e2⟩ := split_at (fun c => c ≠ 34) _ _ (34 :: s) (34 :: t) (name_no34 u hu) (name_no34 v hv) (fun c t e'' => by rw [← (List.cons.inj e'').1]; simp) (fun c t e'' => by rw [← (List.cons.inj e'').1]; simp) e'
      exact ⟨toList_inj e1, (List.cons.inj e2).2⟩
    by_cases k2 : x.f0 = 2
    · rw [if_pos k2, if_pos qa22] at h
      have nm : ∀ z : S46, NodeOK z → z.f0 = 2 → IsName z.f2 := by
        intro z hz h2
        rcases hz.2.2.2.2 with f | f | f | f
        · omega
        · exact f.2.1
        · omega
        · omega
      have h' : x.f2.toList ++ 34 :: r = y.f2.toList ++ 34 :: r' := by simpa only [List.cons_append, List.append_assoc, List.nil_append, List.cons.injEq, true_and] using h
      obtain ⟨e1, e2⟩ := q34 _ _ (nm x nx k2) (nm y ny qa22) _ _ h'
      exact ⟨ext qa89 e1 qa91 qa83, e2⟩
    rw [if_neg k2, if_neg (qa22 : ¬ y.f0 = 2)] at h
    by_cases k4 : x.f0 = 4
    · rw [if_pos k4, if_pos qa22] at h
      have ln : ∀ z : S46, NodeOK z → z.f0 = 4 → z.f3.length = z.f4.length := by
        intro z hz h4
        rcases hz.2.2.2.2 with f | f | f | f
        · omega
        · omega
        · omega
        · exact f.2
      obtain ⟨e1, e2⟩ := jn_inj (keyed (TX n)) (fun p => IsName p.1 ∧ ∃ d, RtO n d p.2) 125 (.inr rfl)
        (fun a b ha hb s s' hs hs' h' => by
          obtain ⟨ha1, da, ha2⟩ := ha
          obtain ⟨hb1, db, hb2⟩ := hb
          have h2 : a.1.toList ++ 34 :: (58 :: (TX n a.2 ++ s)) = b.1.toList ++ 34 :: (58 :: (TX n b.2 ++ s')) := by simpa only [keyed, List.cons_append, List.append_assoc, List.cons.injEq, true_and] using h'
          obtain ⟨e1, e2⟩ := q34 _ _ ha1 hb1 _ _ h2
          obtain ⟨e3, e4⟩ := ih a.2 b.2 da db ha2 hb2 s s' hs hs' (List.cons.inj e2).2
          exact ⟨Prod.ext e1 e3, e4⟩)
        (fun a _ => ⟨34, _, rfl, qa68, qa68, qa68⟩) (x.f3.zip x.f4) (y.f3.zip y.f4) r r'
        (fun p hp => ⟨kx _ (List.of_mem_zip hp).1, _, ix _ (List.of_mem_zip hp).2⟩) (fun p hp => ⟨ky _ (List.of_mem_zip hp).1, _, iy _ (List.of_mem_zip hp).2⟩) (List.cons.inj h).2
      obtain ⟨e3, e4⟩ := zip_inj _ _ _ _ (ln x nx k4) (ln y ny qa22) e1
      exact ⟨ext qa89 qa90 e3 e4, e2⟩
    · rw [if_neg k4, if_neg (qa22 : ¬ y.f0 = 4)] at h
      obtain ⟨e1, e2⟩ := jn_inj (TX n) (fun z => ∃ d, RtO n d z) 93 (.inl rfl)
        (fun a b ha hb s s' hs hs' h' => by
          obtain ⟨da, ha⟩ := ha
          obtain ⟨db, hb⟩ := hb
          exact ih a b da db ha hb s s' hs hs' h')
        (fun a ⟨da, ha⟩ => by
          obtain ⟨c, s, e', h1, h2, h3, _⟩ := tx_head n da a ha
          exact ⟨c, s, e', h1, h2, h3⟩) x.f4 y.f4 r r' (fun z hz => ⟨_, ix z hz⟩) (fun z hz => ⟨_, iy z hz⟩) (List.cons.inj h).2
      exact ⟨ext qa89 qa90 qa91 e1, e2⟩
end Go.Proofs.Ytfpkooafbeejmaa.Pure2
namespace Go.Proofs.Ytfpkooafbeejmaa.Pure2
open Go.RowKit Go.Proofs.Ytfpkooafbeejmaa.Q Go.Proofs.YtfpkooafbeejmaaW.PrintWords Go.Proofs.YtfpkooafbeejmaaW.PrintLast
set_option linter.unusedVariables false
set_option linter.unusedSimpArgs false
theorem sum_bound {α : Type} (g c : α → Nat) (W : Nat) : ∀ l : List α, (∀ a ∈ l, g a ≤ c a * W) → (l.map g).sum ≤ (l.map c).sum * W
  | [], _ => by simp
  | a :: l, h => by
    have h1 := h a qa70
    have h2 := sum_bound g c W l (fun x hx => h x (by simp [hx]))
    simp only [List.map_cons, List.sum_cons, Nat.add_mul]; omega
def kidsO (n : Nat) (x : S46) : List (List UInt8) := if x.f0 = 4 then (x.f3.zip x.f4).map (keyed (TX n)) else x.f4.map (TX n)
theorem obj_len (x : S46) (h : NodeOK x) (h4 : x.f0 = 4) : x.f3.length = x.f4.length := by
  rcases h.2.2.2.2 with f | f | f | f
  · omega
  · omega
  · omega
  · exact f.2
theorem kids_sum (n : Nat) (ih : ∀ d x, RtO n d x → (TX n x).length + 50 ≤ cntO n x * 2147483750) (d : Nat) (x : S46) (h : RtO (n + 1) d x) :
    ((kidsO n x).map (fun w => w.length + 1)).sum ≤ (x.f4.map (cntO n)).sum * 2147483750 := by
  obtain ⟨hN, hk, hi⟩ := right_parts h
  unfold kidsO
  by_cases h4 : x.f0 = 4
  · rw [if_pos h4, List.map_map]
    have hl := obj_len x hN h4
    have e : (x.f3.zip x.f4).map (fun p => cntO n p.2) = x.f4.map (cntO n) := by
      rw [← List.map_snd_zip (l₁ := x.f3) (l₂ := x.f4) qa22, List.map_map]
      rw [List.map_snd_zip qa22]; rfl
    rw [← e]
    refine sum_bound _ _ _ _ (fun p hp => ?_)
    have h1 := ih _ _ (hi _ (List.of_mem_zip hp).2)
    have h2 := (hk _ (List.of_mem_zip hp).1).2.1
    have h3 := size_toList p.1
    simp only [Function.comp, keyed, List.length_cons, List.length_append]
    omega
  · rw [if_neg h4, List.map_map]
    refine sum_bound _ _ _ _ (fun p hp => ?_)
    have h1 := ih _ _ (hi _ hp)
    simp only [Function.comp]; omega
theorem txt_len : ∀ (n d : Nat) (x : S46), RtO n d x → (TX n x).length + 50 ≤ cntO n x * 2147483750 := by
  intro n
  induction n with
  | zero => intro d x h; exact h.elim
  | succ n ih =>
    intro d x h
    obtain ⟨hN, hk, hi⟩ := right_parts h
    have hs := kids_sum n ih d x h
    have hc : cntO (n + 1) x = 1 + (x.f4.map (cntO n)).sum := rfl
    have hj : ∀ cl, (Jn cl (kidsO n x)).length ≤ ((kidsO n x).map (fun w => w.length + 1)).sum + 1 := by
      intro cl
      have := join_len (kidsO n x)
      rw [jn_join, List.length_append]; simp only [List.length_cons, List.length_nil]; omega
    unfold kidsO at hs hj
    rw [hc, Nat.add_mul]
    simp only [TX]
    by_cases k0 : x.f0 = 0
    · rw [if_pos k0]; simp only [List.length_cons, List.length_nil]; omega
    rw [if_neg k0]
    by_cases k1 : x.f0 = 1
    · rw [if_pos k1]
      have := itoa_len x.f1 hN.2.1.1 hN.2.1.2
      omega
    rw [if_neg k1]
    by_cases k2 : x.f0 = 2
    · rw [if_pos k2]
      have h1 : IsName x.f2 := by
        rcases hN.2.2.2.2 with f | f | f | f
        · omega
        · exact f.2.1
        · omega
        · omega
      have h2 := h1.2.1
      have h3 := size_toList x.f2
      simp only [List.length_cons, List.length_append, List.length_nil]; omega
    rw [if_neg k2]
    by_cases k4 : x.f0 = 4
    · rw [if_pos k4]
      rw [if_pos k4] at hs
      have := hj 125
      rw [if_pos k4] at this
      simp only [List.length_cons]; omega
    · rw [if_neg k4]
      rw [if_neg k4] at hs
      have := hj 93
      rw [if_neg k4] at this
      simp only [List.length_cons]; omega
def comma : ByteArray := ⟨#[44]⟩
theorem join_ok (ws : List ByteArray) (hl : ws.length ≤ 1048576) (hs : ((ws.map (·.toList)).map (fun w => w.length + 1)).sum ≤ 1000000000000000) : ∃ t, Ev (fun k => spec_l00Join.f k ws (⟨#[44]⟩ : ByteArray)) t ∧ t.toList = joinC (ws.map (·.toList)) := by
  have hc : (⟨#[44]⟩ : ByteArray).size = 1 := rfl
  have hct : (⟨#[44]⟩ : ByteArray).toList = [44] := by rw [toList_data]
  obtain ⟨t, ht, he⟩ := state_loop2 (ρ := ByteArray) ws.length (fun k s i => spec_l00Join.l0 k ws (⟨#[44]⟩ : ByteArray) s i) (fun j s => s.toList = joinC ((ws.map (·.toList)).take j)) (fun r => r.toList = joinC (ws.map (·.toList)))
    (fun s hi => ⟨s, by rw [hi, List.take_of_length_le (by simp)], ev_now ⟨0, fun k _ => by simp only [spec_l00Join.l0]; rw [if_neg qa22]⟩⟩)
    (fun j s hj hi => by
      have ps := psum_succ (fun w : List UInt8 => w.length + 1) (ws.map (·.toList)) [] j (by simpa using hj)
      have hle := psum_le (fun w : List UInt8 => w.length + 1) (ws.map (·.toList)) (j + 1)
      have hjl := join_len ((ws.map (·.toList)).take j)
      have hw : (ws.map (·.toList)).getD j [] = (ws.getD j ByteArray.empty).toList := by
        rw [List.getD_eq_getElem?_getD, List.getD_eq_getElem?_getD, List.getElem?_map, List.getElem?_eq_getElem hj]; rfl
      rw [hw] at ps
      have z1 := size_toList s
      have z2 := size_toList (ws.getD j ByteArray.empty)
      rw [hi] at z1
      have hrd : rdOf ByteArray.empty ws (j : Int) = ws.getD j ByteArray.empty := rfl
      have htk : (ws.map (·.toList)).take (j + 1) = (ws.map (·.toList)).take j ++ [(ws.getD j ByteArray.empty).toList] := by
        rw [List.take_succ_eq_append_getElem (by simpa using hj)]
        congr 1
        rw [List.getElem_map, List.getD_eq_getElem?_getD, List.getElem?_eq_getElem hj]; rfl
      by_cases hz : j = 0
      · subst hz
        refine .inr ⟨s ++ ws.getD 0 ByteArray.empty, ?_, fun r hr => ev_shift 1 ⟨0, fun k _ => ?_⟩ hr⟩
        · show (s ++ ws.getD 0 ByteArray.empty).toList = joinC ((ws.map (·.toList)).take (0 + 1))
          rw [htk, app_toList, hi]; simp [joinC]
        · simp only [spec_l00Join.l0]
          rw [if_pos qa22, if_neg qa22, if_pos qa22, hrd, if_pos qa22, wsucc hj qa22]
      · refine .inr ⟨(s ++ (⟨#[44]⟩ : ByteArray)) ++ ws.getD j ByteArray.empty, ?_, fun r hr => ev_shift 1 ⟨0, fun k _ => ?_⟩ hr⟩
        · show ((s ++ (⟨#[44]⟩ : ByteArray)) ++ ws.getD j ByteArray.empty).toList = joinC ((ws.map (·.toList)).take (j + 1))
          rw [htk, join_snoc _ _ (by intro e; have h_ := congrArg List.length e; rw [List.length_take, List.length_map, List.length_nil] at h_; omega), app_toList, app_toList, hi, hct]; simp
        · simp only [spec_l00Join.l0]
          have g1 : s.size + (⟨#[44]⟩ : ByteArray).size ≤ 9223372036854775807 := by rw [hc]; omega
          have g2 : (s ++ (⟨#[44]⟩ : ByteArray)).size + (ws.getD j ByteArray.empty).size ≤ 9223372036854775807 := by rw [ByteArray.size_append, hc]; omega
          rw [if_pos qa22, if_pos qa22, hrd, if_pos g1, if_pos qa22, if_pos g2, wsucc hj qa22]) 0 (⟨#[]⟩ : ByteArray) qa22 qa96
  exact ⟨t, ev_same ⟨0, fun k _ => by unfold spec_l00Join.f; rfl⟩ he, ht⟩
theorem spec_text : ∀ (n : Nat) (x : S46) (d : Nat), SmO n x → RtO n d x → cntO n x ≤ 4000 → ∃ s, Ev (fun k => spec_l08Text.f k x.f0 x.f1 x.f2 x.f3 x.f4) s ∧ s.toList = TX n x := by
  intro n
  induction n with
  | zero => intro x d h; exact h.elim
  | succ n ih =>
    intro x d hs h hcn
    obtain ⟨h2, ⟨h3, h3'⟩, h4, h5⟩ := hs
    obtain ⟨hN, hk, hi'⟩ := right_parts h
    have hc : cntO (n + 1) x = 1 + (x.f4.map (cntO n)).sum := rfl
    have l34 : (⟨#[34]⟩ : ByteArray).toList = [34] := by rw [toList_data]
    have z34 : (⟨#[34]⟩ : ByteArray).size = 1 := rfl
    have l58 : (⟨#[34, 58]⟩ : ByteArray).toList = [34, 58] := by rw [toList_data]
    have z58 : (⟨#[34, 58]⟩ : ByteArray).size = 2 := rfl
    by_cases k0 : x.f0 = 0
    · exact ⟨_, ev_now ⟨0, fun k _ => by simp only [spec_l08Text.f]; rw [if_pos k0]⟩, by simp only [TX]; rw [if_pos k0, toList_data]⟩
    by_cases k1 : x.f0 = 1
    · obtain ⟨K, hK⟩ := ev_at (spec_itoa x.f1 hN.2.1.1 hN.2.1.2)
      exact ⟨_, ev_now ⟨K, fun k hk => by simp only [spec_l08Text.f]; rw [if_neg k0, if_pos k1, hK k hk]; rfl⟩, by simp only [TX]; rw [if_neg k0, if_pos k1, lit_toList]⟩
    by_cases k2 : x.f0 = 2
    · refine ⟨_, ev_now ⟨0, fun k _ => by simp only [spec_l08Text.f]; rw [if_neg k0, if_neg k1, if_pos k2, if_pos qa22, if_pos (by rw [ByteArray.size_append, z34]; omega)]⟩, ?_⟩
      simp only [TX]; rw [if_neg k0, if_neg k1, if_pos k2, app_toList, app_toList, l34]; simp
    -- lists and objects
    have main : ∀ (x3 : ByteArray) (op cl : UInt8), x3.size = 2 → (x3.extract 0 1).toList = [op] → (x3.extract 1 x3.size).toList = [cl] → ∃ s, Ev (fun k => spec_l08Text.j0 k x3 x.f0 x.f1 x.f2 x.f3 x.f4) s ∧ s.toList = op :: Jn cl (kidsO n x) := by
      intro x3 op cl hx3 ho hcl
      have zo : (x3.extract 0 1).size = 1 := by rw [← size_toList, ho]; rfl
      have zc : (x3.extract 1 x3.size).size = 1 := by rw [← size_toList, hcl]; rfl
      have hks := kids_sum n (txt_len n) d x h
      have hkl : (kidsO n x).length = x.f4.length := by
        unfold kidsO
        by_cases k4 : x.f0 = 4
        · rw [if_pos k4, List.length_map, List.length_zip, obj_len x hN k4]; omega
        · rw [if_neg k4, List.length_map]
      obtain ⟨s, hs, he⟩ := state_loop2 (ρ := ByteArray) x.f4.length (fun k ws i => spec_l08Text.l0 k x3 ws i x.f0 x.f1 x.f2 x.f3 x.f4) (fun j ws => ws.map (·.toList) = (kidsO n x).take j) (fun s => s.toList = op :: Jn cl (kidsO n x))
        (fun ws hi => by
          rw [List.take_of_length_le qa22] at hi
          have hwl : ws.length = x.f4.length := by rw [← hkl, ← hi, List.length_map]
          obtain ⟨t, et, ht⟩ := join_ok ws qa22 (by rw [hi]; omega)
          obtain ⟨K, hK⟩ := ev_at et
          rw [hi] at ht
          have zt : t.size ≤ 1000000000000000 := by
            have := size_toList t
            rw [ht] at this
            have := join_len (kidsO n x)
            omega
          refine ⟨((x3.extract 0 1) ++ t) ++ (x3.extract 1 x3.size), ?_, ev_now ⟨K, fun k hk => ?_⟩⟩
          · show (((x3.extract 0 1) ++ t) ++ (x3.extract 1 x3.size)).toList = _
            rw [app_toList, app_toList, ho, hcl, ht, jn_join]; simp
          · simp only [spec_l08Text.l0]
            rw [if_neg qa22, if_pos qa22, if_pos qa22, hK k hk]; simp only [Option.bind_some]
            rw [if_pos qa22, if_pos (by rw [ByteArray.size_append]; omega)])
        (fun j ws hj hi => by
          have hm := getD_mem x.f4 z46 j hj
          have ps := psum_succ (cntO n) x.f4 z46 j hj
          have hle := psum_le (cntO n) x.f4 (j + 1)
          have hci : cntO n (x.f4.getD j z46) ≤ 4000 := by omega
          have hri := hi' _ hm
          obtain ⟨t, et, ht⟩ := ih (x.f4.getD j z46) (d - 1) (h5 _ hm) hri hci
          obtain ⟨K, hK⟩ := ev_at et
          have ztl := txt_len n _ _ hri
          have zt := size_toList t
          rw [ht] at zt
          have hwl : ws.length = j := by
            have := congrArg List.length hi
            rw [List.length_map, List.length_take] at this; omega
          have hrd : rd_T46 x.f4 (j : Int) = x.f4.getD j z46 := rfl
          have nx : ∀ (u : ByteArray), (kidsO n x)[j]? = some u.toList → (ws ++ [u]).map (·.toList) = (kidsO n x).take (j + 1) := by
            intro u hu
            rw [List.map_append, hi, List.take_add_one, hu]; rfl
          by_cases k4 : x.f0 = 4
          · have hj3 : j < x.f3.length := by rw [obj_len x hN k4]; exact hj
            have hsz := h3' _ (getD_mem x.f3 ByteArray.empty j hj3)
            have hrk : rdOf ByteArray.empty x.f3 (j : Int) = x.f3.getD j ByteArray.empty := rfl
            refine .inr ⟨ws ++ [(((⟨#[34]⟩ : ByteArray) ++ (x.f3.getD j ByteArray.empty)) ++ (⟨#[34, 58]⟩ : ByteArray)) ++ t], nx _ ?_, fun r hr => ev_shift 1 ⟨K, fun k hk => ?_⟩ hr⟩
            · unfold kidsO
              rw [if_pos k4, List.getElem?_map, (List.getElem?_zip_eq_some (z := (x.f3[j], x.f4[j]))).2 ⟨List.getElem?_eq_getElem hj3, List.getElem?_eq_getElem hj⟩]
              rw [app_toList, app_toList, app_toList, l34, l58, ht, List.getD_eq_getElem?_getD, List.getD_eq_getElem?_getD, List.getElem?_eq_getElem hj3, List.getElem?_eq_getElem hj]
              simp [keyed]
            · simp only [spec_l08Text.l0]
              rw [if_pos qa22, if_pos qa22, hrd, hK k hk]; simp only [Option.bind_some]
              rw [if_pos k4, if_pos qa22, hrk, if_pos qa22, if_pos (by rw [ByteArray.size_append, z34]; omega), if_pos (by rw [ByteArray.size_append, ByteArray.size_append, z34, z58]; omega), if_pos qa22, wsucc hj qa22]
          · refine .inr ⟨ws ++ [t], nx _ ?_, fun r hr => ev_shift 1 ⟨K, fun k hk => ?_⟩ hr⟩
            · unfold kidsO
              rw [if_neg k4, List.getElem?_map, List.getElem?_eq_getElem hj, ht, List.getD_eq_getElem?_getD, List.getElem?_eq_getElem hj]; rfl
            · simp only [spec_l08Text.l0]
              rw [if_pos qa22, if_pos qa22, hrd, hK k hk]; simp only [Option.bind_some]
              rw [if_neg k4, if_pos qa22, wsucc hj qa22]) 0 [] qa22 qa70
      exact ⟨s, ev_step ⟨0, fun k _ => by simp only [spec_l08Text.j0]; rfl⟩ he, hs⟩
    by_cases k4 : x.f0 = 4
    · obtain ⟨s, he, hs⟩ := main ⟨#[123, 125]⟩ 123 125 rfl qa96 qa96
      refine ⟨s, ev_step ⟨0, fun k _ => by simp only [spec_l08Text.f]; rw [if_neg k0, if_neg k1, if_neg k2, if_pos k4]⟩ he, ?_⟩
      rw [hs]; simp only [TX]; rw [if_neg k0, if_neg k1, if_neg k2, if_pos k4]; unfold kidsO; rw [if_pos k4]
    · obtain ⟨s, he, hs⟩ := main ⟨#[91, 93]⟩ 91 93 rfl qa96 qa96
      refine ⟨s, ev_step ⟨0, fun k _ => by simp only [spec_l08Text.f]; rw [if_neg k0, if_neg k1, if_neg k2, if_neg k4]⟩ he, ?_⟩
      rw [hs]; simp only [TX]; rw [if_neg k0, if_neg k1, if_neg k2, if_neg k4]; unfold kidsO; rw [if_neg k4]
end Go.Proofs.Ytfpkooafbeejmaa.Pure2
namespace Go.Proofs.Ytfpkooafbeejmaa.Pure2
open Go.RowKit Go.Proofs.Ytfpkooafbeejmaa.Q Go.Proofs.YtfpkooafbeejmaaW.PrintWords Go.Proofs.YtfpkooafbeejmaaW.PrintLast
set_option linter.unusedVariables false
set_option linter.unusedSimpArgs false
theorem equal_texts (l m : List ByteArray) (hl : l.length ≤ 1048576) : ∃ b, Ev (fun k => slices_Equal_string_string.f k l m) b ∧ (b = true ↔ l = m) := by
  by_cases h : l.length = m.length
  · obtain ⟨r, hr, he⟩ := count_loop l.length (fun k i => slices_Equal_string_string.l0 k l m (l.length : Int) i) (fun j r => r = true ↔ ∀ i, j ≤ i → i < l.length → l.getD i ByteArray.empty = m.getD i ByteArray.empty)
      ⟨true, ⟨fun _ i h1 h2 => by omega, fun _ => rfl⟩, ev_now ⟨0, fun k _ => by simp only [slices_Equal_string_string.l0]; rw [if_neg qa22]⟩⟩
      (fun j hj r hr he => by
        have e1 : rdOf ByteArray.empty l (j : Int) = l.getD j ByteArray.empty := rfl
        have e2 : rdOf ByteArray.empty m (j : Int) = m.getD j ByteArray.empty := rfl
        by_cases hc : (l.getD j ByteArray.empty).toList = (m.getD j ByteArray.empty).toList
        · refine ⟨r, hr.trans ⟨fun h' i h1 h2 => ?_, fun h' i h1 h2 => h' i qa22 h2⟩, ev_step ⟨0, fun k _ => by simp only [slices_Equal_string_string.l0]; rw [if_pos qa22, if_pos qa22, if_pos qa22, if_pos qa22, e1, e2, if_pos hc, wsucc hj qa22]⟩ he⟩
          rcases Nat.lt_or_eq_of_le h1 with h3 | rfl
          · exact h' i h3 h2
          · exact toList_inj hc
        · exact ⟨false, ⟨fun h' => (by cases h'), fun h' => absurd (congrArg ByteArray.toList (h' j (Nat.le_refl _) hj)) hc⟩, ev_now ⟨0, fun k _ => by simp only [slices_Equal_string_string.l0]; rw [if_pos qa22, if_pos qa22, if_pos qa22, if_pos qa22, e1, e2, if_neg hc]⟩⟩) 0 qa22
    refine ⟨r, ev_same ⟨0, fun k _ => by unfold slices_Equal_string_string.f; rw [if_pos qa22]; rfl⟩ he, hr.trans ⟨fun h' => List.ext_getElem h fun i h1 h2 => ?_, fun e i _ _ => by rw [e]⟩⟩
    have := h' i qa22 h1
    rw [List.getD_eq_getElem?_getD, List.getD_eq_getElem?_getD, List.getElem?_eq_getElem h1, List.getElem?_eq_getElem h2] at this
    exact this
  · exact ⟨false, ev_mk 0 fun k _ => by unfold slices_Equal_string_string.f; rw [if_neg qa22], ⟨fun h' => (by cases h'), fun e => absurd (by rw [e]) h⟩⟩
theorem all_same (q : Nat → S46 → S46 → Option Bool) : ∀ xs ys : List S46, xs.length = ys.length → (∀ x ∈ xs, ∀ y ∈ ys, ∃ b, Ev (fun k => q k x y) b ∧ (b = true ↔ x = y)) → ∃ b, Ev (fun k => impl_Out.all (q k) xs ys) b ∧ (b = true ↔ xs = ys)
  | [], [], _, _ => ⟨true, ev_mk 0 fun k _ => rfl, qa70⟩
  | [], _ :: _, h, _ => by simp at h
  | _ :: _, [], h, _ => by simp at h
  | x :: xs, y :: ys, h, hq => by
    obtain ⟨b, e, hb⟩ := hq x qa70 y qa70
    obtain ⟨K, hK⟩ := ev_at e
    cases b with
    | false => exact ⟨false, ev_mk K fun k hk => by simp only [impl_Out.all, hK k hk, Option.bind_some]; rfl, ⟨fun h' => (by cases h'), fun h' => by cases hb.2 (List.cons.inj h').1⟩⟩
    | true =>
      obtain ⟨c, e', hc⟩ := all_same q xs ys (by simpa using h) (fun a ha d hd => hq a (by simp [ha]) d (by simp [hd]))
      obtain ⟨K', hK'⟩ := ev_at e'
      refine ⟨c, ev_mk (K + K') fun k hk => by simp only [impl_Out.all, hK k qa22, Option.bind_some, if_true]; exact hK' k qa22, hc.trans ⟨fun h' => by rw [hb.1 rfl, h'], fun h' => (List.cons.inj h').2⟩⟩
theorem same_out : ∀ (n : Nat) (x y : S46), SmO n x → SmO n y → ∃ b, Ev (fun k => impl_sameOut.f k x.f0 x.f1 x.f2 x.f3 x.f4 y.f0 y.f1 y.f2 y.f3 y.f4) b ∧ (b = true ↔ x = y) := by
  intro n
  induction n with
  | zero => intro x y h; exact h.elim
  | succ n ih =>
    intro x y hx hy
    obtain ⟨_, ⟨x3, _⟩, _, x5⟩ := hx
    obtain ⟨_, _, _, y5⟩ := hy
    have no : ∀ (h : ¬ x = y) (he : Ev (fun k => impl_sameOut.f k x.f0 x.f1 x.f2 x.f3 x.f4 y.f0 y.f1 y.f2 y.f3 y.f4) false), ∃ b, Ev (fun k => impl_sameOut.f k x.f0 x.f1 x.f2 x.f3 x.f4 y.f0 y.f1 y.f2 y.f3 y.f4) b ∧ (b = true ↔ x = y) :=
      fun h he => ⟨false, he, ⟨fun h' => (by cases h'), fun h' => absurd h' h⟩⟩
    by_cases e0 : x.f0 = y.f0
    case neg => exact no (fun h => e0 (by rw [h])) (ev_now ⟨0, fun k _ => by simp only [impl_sameOut.f]; rw [if_neg e0]⟩)
    by_cases e1 : x.f1 = y.f1
    case neg => exact no (fun h => e1 (by rw [h])) (ev_now ⟨0, fun k _ => by simp only [impl_sameOut.f]; rw [if_pos e0, if_neg e1]⟩)
    by_cases e2 : x.f2.toList = y.f2.toList
    case neg => exact no (fun h => e2 (by rw [h])) (ev_now ⟨0, fun k _ => by simp only [impl_sameOut.f]; rw [if_pos e0, if_pos e1, if_neg e2]⟩)
    obtain ⟨b, eb, hb⟩ := equal_texts x.f3 y.f3 x3
    obtain ⟨K, hK⟩ := ev_at eb
    cases b with
    | false => exact no (fun h => by cases hb.2 (by rw [h])) (ev_now ⟨K, fun k hk => by simp only [impl_sameOut.f]; rw [if_pos e0, if_pos e1, if_pos e2, hK k hk]; rfl⟩)
    | true =>
      by_cases hl : x.f4.length = y.f4.length
      case neg => exact no (fun h => hl (by rw [h])) (ev_now ⟨K, fun k hk => by simp only [impl_sameOut.f]; rw [if_pos e0, if_pos e1, if_pos e2, hK k hk]; simp only [Option.bind_some, if_true, impl_Out.fq]; rw [if_neg hl]; rfl⟩)
      obtain ⟨c, ec, hc⟩ := all_same (fun k x y => impl_sameOut.f k x.f0 x.f1 x.f2 x.f3 x.f4 y.f0 y.f1 y.f2 y.f3 y.f4) x.f4 y.f4 hl (fun a ha d hd => ih a d (x5 a ha) (y5 d hd))
      obtain ⟨K', hK'⟩ := ev_at ec
      refine ⟨c, ev_now ⟨K + K', fun k hk => by simp only [impl_sameOut.f]; rw [if_pos e0, if_pos e1, if_pos e2, hK k qa22]; simp only [Option.bind_some, if_true, impl_Out.fq]; rw [if_pos hl]; rw [hK' k qa22]; rfl⟩, hc.trans ⟨fun h => ?_, fun h => by rw [h]⟩⟩
      have h3 := hb.1 rfl
      have h2 := toList_inj e2
      rw [← etaO x, ← etaO y, e0, e1, h2, h3, h]
theorem i_le : ∀ (n m : Nat) (x : S41), n ≤ m → i41n n x → i41n m x
  | 0, _, _, _, h => h.elim
  | n + 1, 0, _, hm, _ => by omega
  | n + 1, m + 1, x, hm, ⟨h0, h1, h2, h3, h4, h5⟩ => ⟨h0, h1, h2, h3, h4, fun y hy => i_le n m y qa22 (h5 y hy)⟩
end Go.Proofs.Ytfpkooafbeejmaa.Pure2
namespace Go.Proofs.Ytfpkooafbeejmaa.Pure2
open Go.RowKit Go.Proofs.Ytfpkooafbeejmaa.Q Go.Proofs.YtfpkooafbeejmaaW.PrintWords Go.Proofs.YtfpkooafbeejmaaW.PrintLast
set_option linter.unusedVariables false
set_option linter.unusedSimpArgs false
theorem same_agree (n : Nat) (x y : S46) (hx : SmO n x) (hy : SmO n y) : ∃ b, Ev (fun k => spec_SameOut.f k x.f0 x.f1 x.f2 x.f3 x.f4 y.f0 y.f1 y.f2 y.f3 y.f4) b ∧ Ev (fun k => impl_SameOut.f k x.f0 x.f1 x.f2 x.f3 x.f4 y.f0 y.f1 y.f2 y.f3 y.f4) b := by
  obtain ⟨b1, s1, p1, r1⟩ := outs_agree n x hx
  obtain ⟨b2, s2, p2, r2⟩ := outs_agree n y hy
  obtain ⟨K1, h1⟩ := ev_at s1
  obtain ⟨K2, h2⟩ := ev_at p1
  obtain ⟨K3, h3⟩ := ev_at s2
  obtain ⟨K4, h4⟩ := ev_at p2
  cases b1 with
  | false => exact ⟨false, ev_mk K1 fun k hk => by unfold spec_SameOut.f; rw [h1 k hk]; rfl, ev_mk K2 fun k hk => by unfold impl_SameOut.f; rw [h2 k hk]; rfl⟩
  | true =>
    cases b2 with
    | false =>
      refine ⟨false, ev_mk (K1 + K3) fun k hk => ?_, ev_mk (K2 + K4) fun k hk => ?_⟩
      · unfold spec_SameOut.f; rw [h1 k qa22]; simp only [Option.bind_some, if_true]; rw [h3 k qa22]; rfl
      · unfold impl_SameOut.f; rw [h2 k qa22]; simp only [Option.bind_some, if_true]; rw [h4 k qa22]; rfl
    | true =>
      obtain ⟨rx, cx⟩ := r1.1 rfl
      obtain ⟨ry, cy⟩ := r2.1 rfl
      obtain ⟨t, et, ht⟩ := spec_text n x 20 hx rx cx
      obtain ⟨u, eu, hu⟩ := spec_text n y 20 hy ry cy
      obtain ⟨c, ec, hc⟩ := same_out n x y hx hy
      obtain ⟨K5, h5⟩ := ev_at et
      obtain ⟨K6, h6⟩ := ev_at eu
      obtain ⟨K7, h7⟩ := ev_at ec
      have key : (t.toList == u.toList) = c := by
        rw [Bool.eq_iff_iff, hc, ht, hu, beq_iff_eq]
        constructor
        · intro h
          exact (tx_inj n x y 20 20 rx ry [] [] (fun c t e => by cases e) (fun c t e => by cases e) (by rw [h])).1
        · intro h; rw [h]
      refine ⟨c, ev_mk (K1 + K3 + K5 + K6) fun k hk => ?_, ev_mk (K2 + K4 + K7) fun k hk => ?_⟩
      · unfold spec_SameOut.f; rw [h1 k qa22]; simp only [Option.bind_some, if_true]; rw [h3 k qa22]; simp only [Option.bind_some, if_true]; rw [h5 k qa22]; simp only [Option.bind_some]; rw [h6 k qa22]; simp only [Option.bind_some, key]
      · unfold impl_SameOut.f; rw [h2 k qa22]; simp only [Option.bind_some, if_true]; rw [h4 k qa22]; simp only [Option.bind_some, if_true]; rw [h7 k qa22]; rfl
theorem FnExactSameOut : laws_FnExactSameOut.Pure2 := by
  intro y z ⟨n1, hy1⟩ ⟨n2, hz1⟩
  obtain ⟨n, hn1, hn2⟩ : ∃ n, n1 ≤ n ∧ n2 ≤ n := ⟨n1 + n2, qa22, qa22⟩
  have hy := i_le n1 n y hn1 hy1
  have hz := i_le n2 n z hn2 hz1
  obtain ⟨r, he, hr⟩ := sz_out n y 1048576 qa22 qa22 hy
  refine Ev.rounds (r := true) ?_
  obtain ⟨K1, h1⟩ := ev_at he
  rcases hr with hr | ⟨r0, r1, hs⟩
  · exact ev_mk K1 fun k hk => by unfold laws_FnExactSameOut.f; rw [h1 k hk]; simp only [Option.bind_some]; rw [if_pos hr]
  obtain ⟨q, hq, hqr⟩ := sz_out n z r r0 qa22 hz
  obtain ⟨K0, h0⟩ := ev_at hq
  rcases hqr with hqr | ⟨_, _, hsz⟩
  · exact ev_mk (K1 + K0) fun k hk => by unfold laws_FnExactSameOut.f; rw [h1 k qa22]; simp only [Option.bind_some]; rw [if_neg qa22, h0 k qa22]; simp only [Option.bind_some]; rw [if_pos hqr]
  obtain ⟨K2, h2⟩ := ev_at (to_out n y hs)
  obtain ⟨K6, h6⟩ := ev_at (to_out n z hsz)
  obtain ⟨b, e1, e2⟩ := same_agree n (cvO n y) (cvO n z) (sm_cvO n y hs) (sm_cvO n z hsz)
  obtain ⟨K3, h3⟩ := ev_at e1
  obtain ⟨K4, h4⟩ := ev_at e2
  obtain ⟨K5, h5⟩ := ev_at (eq_out n (cvO n y) (sm_cvO n y hs))
  obtain ⟨K7, h7⟩ := ev_at (eq_out n (cvO n z) (sm_cvO n z hsz))
  refine ev_mk (K0 + K1 + K2 + K3 + K4 + K5 + K6 + K7) fun k hk => ?_
  unfold laws_FnExactSameOut.f
  rw [h1 _ qa22]; simp only [Option.bind_some]; rw [if_neg qa22, h0 _ qa22]; simp only [Option.bind_some]; rw [if_neg qa22, h2 _ qa22]; simp only [Option.bind_some]
  rw [h6 _ qa22]; simp only [Option.bind_some]
  rw [h3 _ qa22]; simp only [Option.bind_some]; rw [h4 _ qa22]; simp only [Option.bind_some, bne_self_eq_false]
  rw [if_neg qa70, h5 _ qa22]; simp only [Option.bind_some, if_true]; rw [h7 _ qa22]; rfl
end Go.Proofs.Ytfpkooafbeejmaa.Pure2
