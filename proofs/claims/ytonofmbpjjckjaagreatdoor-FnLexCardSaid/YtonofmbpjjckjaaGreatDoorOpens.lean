/- What a law's argument reads as (a number, a bool, a text, a slice, a struct, nested at will) is told by the print's kinds. Plain lemmas, no condition. -/
import Derived.Test.YtonofmbpjjckjaaGreatDoorWWords
import Derived.Deep.Slices
import Derived.ChangeArms
import Derived.DataReads
namespace Go.Proofs.YtonofmbpjjckjaaGreatDoor.Opens
open Go.RowKit Go.Deep Go.Proofs.YtonofmbpjjckjaaGreatDoorW.PrintWords
set_option linter.unusedVariables false
set_option linter.unusedSimpArgs false

/-- Whatever reads at type t is of kind d, and I holds of it. -/
def Opens {α : Type} (P : Program) (t : TypeId) (d : Kd α) (I : α → Prop) : Prop :=
  ∀ (H : Type) (enc : TypeId × Value → H) (w : World) (fuel : Nat) (cs : List Value) (x : DataW H × List MemPlace),
    DataW.trod enc P w 0 (fun _ => true) true fuel t cs = some x → ∃ y : α, d.K w y cs ∧ I y

theorem opens_int {P : Program} {t : TypeId} {k : IntKind} (hu : P.underlying t = some (.int k)) : Opens P t (Kd.int k) (fun n => (Lit.int k n).wf = true) := by
  intro H enc w fuel cs x h
  obtain ⟨n, rfl, _, hn⟩ := DataW.trod_int hu h
  exact ⟨n, rfl, hn⟩
theorem opens_bool {P : Program} {t : TypeId} (hu : P.underlying t = some .bool) : Opens P t Kd.bool (fun _ => True) := by
  intro H enc w fuel cs x h
  obtain ⟨n, rfl, _⟩ := DataW.trod_bool hu h
  exact ⟨n, rfl, trivial⟩
theorem opens_string {P : Program} {t : TypeId} (hu : P.underlying t = some .string) : Opens P t Kd.string (fun s => s.size ≤ 9223372036854775807) := by
  intro H enc w fuel cs x h
  obtain ⟨n, rfl, _, hn⟩ := DataW.trod_string hu h
  exact ⟨n, rfl, hn⟩

theorem build {α : Type} {n : Nat} {q : Nat → α → Prop} (h : ∀ i, i < n → ∃ y, q i y) : ∃ ys : List α, ys.length = n ∧ ∀ (i : Nat) (y : α), ys[i]? = some y → q i y := by
  induction n with
  | zero => exact ⟨[], rfl, by simp⟩
  | succ n ih =>
    obtain ⟨ys, hl, hq⟩ := ih (fun i hi => h i (by omega))
    obtain ⟨y, hy⟩ := h n (by omega)
    refine ⟨ys ++ [y], by simp [hl], fun i z hz => ?_⟩
    by_cases hi : i < n
    · rw [List.getElem?_append_left (by omega)] at hz; exact hq i z hz
    · rw [List.getElem?_append_right (by omega)] at hz
      by_cases he : i = n
      · subst he; simp [hl] at hz; subst hz; exact hy
      · rw [List.getElem?_eq_none (by simp; omega)] at hz; cases hz

theorem opens_slice {α : Type} {P : Program} {t e : TypeId} {d : Kd α} {I : α → Prop} (hu : P.underlying t = some (.slice e)) (hc : P.cellsOf e = d.sz) (he : Opens P e d I) : Opens P t (Kd.slice e d) (fun xs => xs.length ≤ 9223372036854775807 ∧ ∀ x ∈ xs, I x) := by
  intro H enc w fuel cs x h
  rcases open_slice hu h with ⟨rfl, _⟩ | ⟨a, len, cap, m, n, D, Pl, rfl, _, hl, hm, hmm, _, hx⟩
  · exact ⟨[], ⟨none, 0, rfl, Nat.le_refl _, ⟨rfl, by simp, fun h => absurd h (by simp)⟩⟩, by simp, by simp⟩
  · unfold maxLen at hm
    obtain ⟨ys, hn, hq⟩ := build (n := len) (q := fun i (y : α) => I y ∧ ∃ c, c.length = d.sz ∧ d.K w y c ∧ ∀ j u, c[j]? = some u → w.cell? (a.add (i * d.sz + j)) = some u) (fun i hi => by
      obtain ⟨cs', h1, h2⟩ := hx i (by rw [hmm]; simp; omega)
      obtain ⟨y, hk, hi⟩ := he H enc w n cs' _ h2
      refine ⟨y, hi, cs', d.K_len hk, hk, fun j u hu' => ?_⟩
      obtain ⟨_, hlen, hcell⟩ := World.cells?_some h1
      have hj : j < P.cellsOf e := by
        have := (List.getElem?_eq_some_iff.1 hu').1
        omega
      have := hcell j hj
      rw [Deep.add_add, hc] at this
      rw [this]
      exact hu')
    subst hn
    refine ⟨ys, ⟨some a, cap, rfl, hl, ⟨rfl, by omega, fun _ => ⟨a, rfl, fun j p hp => (hq j p hp).2⟩⟩⟩, by omega, fun y hy => ?_⟩
    obtain ⟨i, hi⟩ := List.getElem?_of_mem hy
    exact (hq i y hi).1

/-- The fields of a struct of N cells from place off on. -/
def OpensF {β : Type} (P : Program) (fs : List Field) (off N : Nat) (d : Kd β) (I : β → Prop) : Prop :=
  ∀ (H : Type) (enc : TypeId × Value → H) (w : World) (fuel : Nat) (cs : List Value), cs.length = N →
    (∀ (i : Nat) (f : Field), fs[i]? = some f → ∃ x, DataW.trod enc P w 0 (fun _ => true) true fuel f.type ((cs.drop f.offset).take (P.cellsOf f.type)) = some x) → ∃ y : β, d.K w y (cs.drop off) ∧ I y
theorem opensF_one {β : Type} {P : Program} {f : Field} {off N : Nat} {d : Kd β} {I : β → Prop} (ho : f.offset = off) (hN : off + d.sz = N) (hc : P.cellsOf f.type = d.sz) (h : Opens P f.type d I) : OpensF P [f] off N d I := by
  intro H enc w fuel cs hl hx
  obtain ⟨x, hx⟩ := hx 0 f rfl
  rw [ho, hc, List.take_of_length_le (by rw [List.length_drop]; omega)] at hx
  exact h H enc w fuel _ _ hx
theorem opensF_cons {α β : Type} {P : Program} {f : Field} {fs : List Field} {off N : Nat} {a : Kd α} {b : Kd β} {I : α → Prop} {J : β → Prop} (ho : f.offset = off) (hc : P.cellsOf f.type = a.sz) (h : Opens P f.type a I) (hs : OpensF P fs (off + a.sz) N b J) :
    OpensF P (f :: fs) off N (Kd.pair a b) (fun p => I p.1 ∧ J p.2) := by
  intro H enc w fuel cs hl hx
  obtain ⟨x, h0⟩ := hx 0 f rfl
  rw [ho, hc] at h0
  obtain ⟨y, hy, hi⟩ := h H enc w fuel _ _ h0
  obtain ⟨z, hz, hj⟩ := hs H enc w fuel cs hl (fun i g hg => hx (i + 1) g (by simpa using hg))
  refine ⟨(y, z), ⟨_, _, ?_, hy, hz⟩, hi, hj⟩
  rw [← List.drop_drop, List.take_append_drop]
theorem opens_struct {α β : Type} {P : Program} {t : TypeId} {fs : Array Field} {N : Nat} {d : Kd β} {I : β → Prop} {f : α → β} (hu : P.underlying t = some (.struct fs)) (hN : P.cellsOf t = N) (h : OpensF P fs.toList 0 N d I) (g : β → α) (hg : ∀ y, f (g y) = y) :
    Opens P t (Kd.iso d f) (fun x => I (f x)) := by
  intro H enc w fuel cs x hx
  obtain ⟨xs, n, _, _, hl, hlen, hf⟩ := DataW.trod_struct hu hx
  obtain ⟨y, hy, hi⟩ := h H enc w n cs (by rw [hl, hN]) (fun i f hfi => by
    have hfi' : fs[i]? = some f := by simpa using hfi
    have hlt : i < xs.length := by
      rw [hlen]
      exact (Array.getElem?_eq_some_iff.1 hfi').1
    rw [hf i f hfi', List.getElem?_eq_getElem hlt]
    exact ⟨_, rfl⟩)
  rw [List.drop_zero] at hy
  exact ⟨g y, by show d.K w (f (g y)) cs; rw [hg]; exact hy, by show I (f (g y)); rw [hg]; exact hi⟩
theorem Opens.mono {α : Type} {P : Program} {t : TypeId} {d : Kd α} {I J : α → Prop} (h : Opens P t d I) (hij : ∀ x, I x → J x) : Opens P t d J := by
  intro H enc w fuel cs x hx
  obtain ⟨y, hy, hi⟩ := h H enc w fuel cs x hx
  exact ⟨y, hy, hij y hi⟩
/-- .. read with at most m rounds: for a type that is nested in itself. -/
def OpensL {α : Type} (m : Nat) (P : Program) (t : TypeId) (d : Kd α) (I : α → Prop) : Prop :=
  ∀ (H : Type) (enc : TypeId × Value → H) (w : World) (fuel : Nat) (cs : List Value) (x : DataW H × List MemPlace), fuel ≤ m →
    DataW.trod enc P w 0 (fun _ => true) true fuel t cs = some x → ∃ y : α, d.K w y cs ∧ I y
theorem Opens.lim {α : Type} {P : Program} {t : TypeId} {d : Kd α} {I : α → Prop} (h : Opens P t d I) (m : Nat) : OpensL m P t d I :=
  fun H enc w fuel cs x _ hx => h H enc w fuel cs x hx
theorem opensL_slice {α : Type} {m0 : Nat} {P : Program} {t e : TypeId} {d : Kd α} {I : α → Prop} (hu : P.underlying t = some (.slice e)) (hc : P.cellsOf e = d.sz) (he : OpensL m0 P e d I) : OpensL m0 P t (Kd.slice e d) (fun xs => xs.length ≤ 9223372036854775807 ∧ ∀ x ∈ xs, I x) := by
  intro H enc w fuel cs x hf h
  rcases DataW.trod_slice hu h with ⟨rfl, _⟩ | ⟨a, len, cap, elems, rest, n, hn, rfl, _, _, hl, hm, hlen, hel, _, _⟩
  · exact ⟨[], ⟨none, 0, rfl, Nat.le_refl _, ⟨rfl, by simp, fun h => absurd h (by simp)⟩⟩, by simp, by simp⟩
  · unfold maxLen at hm
    obtain ⟨ys, hn2, hq⟩ := build (n := len) (q := fun i (y : α) => I y ∧ ∃ c, c.length = d.sz ∧ d.K w y c ∧ ∀ j u, c[j]? = some u → w.cell? (a.add (i * d.sz + j)) = some u) (fun i hi => by
      have key := hel i hi
      rw [List.getElem?_eq_getElem (by omega)] at key
      obtain ⟨cs', h1, h2⟩ := Option.bind_eq_some_iff.1 key
      obtain ⟨y, hk, hi⟩ := he H enc w n cs' _ (by omega) h2
      refine ⟨y, hi, cs', d.K_len hk, hk, fun j u hu' => ?_⟩
      obtain ⟨_, hlen, hcell⟩ := World.cells?_some h1
      have hj : j < P.cellsOf e := by
        have := (List.getElem?_eq_some_iff.1 hu').1
        omega
      have := hcell j hj
      rw [Deep.add_add, hc] at this
      rw [this]
      exact hu')
    subst hn2
    refine ⟨ys, ⟨some a, cap, rfl, hl, ⟨rfl, by omega, fun _ => ⟨a, rfl, fun j p hp => (hq j p hp).2⟩⟩⟩, by omega, fun y hy => ?_⟩
    obtain ⟨i, hi⟩ := List.getElem?_of_mem hy
    exact (hq i y hi).1
def OpensFL {β : Type} (m : Nat) (P : Program) (fs : List Field) (off N : Nat) (d : Kd β) (I : β → Prop) : Prop :=
  ∀ (H : Type) (enc : TypeId × Value → H) (w : World) (fuel : Nat) (cs : List Value), fuel ≤ m → cs.length = N →
    (∀ (i : Nat) (f : Field), fs[i]? = some f → ∃ x, DataW.trod enc P w 0 (fun _ => true) true fuel f.type ((cs.drop f.offset).take (P.cellsOf f.type)) = some x) → ∃ y : β, d.K w y (cs.drop off) ∧ I y
theorem opensFL_one {β : Type} {m : Nat} {P : Program} {f : Field} {off N : Nat} {d : Kd β} {I : β → Prop} (ho : f.offset = off) (hN : off + d.sz = N) (hc : P.cellsOf f.type = d.sz) (h : OpensL m P f.type d I) : OpensFL m P [f] off N d I := by
  intro H enc w fuel cs hf hl hx
  obtain ⟨x, hx⟩ := hx 0 f rfl
  rw [ho, hc, List.take_of_length_le (by rw [List.length_drop]; omega)] at hx
  exact h H enc w fuel _ _ hf hx
theorem opensFL_cons {α β : Type} {m : Nat} {P : Program} {f : Field} {fs : List Field} {off N : Nat} {a : Kd α} {b : Kd β} {I : α → Prop} {J : β → Prop} (ho : f.offset = off) (hc : P.cellsOf f.type = a.sz) (h : OpensL m P f.type a I) (hs : OpensFL m P fs (off + a.sz) N b J) :
    OpensFL m P (f :: fs) off N (Kd.pair a b) (fun p => I p.1 ∧ J p.2) := by
  intro H enc w fuel cs hf hl hx
  obtain ⟨x, h0⟩ := hx 0 f rfl
  rw [ho, hc] at h0
  obtain ⟨y, hy, hi⟩ := h H enc w fuel _ _ hf h0
  obtain ⟨z, hz, hj⟩ := hs H enc w fuel cs hf hl (fun i g hg => hx (i + 1) g (by simpa using hg))
  refine ⟨(y, z), ⟨_, _, ?_, hy, hz⟩, hi, hj⟩
  rw [← List.drop_drop, List.take_append_drop]
theorem opensL_struct {α β : Type} {m : Nat} {P : Program} {t : TypeId} {fs : Array Field} {N : Nat} {d : Kd β} {I : β → Prop} {f : α → β} (hu : P.underlying t = some (.struct fs)) (hN : P.cellsOf t = N) (h : OpensFL m P fs.toList 0 N d I) (g : β → α) (hg : ∀ y, f (g y) = y) :
    OpensL (m + 1) P t (Kd.iso d f) (fun x => I (f x)) := by
  intro H enc w fuel cs x hfu hx
  obtain ⟨xs, n, hn, _, hl, hlen, hf⟩ := DataW.trod_struct hu hx
  obtain ⟨y, hy, hi⟩ := h H enc w n cs (by omega) (by rw [hl, hN]) (fun i f hfi => by
    have hfi' : fs[i]? = some f := by simpa using hfi
    have hlt : i < xs.length := by
      rw [hlen]
      exact (Array.getElem?_eq_some_iff.1 hfi').1
    rw [hf i f hfi', List.getElem?_eq_getElem hlt]
    exact ⟨_, rfl⟩)
  rw [List.drop_zero] at hy
  exact ⟨g y, by show d.K w (f (g y)) cs; rw [hg]; exact hy, by show I (f (g y)); rw [hg]; exact hi⟩
theorem opensL_none {α : Type} {P : Program} {t : TypeId} {fs : Array Field} {d : Kd α} {I : α → Prop} (hu : P.underlying t = some (.struct fs)) : OpensL 0 P t d I := by
  intro H enc w fuel cs x hfu hx
  obtain ⟨xs, n, hn, _⟩ := DataW.trod_struct hu hx
  omega
theorem opens_fix {α : Type} {P : Program} {t : TypeId} {F : Kd α → Kd α} {sz : Nat} {E : List Nat} {hs : ∀ n, (Kd.upto F sz E n).sz = sz} {hE : ∀ n q, q ∈ (Kd.upto F sz E n).E → q ∈ E} {I : Nat → α → Prop} (h : ∀ m, OpensL m P t (Kd.upto F sz E m) (I m)) : Opens P t (Kd.fix F sz E hs hE) (fun x => ∃ n, I n x) := by
  intro H enc w fuel cs x hx
  obtain ⟨y, hy, hi⟩ := h fuel H enc w fuel cs x (Nat.le_refl _) hx
  exact ⟨y, ⟨fuel, hy⟩, ⟨fuel, hi⟩⟩
end Go.Proofs.YtonofmbpjjckjaaGreatDoor.Opens
