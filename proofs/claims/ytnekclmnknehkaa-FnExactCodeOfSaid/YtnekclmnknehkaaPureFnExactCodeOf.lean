/- Pure part of FnExactCodeOf: at every text the program's CodeOf and the reference's answer alike. No condition. -/
import Derived.Test.YtnekclmnknehkaaPFnExactCodeOfx1
namespace Go.Proofs.Ytnekclmnknehkaa.Pure
open Go.RowKit Go.Proofs.Ytnekclmnknehkaa.PFnExactCodeOf Go.Proofs.YtnekclmnknehkaaW.PrintWords Go.Proofs.YtnekclmnknehkaaW.PrintLast

theorem words_at (x : List ByteArray) (hx : impl_codeWords.f = some x) : x.length = 20 ∧ ∀ i : Int, 0 ≤ i → i < 20 → spec_CodeWord.f i = some (rdOf ByteArray.empty x i) := by
  unfold impl_codeWords.f at hx
  obtain rfl := Option.some.inj hx
  refine ⟨rfl, fun i h0 h1 => ?_⟩
  unfold spec_CodeWord.f
  simp only [Option.bind_some, List.length_cons, List.length_nil]
  simp [h0, h1, show ¬ (i < 0) by omega, show ¬ (20 ≤ i) by omega]

theorem finds (x : List ByteArray) (hl : x.length = 20) (hx : ∀ i : Int, 0 ≤ i → i < 20 → spec_CodeWord.f i = some (rdOf ByteArray.empty x i)) (t : ByteArray) (d : Nat) :
    ∀ (k : Nat) (i : Int), 0 ≤ i → 20 - i = d → d < k → ∃ r, spec_CodeOf.l0 k t i = some r ∧ slices_Index_string_string.l0 k x t (x.length : Int) i = some r := by
  induction d with
  | zero =>
    intro k i h0 hd hk
    obtain ⟨k, rfl⟩ : ∃ m, k = m + 1 := ⟨k - 1, by omega⟩
    refine ⟨-1, ?_, ?_⟩
    · simp only [spec_CodeOf.l0]; rw [if_neg (by omega)]
    · simp only [slices_Index_string_string.l0]; rw [if_neg (by omega)]
  | succ d ih =>
    intro k i h0 hd hk
    obtain ⟨k, rfl⟩ : ∃ m, k = m + 1 := ⟨k - 1, by omega⟩
    obtain ⟨r, e1, e2⟩ := ih k (i + 1) (by omega) (by omega) (by omega)
    have hw : wrap64 (i + 1) = i + 1 := by unfold wrap64; omega
    by_cases hc : t.toList = (rdOf ByteArray.empty x i).toList
    · refine ⟨i, ?_, ?_⟩
      · simp only [spec_CodeOf.l0]; rw [if_pos (by omega), hx i h0 (by omega)]; simp only [Option.bind_some]; rw [if_pos hc.symm]
      · simp only [slices_Index_string_string.l0]; rw [if_pos (by omega), if_pos h0, if_pos (by omega), if_pos hc]
    · refine ⟨r, ?_, ?_⟩
      · simp only [spec_CodeOf.l0]; rw [if_pos (by omega), hx i h0 (by omega)]; simp only [Option.bind_some]; rw [if_neg (fun h => hc h.symm), hw]; exact e1
      · simp only [slices_Index_string_string.l0]; rw [if_pos (by omega), if_pos h0, if_pos (by omega), if_neg hc, hw]; exact e2

theorem FnExactCodeOf : laws_FnExactCodeOf.Pure := by
  intro t _
  refine ⟨21, ?_⟩
  unfold laws_FnExactCodeOf.f
  by_cases hb : (t.size : Int) > 1048576
  · rw [if_pos hb]
  · rw [if_neg hb]
    obtain ⟨x, hx⟩ : ∃ x, impl_codeWords.f = some x := ⟨_, rfl⟩
    obtain ⟨hl, hs⟩ := words_at x hx
    obtain ⟨r, e1, e2⟩ := finds x hl hs t 20 21 0 (by omega) (by omega) (by omega)
    unfold spec_CodeOf.f impl_CodeOf.f slices_Index_string_string.f
    rw [hx, e1]
    simp only [Option.bind_some]
    rw [e2]
    simp

end Go.Proofs.Ytnekclmnknehkaa.Pure
