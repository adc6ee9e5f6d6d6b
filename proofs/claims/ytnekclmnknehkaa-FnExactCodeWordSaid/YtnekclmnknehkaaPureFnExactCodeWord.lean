/- Pure part of FnExactCodeWord: at every whole number of 64 bits the program's CodeWord and the reference's answer alike. No condition. -/
import Derived.Test.YtnekclmnknehkaaPFnExactCodeWordx1
namespace Go.Proofs.Ytnekclmnknehkaa.Pure
open Go.RowKit Go.Proofs.Ytnekclmnknehkaa.PFnExactCodeWord Go.Proofs.YtnekclmnknehkaaW.PrintWords Go.Proofs.YtnekclmnknehkaaW.PrintLast

theorem FnExactCodeWord : laws_FnExactCodeWord.Pure := by
  intro a0 _
  unfold laws_FnExactCodeWord.f spec_CodeWord.f impl_CodeWord.f impl_within.f impl_codeWords.f
  simp only [Option.bind_some, List.length_cons, List.length_nil]
  by_cases h0 : a0 < 0
  · simp [h0, show ¬ (0 ≤ a0) by omega]
  · by_cases h1 : a0 < 20
    · simp [h0, h1, show 0 ≤ a0 by omega, show ¬ (20 ≤ a0) by omega, show a0 ≤ 19 by omega]
    · simp [h0, h1, show 0 ≤ a0 by omega, show 20 ≤ a0 by omega, show ¬ (a0 ≤ 19) by omega]

end Go.Proofs.Ytnekclmnknehkaa.Pure
