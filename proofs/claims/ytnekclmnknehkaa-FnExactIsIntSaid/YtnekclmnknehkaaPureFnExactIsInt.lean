/- Pure part of FnExactIsInt: at every whole number of 64 bits the program's IsInt and the reference's answer alike. No condition. -/
import Derived.Test.YtnekclmnknehkaaPFnExactIsIntx1
namespace Go.Proofs.Ytnekclmnknehkaa.Pure
open Go.RowKit Go.Proofs.Ytnekclmnknehkaa.PFnExactIsInt Go.Proofs.YtnekclmnknehkaaW.PrintWords Go.Proofs.YtnekclmnknehkaaW.PrintLast

theorem FnExactIsInt : laws_FnExactIsInt.Pure := by
  intro a0 _
  unfold laws_FnExactIsInt.f spec_IsInt.f impl_IsInt.f spec_l01In.f impl_within.f
  by_cases h : (-2147483648 : Int) ≤ a0
  · simp [h]
  · simp [h]

end Go.Proofs.Ytnekclmnknehkaa.Pure
