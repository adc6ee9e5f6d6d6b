/- Pure part of FnExactConstants: every constant is the document's; the printed law is literally 'some true'. No condition. -/
import Derived.Test.YtnekclmnknehkaaPFnExactConstantsx1
namespace Go.Proofs.Ytnekclmnknehkaa.Pure
open Go.RowKit Go.Proofs.Ytnekclmnknehkaa.PFnExactConstants Go.Proofs.YtnekclmnknehkaaW.PrintWords Go.Proofs.YtnekclmnknehkaaW.PrintLast

theorem FnExactConstants : laws_FnExactConstants.Pure := rfl

end Go.Proofs.Ytnekclmnknehkaa.Pure
