/-
  No cell of these rows narrows 'for every input' (looked for: loops, veiled, ifaces, maps, wideKeys, modest, calm, conditions, laid).
  DERIVED. THE GIVEN ROWS OF THIS SEAT. 10 by the template 'for every input the law returns true; each argument reads behind the call as it read before'; 0 by the template 'total and deterministic' (their statements: YtnekclmnknehkaaTotals.lean).
  GIVEN WITH THE SEED: the statements are not yours to turn. If you find one false, say at which input.
  Laid BY PROGRAM, IN A SANDBOX (cutbox-rows.mjs): the forced cells as the released guide's own fill.sh prints them over the translation d805efbe69afaec3… (all of the seat's roots in one cut). By AI agents, Wed Nov 11 2026. No macro, syntax, notation, axiom, sorry.
-/
import Derived.Test.YtnekclmnknehkaaChecked
import GoSem.Claim
import GoSem.ClaimJoined
import GoSem.ClaimMapViews
import Derived.JoinedTies
import Derived.KernelRfl
namespace Go.Proofs.Ytnekclmnknehkaa
/- THE CELL 'sum', in the pinned program and in every row, IS THE sha256 OF THE DUMP (.gsa) THAT YtnekclmnknehkaaProg.lean LOADS. Nothing in Lean hashes anything: it is a label: what it is worth is what the hold of that sum in a sandbox is worth. -/
noncomputable def Try.pinned : Pinned := { name := "ytnekclmnknehkaa", sum := "d805efbe69afaec382c770de924b6f065fc77172ac8505c45223519589c9f54d", checked := Try.checked }
namespace Rows
def none {H : Type} : Left H := { results := [], args := [] }

/-- 'laws.FnExactConstants': WHATEVER THE INPUT: true; the input reads as it did. -/
def fnExactConstantsSpec : ChangeSpec := { name := "fnExactConstants", fn := fun _ => fun
  | [] => { results := [.lit (.bool true)], args := [] }
  | _ => none }
def fnExactConstantsRow : OpenClaim := { program := "ytnekclmnknehkaa", sum := "d805efbe69afaec382c770de924b6f065fc77172ac8505c45223519589c9f54d", func := "loop.example/g00540/laws.FnExactConstants", spec := "fnExactConstants", apart := false }
def FnExactConstantsSaid : Prop := fnExactConstantsRow.holds Try.pinned (OpenSpec.ofChange fnExactConstantsSpec)

/-- ITS FALSE NEIGHBOUR: 'it returns false'. Refute it at one input. -/
def fnExactConstantsWrong : ChangeSpec := { name := "fnExactConstants", fn := fun _ => fun
  | [] => { results := [.lit (.bool false)], args := [] }
  | _ => none }
def FnExactConstantsWrongFalsely : Prop := fnExactConstantsRow.holds Try.pinned (OpenSpec.ofChange fnExactConstantsWrong)

/-- 'laws.FnExactIsInt': WHATEVER THE INPUT: true; the input reads as it did. -/
def fnExactIsIntSpec : ChangeSpec := { name := "fnExactIsInt", fn := fun _ => fun
  | [d] => { results := [.lit (.bool true)], args := [d] }
  | _ => none }
def fnExactIsIntRow : OpenClaim := { program := "ytnekclmnknehkaa", sum := "d805efbe69afaec382c770de924b6f065fc77172ac8505c45223519589c9f54d", func := "loop.example/g00540/laws.FnExactIsInt", spec := "fnExactIsInt", apart := false }
def FnExactIsIntSaid : Prop := fnExactIsIntRow.holds Try.pinned (OpenSpec.ofChange fnExactIsIntSpec)

/-- ITS FALSE NEIGHBOUR: 'it returns false'. Refute it at one input. -/
def fnExactIsIntWrong : ChangeSpec := { name := "fnExactIsInt", fn := fun _ => fun
  | [d] => { results := [.lit (.bool false)], args := [d] }
  | _ => none }
def FnExactIsIntWrongFalsely : Prop := fnExactIsIntRow.holds Try.pinned (OpenSpec.ofChange fnExactIsIntWrong)

/-- 'laws.FnExactCodeWord': WHATEVER THE INPUT: true; the input reads as it did. -/
def fnExactCodeWordSpec : ChangeSpec := { name := "fnExactCodeWord", fn := fun _ => fun
  | [d] => { results := [.lit (.bool true)], args := [d] }
  | _ => none }
def fnExactCodeWordRow : OpenClaim := { program := "ytnekclmnknehkaa", sum := "d805efbe69afaec382c770de924b6f065fc77172ac8505c45223519589c9f54d", func := "loop.example/g00540/laws.FnExactCodeWord", spec := "fnExactCodeWord", apart := false }
def FnExactCodeWordSaid : Prop := fnExactCodeWordRow.holds Try.pinned (OpenSpec.ofChange fnExactCodeWordSpec)

/-- ITS FALSE NEIGHBOUR: 'it returns false'. Refute it at one input. -/
def fnExactCodeWordWrong : ChangeSpec := { name := "fnExactCodeWord", fn := fun _ => fun
  | [d] => { results := [.lit (.bool false)], args := [d] }
  | _ => none }
def FnExactCodeWordWrongFalsely : Prop := fnExactCodeWordRow.holds Try.pinned (OpenSpec.ofChange fnExactCodeWordWrong)

/-- 'laws.FnExactCodeOf': WHATEVER THE INPUT: true; the input reads as it did. -/
def fnExactCodeOfSpec : ChangeSpec := { name := "fnExactCodeOf", fn := fun _ => fun
  | [d] => { results := [.lit (.bool true)], args := [d] }
  | _ => none }
def fnExactCodeOfRow : OpenClaim := { program := "ytnekclmnknehkaa", sum := "d805efbe69afaec382c770de924b6f065fc77172ac8505c45223519589c9f54d", func := "loop.example/g00540/laws.FnExactCodeOf", spec := "fnExactCodeOf", apart := false }
def FnExactCodeOfSaid : Prop := fnExactCodeOfRow.holds Try.pinned (OpenSpec.ofChange fnExactCodeOfSpec)

/-- ITS FALSE NEIGHBOUR: 'it returns false'. Refute it at one input. -/
def fnExactCodeOfWrong : ChangeSpec := { name := "fnExactCodeOf", fn := fun _ => fun
  | [d] => { results := [.lit (.bool false)], args := [d] }
  | _ => none }
def FnExactCodeOfWrongFalsely : Prop := fnExactCodeOfRow.holds Try.pinned (OpenSpec.ofChange fnExactCodeOfWrong)

/-- 'laws.FnExactNameOK': WHATEVER THE INPUT: true; the input reads as it did. -/
def fnExactNameOKSpec : ChangeSpec := { name := "fnExactNameOK", fn := fun _ => fun
  | [d] => { results := [.lit (.bool true)], args := [d] }
  | _ => none }
def fnExactNameOKRow : OpenClaim := { program := "ytnekclmnknehkaa", sum := "d805efbe69afaec382c770de924b6f065fc77172ac8505c45223519589c9f54d", func := "loop.example/g00540/laws.FnExactNameOK", spec := "fnExactNameOK", apart := false }
def FnExactNameOKSaid : Prop := fnExactNameOKRow.holds Try.pinned (OpenSpec.ofChange fnExactNameOKSpec)

/-- ITS FALSE NEIGHBOUR: 'it returns false'. Refute it at one input. -/
def fnExactNameOKWrong : ChangeSpec := { name := "fnExactNameOK", fn := fun _ => fun
  | [d] => { results := [.lit (.bool false)], args := [d] }
  | _ => none }
def FnExactNameOKWrongFalsely : Prop := fnExactNameOKRow.holds Try.pinned (OpenSpec.ofChange fnExactNameOKWrong)

/-- 'laws.FnExactErrorText': WHATEVER THE INPUT: true; the input reads as it did. -/
def fnExactErrorTextSpec : ChangeSpec := { name := "fnExactErrorText", fn := fun _ => fun
  | [d] => { results := [.lit (.bool true)], args := [d] }
  | _ => none }
def fnExactErrorTextRow : OpenClaim := { program := "ytnekclmnknehkaa", sum := "d805efbe69afaec382c770de924b6f065fc77172ac8505c45223519589c9f54d", func := "loop.example/g00540/laws.FnExactErrorText", spec := "fnExactErrorText", apart := false }
def FnExactErrorTextSaid : Prop := fnExactErrorTextRow.holds Try.pinned (OpenSpec.ofChange fnExactErrorTextSpec)

/-- ITS FALSE NEIGHBOUR: 'it returns false'. Refute it at one input. -/
def fnExactErrorTextWrong : ChangeSpec := { name := "fnExactErrorText", fn := fun _ => fun
  | [d] => { results := [.lit (.bool false)], args := [d] }
  | _ => none }
def FnExactErrorTextWrongFalsely : Prop := fnExactErrorTextRow.holds Try.pinned (OpenSpec.ofChange fnExactErrorTextWrong)

/-- 'laws.FnExactActOK': WHATEVER THE INPUT: true; the input reads as it did. -/
def fnExactActOKSpec : ChangeSpec := { name := "fnExactActOK", fn := fun _ => fun
  | [d] => { results := [.lit (.bool true)], args := [d] }
  | _ => none }
def fnExactActOKRow : OpenClaim := { program := "ytnekclmnknehkaa", sum := "d805efbe69afaec382c770de924b6f065fc77172ac8505c45223519589c9f54d", func := "loop.example/g00540/laws.FnExactActOK", spec := "fnExactActOK", unfollowed := true, recurses := true, apart := false }
def FnExactActOKSaid : Prop := fnExactActOKRow.holds Try.pinned (OpenSpec.ofChange fnExactActOKSpec)

/-- ITS FALSE NEIGHBOUR: 'it returns false'. Refute it at one input. -/
def fnExactActOKWrong : ChangeSpec := { name := "fnExactActOK", fn := fun _ => fun
  | [d] => { results := [.lit (.bool false)], args := [d] }
  | _ => none }
def FnExactActOKWrongFalsely : Prop := fnExactActOKRow.holds Try.pinned (OpenSpec.ofChange fnExactActOKWrong)

/-- 'laws.FnExactValueOK': WHATEVER THE INPUT: true; the input reads as it did. -/
def fnExactValueOKSpec : ChangeSpec := { name := "fnExactValueOK", fn := fun _ => fun
  | [d] => { results := [.lit (.bool true)], args := [d] }
  | _ => none }
def fnExactValueOKRow : OpenClaim := { program := "ytnekclmnknehkaa", sum := "d805efbe69afaec382c770de924b6f065fc77172ac8505c45223519589c9f54d", func := "loop.example/g00540/laws.FnExactValueOK", spec := "fnExactValueOK", apart := false }
def FnExactValueOKSaid : Prop := fnExactValueOKRow.holds Try.pinned (OpenSpec.ofChange fnExactValueOKSpec)

/-- ITS FALSE NEIGHBOUR: 'it returns false'. Refute it at one input. -/
def fnExactValueOKWrong : ChangeSpec := { name := "fnExactValueOK", fn := fun _ => fun
  | [d] => { results := [.lit (.bool false)], args := [d] }
  | _ => none }
def FnExactValueOKWrongFalsely : Prop := fnExactValueOKRow.holds Try.pinned (OpenSpec.ofChange fnExactValueOKWrong)

/-- 'laws.FnExactTokenOK': WHATEVER THE INPUT: true; the input reads as it did. -/
def fnExactTokenOKSpec : ChangeSpec := { name := "fnExactTokenOK", fn := fun _ => fun
  | [d] => { results := [.lit (.bool true)], args := [d] }
  | _ => none }
def fnExactTokenOKRow : OpenClaim := { program := "ytnekclmnknehkaa", sum := "d805efbe69afaec382c770de924b6f065fc77172ac8505c45223519589c9f54d", func := "loop.example/g00540/laws.FnExactTokenOK", spec := "fnExactTokenOK", apart := false }
def FnExactTokenOKSaid : Prop := fnExactTokenOKRow.holds Try.pinned (OpenSpec.ofChange fnExactTokenOKSpec)

/-- ITS FALSE NEIGHBOUR: 'it returns false'. Refute it at one input. -/
def fnExactTokenOKWrong : ChangeSpec := { name := "fnExactTokenOK", fn := fun _ => fun
  | [d] => { results := [.lit (.bool false)], args := [d] }
  | _ => none }
def FnExactTokenOKWrongFalsely : Prop := fnExactTokenOKRow.holds Try.pinned (OpenSpec.ofChange fnExactTokenOKWrong)

/-- 'laws.FnExactNewStore': WHATEVER THE INPUT: true; the input reads as it did. -/
def fnExactNewStoreSpec : ChangeSpec := { name := "fnExactNewStore", fn := fun _ => fun
  | [] => { results := [.lit (.bool true)], args := [] }
  | _ => none }
def fnExactNewStoreRow : OpenClaim := { program := "ytnekclmnknehkaa", sum := "d805efbe69afaec382c770de924b6f065fc77172ac8505c45223519589c9f54d", func := "loop.example/g00540/laws.FnExactNewStore", spec := "fnExactNewStore", apart := false }
def FnExactNewStoreSaid : Prop := fnExactNewStoreRow.holds Try.pinned (OpenSpec.ofChange fnExactNewStoreSpec)

/-- ITS FALSE NEIGHBOUR: 'it returns false'. Refute it at one input. -/
def fnExactNewStoreWrong : ChangeSpec := { name := "fnExactNewStore", fn := fun _ => fun
  | [] => { results := [.lit (.bool false)], args := [] }
  | _ => none }
def FnExactNewStoreWrongFalsely : Prop := fnExactNewStoreRow.holds Try.pinned (OpenSpec.ofChange fnExactNewStoreWrong)

/- THE SECOND FORM. 'bulk': how many values and letters a reading holds, each counted each time it is reached (what is shared counts as often as it is met; a slice's spare places count too). A statement '..UptoSaid' is the law's where the arguments, and the package variables that the reading takes, are together of bulk at most 1048576: NARROWER than '..Said'. Prove '..Said' where nothing that the law and all that it calls make is longer than what came in: it says more and counts as full. Else prove '..UptoSaid'. A law counts once. -/
mutual
def uptoBulk {H : Type} : DataW H → Nat
  | .lit (.string bytes) => bytes.length + 1
  | .lit _ => 1
  | .nil => 1
  | .ptr d => uptoBulk d + 1
  | .slice elems spare => uptoBulkAll elems + uptoBulkAll spare + 1
  | .agg parts => uptoBulkAll parts + 1
  | .iface _ d => uptoBulk d + 1
  | .map entries => uptoBulkEntries entries + 1
  | .held _ => 1
def uptoBulkAll {H : Type} : List (DataW H) → Nat
  | [] => 0
  | d :: r => uptoBulk d + uptoBulkAll r
def uptoBulkEntries {H : Type} : List (Lit × DataW H) → Nat
  | [] => 0
  | x :: r => uptoBulkEntry x + uptoBulkEntries r
def uptoBulkEntry {H : Type} : Lit × DataW H → Nat
  | (.string bytes, d) => bytes.length + uptoBulk d + 1
  | (_, d) => uptoBulk d + 1
 end
def uptoSmall : (H : Type) → List (DataW H) → Bool := fun _ ds => decide (uptoBulkAll ds ≤ 1048576)
def OpenSpec.upto (s : _root_.Go.ChangeSpec) : _root_.Go.OpenSpec := { _root_.Go.OpenSpec.ofChange s with cond := some uptoSmall }

/-- 'laws.FnExactConstants', WHERE WHAT IT READS IS OF BULK AT MOST 1048576: true; the input reads as it did. -/
def fnExactConstantsUptoRow : OpenClaim := { program := "ytnekclmnknehkaa", sum := "d805efbe69afaec382c770de924b6f065fc77172ac8505c45223519589c9f54d", func := "loop.example/g00540/laws.FnExactConstants", spec := "fnExactConstants", apart := false, narrowed := true }
def FnExactConstantsUptoSaid : Prop := fnExactConstantsUptoRow.holds Try.pinned (OpenSpec.upto fnExactConstantsSpec)

/-- 'laws.FnExactIsInt', WHERE WHAT IT READS IS OF BULK AT MOST 1048576: true; the input reads as it did. -/
def fnExactIsIntUptoRow : OpenClaim := { program := "ytnekclmnknehkaa", sum := "d805efbe69afaec382c770de924b6f065fc77172ac8505c45223519589c9f54d", func := "loop.example/g00540/laws.FnExactIsInt", spec := "fnExactIsInt", apart := false, narrowed := true }
def FnExactIsIntUptoSaid : Prop := fnExactIsIntUptoRow.holds Try.pinned (OpenSpec.upto fnExactIsIntSpec)

/-- 'laws.FnExactCodeWord', WHERE WHAT IT READS IS OF BULK AT MOST 1048576: true; the input reads as it did. -/
def fnExactCodeWordUptoRow : OpenClaim := { program := "ytnekclmnknehkaa", sum := "d805efbe69afaec382c770de924b6f065fc77172ac8505c45223519589c9f54d", func := "loop.example/g00540/laws.FnExactCodeWord", spec := "fnExactCodeWord", apart := false, narrowed := true }
def FnExactCodeWordUptoSaid : Prop := fnExactCodeWordUptoRow.holds Try.pinned (OpenSpec.upto fnExactCodeWordSpec)

/-- 'laws.FnExactCodeOf', WHERE WHAT IT READS IS OF BULK AT MOST 1048576: true; the input reads as it did. -/
def fnExactCodeOfUptoRow : OpenClaim := { program := "ytnekclmnknehkaa", sum := "d805efbe69afaec382c770de924b6f065fc77172ac8505c45223519589c9f54d", func := "loop.example/g00540/laws.FnExactCodeOf", spec := "fnExactCodeOf", apart := false, narrowed := true }
def FnExactCodeOfUptoSaid : Prop := fnExactCodeOfUptoRow.holds Try.pinned (OpenSpec.upto fnExactCodeOfSpec)

/-- 'laws.FnExactNameOK', WHERE WHAT IT READS IS OF BULK AT MOST 1048576: true; the input reads as it did. -/
def fnExactNameOKUptoRow : OpenClaim := { program := "ytnekclmnknehkaa", sum := "d805efbe69afaec382c770de924b6f065fc77172ac8505c45223519589c9f54d", func := "loop.example/g00540/laws.FnExactNameOK", spec := "fnExactNameOK", apart := false, narrowed := true }
def FnExactNameOKUptoSaid : Prop := fnExactNameOKUptoRow.holds Try.pinned (OpenSpec.upto fnExactNameOKSpec)

/-- 'laws.FnExactErrorText', WHERE WHAT IT READS IS OF BULK AT MOST 1048576: true; the input reads as it did. -/
def fnExactErrorTextUptoRow : OpenClaim := { program := "ytnekclmnknehkaa", sum := "d805efbe69afaec382c770de924b6f065fc77172ac8505c45223519589c9f54d", func := "loop.example/g00540/laws.FnExactErrorText", spec := "fnExactErrorText", apart := false, narrowed := true }
def FnExactErrorTextUptoSaid : Prop := fnExactErrorTextUptoRow.holds Try.pinned (OpenSpec.upto fnExactErrorTextSpec)

/-- 'laws.FnExactActOK', WHERE WHAT IT READS IS OF BULK AT MOST 1048576: true; the input reads as it did. -/
def fnExactActOKUptoRow : OpenClaim := { program := "ytnekclmnknehkaa", sum := "d805efbe69afaec382c770de924b6f065fc77172ac8505c45223519589c9f54d", func := "loop.example/g00540/laws.FnExactActOK", spec := "fnExactActOK", unfollowed := true, recurses := true, apart := false, narrowed := true }
def FnExactActOKUptoSaid : Prop := fnExactActOKUptoRow.holds Try.pinned (OpenSpec.upto fnExactActOKSpec)

/-- 'laws.FnExactValueOK', WHERE WHAT IT READS IS OF BULK AT MOST 1048576: true; the input reads as it did. -/
def fnExactValueOKUptoRow : OpenClaim := { program := "ytnekclmnknehkaa", sum := "d805efbe69afaec382c770de924b6f065fc77172ac8505c45223519589c9f54d", func := "loop.example/g00540/laws.FnExactValueOK", spec := "fnExactValueOK", apart := false, narrowed := true }
def FnExactValueOKUptoSaid : Prop := fnExactValueOKUptoRow.holds Try.pinned (OpenSpec.upto fnExactValueOKSpec)

/-- 'laws.FnExactTokenOK', WHERE WHAT IT READS IS OF BULK AT MOST 1048576: true; the input reads as it did. -/
def fnExactTokenOKUptoRow : OpenClaim := { program := "ytnekclmnknehkaa", sum := "d805efbe69afaec382c770de924b6f065fc77172ac8505c45223519589c9f54d", func := "loop.example/g00540/laws.FnExactTokenOK", spec := "fnExactTokenOK", apart := false, narrowed := true }
def FnExactTokenOKUptoSaid : Prop := fnExactTokenOKUptoRow.holds Try.pinned (OpenSpec.upto fnExactTokenOKSpec)

/-- 'laws.FnExactNewStore', WHERE WHAT IT READS IS OF BULK AT MOST 1048576: true; the input reads as it did. -/
def fnExactNewStoreUptoRow : OpenClaim := { program := "ytnekclmnknehkaa", sum := "d805efbe69afaec382c770de924b6f065fc77172ac8505c45223519589c9f54d", func := "loop.example/g00540/laws.FnExactNewStore", spec := "fnExactNewStore", apart := false, narrowed := true }
def FnExactNewStoreUptoSaid : Prop := fnExactNewStoreUptoRow.holds Try.pinned (OpenSpec.upto fnExactNewStoreSpec)

end Rows
end Go.Proofs.Ytnekclmnknehkaa
