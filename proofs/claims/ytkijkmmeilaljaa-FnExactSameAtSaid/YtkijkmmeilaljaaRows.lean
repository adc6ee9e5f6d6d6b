/-
  No cell of these rows narrows 'for every input' (looked for: loops, veiled, ifaces, maps, wideKeys, modest, calm, conditions, laid).
  DERIVED. THE GIVEN ROWS OF THIS SEAT. 8 by the template 'for every input the law returns true; each argument reads behind the call as it read before'; 0 by the template 'total and deterministic' (their statements: YtkijkmmeilaljaaTotals.lean).
  GIVEN WITH THE SEED: the statements are not yours to turn. If you find one false, say at which input.
  Laid BY PROGRAM, IN A SANDBOX (cutbox-rows.mjs): the forced cells as the released guide's own fill.sh prints them over the translation 886cc1f3d90dd77d… (all of the seat's roots in one cut). By AI agents, Wed Nov 11 2026. No macro, syntax, notation, axiom, sorry.
-/
import Derived.Test.YtkijkmmeilaljaaChecked
import GoSem.Claim
import GoSem.ClaimJoined
import GoSem.ClaimMapViews
import Derived.JoinedTies
import Derived.KernelRfl
namespace Go.Proofs.Ytkijkmmeilaljaa
/- THE CELL 'sum', in the pinned program and in every row, IS THE sha256 OF THE DUMP (.gsa) THAT YtkijkmmeilaljaaProg.lean LOADS. Nothing in Lean hashes anything: it is a label: what it is worth is what the hold of that sum in a sandbox is worth. -/
noncomputable def Try.pinned : Pinned := { name := "ytkijkmmeilaljaa", sum := "886cc1f3d90dd77d2d85b4739872541fc13a62982427836853755a6a9c9ddc05", checked := Try.checked }
namespace Rows
def none {H : Type} : Left H := { results := [], args := [] }

/-- 'laws.FnExactStoreOK': WHATEVER THE INPUT: true; the input reads as it did. -/
def fnExactStoreOKSpec : ChangeSpec := { name := "fnExactStoreOK", fn := fun _ => fun
  | [d] => { results := [.lit (.bool true)], args := [d] }
  | _ => none }
def fnExactStoreOKRow : OpenClaim := { program := "ytkijkmmeilaljaa", sum := "886cc1f3d90dd77d2d85b4739872541fc13a62982427836853755a6a9c9ddc05", func := "loop.example/g00540/laws.FnExactStoreOK", spec := "fnExactStoreOK", apart := false }
def FnExactStoreOKSaid : Prop := fnExactStoreOKRow.holds Try.pinned (OpenSpec.ofChange fnExactStoreOKSpec)

/-- ITS FALSE NEIGHBOUR: 'it returns false'. Refute it at one input. -/
def fnExactStoreOKWrong : ChangeSpec := { name := "fnExactStoreOK", fn := fun _ => fun
  | [d] => { results := [.lit (.bool false)], args := [d] }
  | _ => none }
def FnExactStoreOKWrongFalsely : Prop := fnExactStoreOKRow.holds Try.pinned (OpenSpec.ofChange fnExactStoreOKWrong)

/-- 'laws.FnExactSizeOf': WHATEVER THE INPUT: true; the input reads as it did. -/
def fnExactSizeOfSpec : ChangeSpec := { name := "fnExactSizeOf", fn := fun _ => fun
  | [d] => { results := [.lit (.bool true)], args := [d] }
  | _ => none }
def fnExactSizeOfRow : OpenClaim := { program := "ytkijkmmeilaljaa", sum := "886cc1f3d90dd77d2d85b4739872541fc13a62982427836853755a6a9c9ddc05", func := "loop.example/g00540/laws.FnExactSizeOf", spec := "fnExactSizeOf", apart := false }
def FnExactSizeOfSaid : Prop := fnExactSizeOfRow.holds Try.pinned (OpenSpec.ofChange fnExactSizeOfSpec)

/-- ITS FALSE NEIGHBOUR: 'it returns false'. Refute it at one input. -/
def fnExactSizeOfWrong : ChangeSpec := { name := "fnExactSizeOf", fn := fun _ => fun
  | [d] => { results := [.lit (.bool false)], args := [d] }
  | _ => none }
def FnExactSizeOfWrongFalsely : Prop := fnExactSizeOfRow.holds Try.pinned (OpenSpec.ofChange fnExactSizeOfWrong)

/-- 'laws.FnExactChangedSince': WHATEVER THE INPUT: true; the input reads as it did. -/
def fnExactChangedSinceSpec : ChangeSpec := { name := "fnExactChangedSince", fn := fun _ => fun
  | [d1, d2, d3] => { results := [.lit (.bool true)], args := [d1, d2, d3] }
  | _ => none }
def fnExactChangedSinceRow : OpenClaim := { program := "ytkijkmmeilaljaa", sum := "886cc1f3d90dd77d2d85b4739872541fc13a62982427836853755a6a9c9ddc05", func := "loop.example/g00540/laws.FnExactChangedSince", spec := "fnExactChangedSince", apart := false }
def FnExactChangedSinceSaid : Prop := fnExactChangedSinceRow.holds Try.pinned (OpenSpec.ofChange fnExactChangedSinceSpec)

/-- ITS FALSE NEIGHBOUR: 'it returns false'. Refute it at one input. -/
def fnExactChangedSinceWrong : ChangeSpec := { name := "fnExactChangedSince", fn := fun _ => fun
  | [d1, d2, d3] => { results := [.lit (.bool false)], args := [d1, d2, d3] }
  | _ => none }
def FnExactChangedSinceWrongFalsely : Prop := fnExactChangedSinceRow.holds Try.pinned (OpenSpec.ofChange fnExactChangedSinceWrong)

/-- 'laws.FnExactKeysSince': WHATEVER THE INPUT: true; the input reads as it did. -/
def fnExactKeysSinceSpec : ChangeSpec := { name := "fnExactKeysSince", fn := fun _ => fun
  | [d1, d2] => { results := [.lit (.bool true)], args := [d1, d2] }
  | _ => none }
def fnExactKeysSinceRow : OpenClaim := { program := "ytkijkmmeilaljaa", sum := "886cc1f3d90dd77d2d85b4739872541fc13a62982427836853755a6a9c9ddc05", func := "loop.example/g00540/laws.FnExactKeysSince", spec := "fnExactKeysSince", apart := false }
def FnExactKeysSinceSaid : Prop := fnExactKeysSinceRow.holds Try.pinned (OpenSpec.ofChange fnExactKeysSinceSpec)

/-- ITS FALSE NEIGHBOUR: 'it returns false'. Refute it at one input. -/
def fnExactKeysSinceWrong : ChangeSpec := { name := "fnExactKeysSince", fn := fun _ => fun
  | [d1, d2] => { results := [.lit (.bool false)], args := [d1, d2] }
  | _ => none }
def FnExactKeysSinceWrongFalsely : Prop := fnExactKeysSinceRow.holds Try.pinned (OpenSpec.ofChange fnExactKeysSinceWrong)

/-- 'laws.FnExactReadAt': WHATEVER THE INPUT: true; the input reads as it did. -/
def fnExactReadAtSpec : ChangeSpec := { name := "fnExactReadAt", fn := fun _ => fun
  | [d1, d2, d3] => { results := [.lit (.bool true)], args := [d1, d2, d3] }
  | _ => none }
def fnExactReadAtRow : OpenClaim := { program := "ytkijkmmeilaljaa", sum := "886cc1f3d90dd77d2d85b4739872541fc13a62982427836853755a6a9c9ddc05", func := "loop.example/g00540/laws.FnExactReadAt", spec := "fnExactReadAt", unfollowed := true, recurses := true, apart := false }
def FnExactReadAtSaid : Prop := fnExactReadAtRow.holds Try.pinned (OpenSpec.ofChange fnExactReadAtSpec)

/-- ITS FALSE NEIGHBOUR: 'it returns false'. Refute it at one input. -/
def fnExactReadAtWrong : ChangeSpec := { name := "fnExactReadAt", fn := fun _ => fun
  | [d1, d2, d3] => { results := [.lit (.bool false)], args := [d1, d2, d3] }
  | _ => none }
def FnExactReadAtWrongFalsely : Prop := fnExactReadAtRow.holds Try.pinned (OpenSpec.ofChange fnExactReadAtWrong)

/-- 'laws.FnExactSameAt': WHATEVER THE INPUT: true; the input reads as it did. -/
def fnExactSameAtSpec : ChangeSpec := { name := "fnExactSameAt", fn := fun _ => fun
  | [d1, d2] => { results := [.lit (.bool true)], args := [d1, d2] }
  | _ => none }
def fnExactSameAtRow : OpenClaim := { program := "ytkijkmmeilaljaa", sum := "886cc1f3d90dd77d2d85b4739872541fc13a62982427836853755a6a9c9ddc05", func := "loop.example/g00540/laws.FnExactSameAt", spec := "fnExactSameAt", unfollowed := true, recurses := true, apart := false }
def FnExactSameAtSaid : Prop := fnExactSameAtRow.holds Try.pinned (OpenSpec.ofChange fnExactSameAtSpec)

/-- ITS FALSE NEIGHBOUR: 'it returns false'. Refute it at one input. -/
def fnExactSameAtWrong : ChangeSpec := { name := "fnExactSameAt", fn := fun _ => fun
  | [d1, d2] => { results := [.lit (.bool false)], args := [d1, d2] }
  | _ => none }
def FnExactSameAtWrongFalsely : Prop := fnExactSameAtRow.holds Try.pinned (OpenSpec.ofChange fnExactSameAtWrong)

/-- 'laws.FnExactBegin': WHATEVER THE INPUT: true; the input reads as it did. -/
def fnExactBeginSpec : ChangeSpec := { name := "fnExactBegin", fn := fun _ => fun
  | [d] => { results := [.lit (.bool true)], args := [d] }
  | _ => none }
def fnExactBeginRow : OpenClaim := { program := "ytkijkmmeilaljaa", sum := "886cc1f3d90dd77d2d85b4739872541fc13a62982427836853755a6a9c9ddc05", func := "loop.example/g00540/laws.FnExactBegin", spec := "fnExactBegin", apart := false }
def FnExactBeginSaid : Prop := fnExactBeginRow.holds Try.pinned (OpenSpec.ofChange fnExactBeginSpec)

/-- ITS FALSE NEIGHBOUR: 'it returns false'. Refute it at one input. -/
def fnExactBeginWrong : ChangeSpec := { name := "fnExactBegin", fn := fun _ => fun
  | [d] => { results := [.lit (.bool false)], args := [d] }
  | _ => none }
def FnExactBeginWrongFalsely : Prop := fnExactBeginRow.holds Try.pinned (OpenSpec.ofChange fnExactBeginWrong)

/-- 'laws.FnExactForget': WHATEVER THE INPUT: true; the input reads as it did. -/
def fnExactForgetSpec : ChangeSpec := { name := "fnExactForget", fn := fun _ => fun
  | [d1, d2] => { results := [.lit (.bool true)], args := [d1, d2] }
  | _ => none }
def fnExactForgetRow : OpenClaim := { program := "ytkijkmmeilaljaa", sum := "886cc1f3d90dd77d2d85b4739872541fc13a62982427836853755a6a9c9ddc05", func := "loop.example/g00540/laws.FnExactForget", spec := "fnExactForget", apart := false }
def FnExactForgetSaid : Prop := fnExactForgetRow.holds Try.pinned (OpenSpec.ofChange fnExactForgetSpec)

/-- ITS FALSE NEIGHBOUR: 'it returns false'. Refute it at one input. -/
def fnExactForgetWrong : ChangeSpec := { name := "fnExactForget", fn := fun _ => fun
  | [d1, d2] => { results := [.lit (.bool false)], args := [d1, d2] }
  | _ => none }
def FnExactForgetWrongFalsely : Prop := fnExactForgetRow.holds Try.pinned (OpenSpec.ofChange fnExactForgetWrong)

/- THE SECOND FORM. 'bulk': how many values and letters a reading holds, each counted each time it is reached (what is shared counts as often as it is met; a slice's spare places count too). A statement '..UptoSaid' is the law's where the arguments, and the package variables that the reading takes, are together of bulk at most 1048576: NARROWER than '..Said'. Prove '..Said' where nothing that the law and all that it calls make is longer than what came in: it says more and counts as full. Else prove '..UptoSaid'. A law counts once. -/
mutual
def uptoBulk {H : Type} : DataW H → Nat
  | .lit (.string bytes) => bytes.length + 1
  | .lit _ => 1
  | .nil => 1
  | .ptr d => uptoBulk d + 1
  | .slice elems spare => uptoBulkAll elems + uptoBulkAll spare + 1
  | .agg parts => uptoBulkAll parts + 1
  | .iface _ d => uptoBulk d + 1
  | .map entries => uptoBulkEntries entries + 1
  | .held _ => 1
def uptoBulkAll {H : Type} : List (DataW H) → Nat
  | [] => 0
  | d :: r => uptoBulk d + uptoBulkAll r
def uptoBulkEntries {H : Type} : List (Lit × DataW H) → Nat
  | [] => 0
  | x :: r => uptoBulkEntry x + uptoBulkEntries r
def uptoBulkEntry {H : Type} : Lit × DataW H → Nat
  | (.string bytes, d) => bytes.length + uptoBulk d + 1
  | (_, d) => uptoBulk d + 1
 end
def uptoSmall : (H : Type) → List (DataW H) → Bool := fun _ ds => decide (uptoBulkAll ds ≤ 1048576)
def OpenSpec.upto (s : _root_.Go.ChangeSpec) : _root_.Go.OpenSpec := { _root_.Go.OpenSpec.ofChange s with cond := some uptoSmall }

/-- 'laws.FnExactStoreOK', WHERE WHAT IT READS IS OF BULK AT MOST 1048576: true; the input reads as it did. -/
def fnExactStoreOKUptoRow : OpenClaim := { program := "ytkijkmmeilaljaa", sum := "886cc1f3d90dd77d2d85b4739872541fc13a62982427836853755a6a9c9ddc05", func := "loop.example/g00540/laws.FnExactStoreOK", spec := "fnExactStoreOK", apart := false, narrowed := true }
def FnExactStoreOKUptoSaid : Prop := fnExactStoreOKUptoRow.holds Try.pinned (OpenSpec.upto fnExactStoreOKSpec)

/-- 'laws.FnExactSizeOf', WHERE WHAT IT READS IS OF BULK AT MOST 1048576: true; the input reads as it did. -/
def fnExactSizeOfUptoRow : OpenClaim := { program := "ytkijkmmeilaljaa", sum := "886cc1f3d90dd77d2d85b4739872541fc13a62982427836853755a6a9c9ddc05", func := "loop.example/g00540/laws.FnExactSizeOf", spec := "fnExactSizeOf", apart := false, narrowed := true }
def FnExactSizeOfUptoSaid : Prop := fnExactSizeOfUptoRow.holds Try.pinned (OpenSpec.upto fnExactSizeOfSpec)

/-- 'laws.FnExactChangedSince', WHERE WHAT IT READS IS OF BULK AT MOST 1048576: true; the input reads as it did. -/
def fnExactChangedSinceUptoRow : OpenClaim := { program := "ytkijkmmeilaljaa", sum := "886cc1f3d90dd77d2d85b4739872541fc13a62982427836853755a6a9c9ddc05", func := "loop.example/g00540/laws.FnExactChangedSince", spec := "fnExactChangedSince", apart := false, narrowed := true }
def FnExactChangedSinceUptoSaid : Prop := fnExactChangedSinceUptoRow.holds Try.pinned (OpenSpec.upto fnExactChangedSinceSpec)

/-- 'laws.FnExactKeysSince', WHERE WHAT IT READS IS OF BULK AT MOST 1048576: true; the input reads as it did. -/
def fnExactKeysSinceUptoRow : OpenClaim := { program := "ytkijkmmeilaljaa", sum := "886cc1f3d90dd77d2d85b4739872541fc13a62982427836853755a6a9c9ddc05", func := "loop.example/g00540/laws.FnExactKeysSince", spec := "fnExactKeysSince", apart := false, narrowed := true }
def FnExactKeysSinceUptoSaid : Prop := fnExactKeysSinceUptoRow.holds Try.pinned (OpenSpec.upto fnExactKeysSinceSpec)

/-- 'laws.FnExactReadAt', WHERE WHAT IT READS IS OF BULK AT MOST 1048576: true; the input reads as it did. -/
def fnExactReadAtUptoRow : OpenClaim := { program := "ytkijkmmeilaljaa", sum := "886cc1f3d90dd77d2d85b4739872541fc13a62982427836853755a6a9c9ddc05", func := "loop.example/g00540/laws.FnExactReadAt", spec := "fnExactReadAt", unfollowed := true, recurses := true, apart := false, narrowed := true }
def FnExactReadAtUptoSaid : Prop := fnExactReadAtUptoRow.holds Try.pinned (OpenSpec.upto fnExactReadAtSpec)

/-- 'laws.FnExactSameAt', WHERE WHAT IT READS IS OF BULK AT MOST 1048576: true; the input reads as it did. -/
def fnExactSameAtUptoRow : OpenClaim := { program := "ytkijkmmeilaljaa", sum := "886cc1f3d90dd77d2d85b4739872541fc13a62982427836853755a6a9c9ddc05", func := "loop.example/g00540/laws.FnExactSameAt", spec := "fnExactSameAt", unfollowed := true, recurses := true, apart := false, narrowed := true }
def FnExactSameAtUptoSaid : Prop := fnExactSameAtUptoRow.holds Try.pinned (OpenSpec.upto fnExactSameAtSpec)

/-- 'laws.FnExactBegin', WHERE WHAT IT READS IS OF BULK AT MOST 1048576: true; the input reads as it did. -/
def fnExactBeginUptoRow : OpenClaim := { program := "ytkijkmmeilaljaa", sum := "886cc1f3d90dd77d2d85b4739872541fc13a62982427836853755a6a9c9ddc05", func := "loop.example/g00540/laws.FnExactBegin", spec := "fnExactBegin", apart := false, narrowed := true }
def FnExactBeginUptoSaid : Prop := fnExactBeginUptoRow.holds Try.pinned (OpenSpec.upto fnExactBeginSpec)

/-- 'laws.FnExactForget', WHERE WHAT IT READS IS OF BULK AT MOST 1048576: true; the input reads as it did. -/
def fnExactForgetUptoRow : OpenClaim := { program := "ytkijkmmeilaljaa", sum := "886cc1f3d90dd77d2d85b4739872541fc13a62982427836853755a6a9c9ddc05", func := "loop.example/g00540/laws.FnExactForget", spec := "fnExactForget", apart := false, narrowed := true }
def FnExactForgetUptoSaid : Prop := fnExactForgetUptoRow.holds Try.pinned (OpenSpec.upto fnExactForgetSpec)

end Rows
end Go.Proofs.Ytkijkmmeilaljaa
