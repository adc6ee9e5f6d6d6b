/-
  No cell of these rows narrows 'for every input' (looked for: loops, veiled, ifaces, maps, wideKeys, modest, calm, conditions, laid).
  DERIVED. THE GIVEN ROWS OF THIS SEAT. 5 by the template 'for every input the law returns true; each argument reads behind the call as it read before'; 0 by the template 'total and deterministic' (their statements: YtoogmlghfljeiaaTotals.lean).
  GIVEN WITH THE SEED: the statements are not yours to turn. If you find one false, say at which input.
  Laid BY PROGRAM, IN A SANDBOX (cutbox-rows.mjs): the forced cells as the released guide's own fill.sh prints them over the translation 5971c60b7499f8bf… (all of the seat's roots in one cut). By AI agents, Wed Nov 11 2026. No macro, syntax, notation, axiom, sorry.
-/
import Derived.Test.YtoogmlghfljeiaaChecked
import GoSem.Claim
import GoSem.ClaimJoined
import GoSem.ClaimMapViews
import Derived.JoinedTies
import Derived.KernelRfl
namespace Go.Proofs.Ytoogmlghfljeiaa
/- THE CELL 'sum', in the pinned program and in every row, IS THE sha256 OF THE DUMP (.gsa) THAT YtoogmlghfljeiaaProg.lean LOADS. Nothing in Lean hashes anything: it is a label: what it is worth is what the hold of that sum in a sandbox is worth. -/
noncomputable def Try.pinned : Pinned := { name := "ytoogmlghfljeiaa", sum := "5971c60b7499f8bf89600ec204fd77c03b6c2488af37f320e82309bb19ea7c46", checked := Try.checked }
namespace Rows
def none {H : Type} : Left H := { results := [], args := [] }

/-- 'laws.FnExactSchemaOK': WHATEVER THE INPUT: true; the input reads as it did. -/
def fnExactSchemaOKSpec : ChangeSpec := { name := "fnExactSchemaOK", fn := fun _ => fun
  | [d] => { results := [.lit (.bool true)], args := [d] }
  | _ => none }
def fnExactSchemaOKRow : OpenClaim := { program := "ytoogmlghfljeiaa", sum := "5971c60b7499f8bf89600ec204fd77c03b6c2488af37f320e82309bb19ea7c46", func := "loop.example/g00540/laws.FnExactSchemaOK", spec := "fnExactSchemaOK", unfollowed := true, recurses := true, apart := false }
def FnExactSchemaOKSaid : Prop := fnExactSchemaOKRow.holds Try.pinned (OpenSpec.ofChange fnExactSchemaOKSpec)

/-- ITS FALSE NEIGHBOUR: 'it returns false'. Refute it at one input. -/
def fnExactSchemaOKWrong : ChangeSpec := { name := "fnExactSchemaOK", fn := fun _ => fun
  | [d] => { results := [.lit (.bool false)], args := [d] }
  | _ => none }
def FnExactSchemaOKWrongFalsely : Prop := fnExactSchemaOKRow.holds Try.pinned (OpenSpec.ofChange fnExactSchemaOKWrong)

/-- 'laws.FnExactTypeAt': WHATEVER THE INPUT: true; the input reads as it did. -/
def fnExactTypeAtSpec : ChangeSpec := { name := "fnExactTypeAt", fn := fun _ => fun
  | [d1, d2] => { results := [.lit (.bool true)], args := [d1, d2] }
  | _ => none }
def fnExactTypeAtRow : OpenClaim := { program := "ytoogmlghfljeiaa", sum := "5971c60b7499f8bf89600ec204fd77c03b6c2488af37f320e82309bb19ea7c46", func := "loop.example/g00540/laws.FnExactTypeAt", spec := "fnExactTypeAt", unfollowed := true, recurses := true, apart := false }
def FnExactTypeAtSaid : Prop := fnExactTypeAtRow.holds Try.pinned (OpenSpec.ofChange fnExactTypeAtSpec)

/-- ITS FALSE NEIGHBOUR: 'it returns false'. Refute it at one input. -/
def fnExactTypeAtWrong : ChangeSpec := { name := "fnExactTypeAt", fn := fun _ => fun
  | [d1, d2] => { results := [.lit (.bool false)], args := [d1, d2] }
  | _ => none }
def FnExactTypeAtWrongFalsely : Prop := fnExactTypeAtRow.holds Try.pinned (OpenSpec.ofChange fnExactTypeAtWrong)

/-- 'laws.FnExactFieldAt': WHATEVER THE INPUT: true; the input reads as it did. -/
def fnExactFieldAtSpec : ChangeSpec := { name := "fnExactFieldAt", fn := fun _ => fun
  | [d1, d2, d3] => { results := [.lit (.bool true)], args := [d1, d2, d3] }
  | _ => none }
def fnExactFieldAtRow : OpenClaim := { program := "ytoogmlghfljeiaa", sum := "5971c60b7499f8bf89600ec204fd77c03b6c2488af37f320e82309bb19ea7c46", func := "loop.example/g00540/laws.FnExactFieldAt", spec := "fnExactFieldAt", unfollowed := true, recurses := true, apart := false }
def FnExactFieldAtSaid : Prop := fnExactFieldAtRow.holds Try.pinned (OpenSpec.ofChange fnExactFieldAtSpec)

/-- ITS FALSE NEIGHBOUR: 'it returns false'. Refute it at one input. -/
def fnExactFieldAtWrong : ChangeSpec := { name := "fnExactFieldAt", fn := fun _ => fun
  | [d1, d2, d3] => { results := [.lit (.bool false)], args := [d1, d2, d3] }
  | _ => none }
def FnExactFieldAtWrongFalsely : Prop := fnExactFieldAtRow.holds Try.pinned (OpenSpec.ofChange fnExactFieldAtWrong)

/-- 'laws.FnExactSameSchema': WHATEVER THE INPUT: true; the input reads as it did. -/
def fnExactSameSchemaSpec : ChangeSpec := { name := "fnExactSameSchema", fn := fun _ => fun
  | [d1, d2] => { results := [.lit (.bool true)], args := [d1, d2] }
  | _ => none }
def fnExactSameSchemaRow : OpenClaim := { program := "ytoogmlghfljeiaa", sum := "5971c60b7499f8bf89600ec204fd77c03b6c2488af37f320e82309bb19ea7c46", func := "loop.example/g00540/laws.FnExactSameSchema", spec := "fnExactSameSchema", unfollowed := true, recurses := true, apart := false }
def FnExactSameSchemaSaid : Prop := fnExactSameSchemaRow.holds Try.pinned (OpenSpec.ofChange fnExactSameSchemaSpec)

/-- ITS FALSE NEIGHBOUR: 'it returns false'. Refute it at one input. -/
def fnExactSameSchemaWrong : ChangeSpec := { name := "fnExactSameSchema", fn := fun _ => fun
  | [d1, d2] => { results := [.lit (.bool false)], args := [d1, d2] }
  | _ => none }
def FnExactSameSchemaWrongFalsely : Prop := fnExactSameSchemaRow.holds Try.pinned (OpenSpec.ofChange fnExactSameSchemaWrong)

/-- 'laws.FnExactPlainSchema': WHATEVER THE INPUT: true; the input reads as it did. -/
def fnExactPlainSchemaSpec : ChangeSpec := { name := "fnExactPlainSchema", fn := fun _ => fun
  | [] => { results := [.lit (.bool true)], args := [] }
  | _ => none }
def fnExactPlainSchemaRow : OpenClaim := { program := "ytoogmlghfljeiaa", sum := "5971c60b7499f8bf89600ec204fd77c03b6c2488af37f320e82309bb19ea7c46", func := "loop.example/g00540/laws.FnExactPlainSchema", spec := "fnExactPlainSchema", apart := false }
def FnExactPlainSchemaSaid : Prop := fnExactPlainSchemaRow.holds Try.pinned (OpenSpec.ofChange fnExactPlainSchemaSpec)

/-- ITS FALSE NEIGHBOUR: 'it returns false'. Refute it at one input. -/
def fnExactPlainSchemaWrong : ChangeSpec := { name := "fnExactPlainSchema", fn := fun _ => fun
  | [] => { results := [.lit (.bool false)], args := [] }
  | _ => none }
def FnExactPlainSchemaWrongFalsely : Prop := fnExactPlainSchemaRow.holds Try.pinned (OpenSpec.ofChange fnExactPlainSchemaWrong)

/- THE SECOND FORM. 'bulk': how many values and letters a reading holds, each counted each time it is reached (what is shared counts as often as it is met; a slice's spare places count too). A statement '..UptoSaid' is the law's where the arguments, and the package variables that the reading takes, are together of bulk at most 1048576: NARROWER than '..Said'. Prove '..Said' where nothing that the law and all that it calls make is longer than what came in: it says more and counts as full. Else prove '..UptoSaid'. A law counts once. -/
mutual
def uptoBulk {H : Type} : DataW H → Nat
  | .lit (.string bytes) => bytes.length + 1
  | .lit _ => 1
  | .nil => 1
  | .ptr d => uptoBulk d + 1
  | .slice elems spare => uptoBulkAll elems + uptoBulkAll spare + 1
  | .agg parts => uptoBulkAll parts + 1
  | .iface _ d => uptoBulk d + 1
  | .map entries => uptoBulkEntries entries + 1
  | .held _ => 1
def uptoBulkAll {H : Type} : List (DataW H) → Nat
  | [] => 0
  | d :: r => uptoBulk d + uptoBulkAll r
def uptoBulkEntries {H : Type} : List (Lit × DataW H) → Nat
  | [] => 0
  | x :: r => uptoBulkEntry x + uptoBulkEntries r
def uptoBulkEntry {H : Type} : Lit × DataW H → Nat
  | (.string bytes, d) => bytes.length + uptoBulk d + 1
  | (_, d) => uptoBulk d + 1
 end
def uptoSmall : (H : Type) → List (DataW H) → Bool := fun _ ds => decide (uptoBulkAll ds ≤ 1048576)
def OpenSpec.upto (s : _root_.Go.ChangeSpec) : _root_.Go.OpenSpec := { _root_.Go.OpenSpec.ofChange s with cond := some uptoSmall }

/-- 'laws.FnExactSchemaOK', WHERE WHAT IT READS IS OF BULK AT MOST 1048576: true; the input reads as it did. -/
def fnExactSchemaOKUptoRow : OpenClaim := { program := "ytoogmlghfljeiaa", sum := "5971c60b7499f8bf89600ec204fd77c03b6c2488af37f320e82309bb19ea7c46", func := "loop.example/g00540/laws.FnExactSchemaOK", spec := "fnExactSchemaOK", unfollowed := true, recurses := true, apart := false, narrowed := true }
def FnExactSchemaOKUptoSaid : Prop := fnExactSchemaOKUptoRow.holds Try.pinned (OpenSpec.upto fnExactSchemaOKSpec)

/-- 'laws.FnExactTypeAt', WHERE WHAT IT READS IS OF BULK AT MOST 1048576: true; the input reads as it did. -/
def fnExactTypeAtUptoRow : OpenClaim := { program := "ytoogmlghfljeiaa", sum := "5971c60b7499f8bf89600ec204fd77c03b6c2488af37f320e82309bb19ea7c46", func := "loop.example/g00540/laws.FnExactTypeAt", spec := "fnExactTypeAt", unfollowed := true, recurses := true, apart := false, narrowed := true }
def FnExactTypeAtUptoSaid : Prop := fnExactTypeAtUptoRow.holds Try.pinned (OpenSpec.upto fnExactTypeAtSpec)

/-- 'laws.FnExactFieldAt', WHERE WHAT IT READS IS OF BULK AT MOST 1048576: true; the input reads as it did. -/
def fnExactFieldAtUptoRow : OpenClaim := { program := "ytoogmlghfljeiaa", sum := "5971c60b7499f8bf89600ec204fd77c03b6c2488af37f320e82309bb19ea7c46", func := "loop.example/g00540/laws.FnExactFieldAt", spec := "fnExactFieldAt", unfollowed := true, recurses := true, apart := false, narrowed := true }
def FnExactFieldAtUptoSaid : Prop := fnExactFieldAtUptoRow.holds Try.pinned (OpenSpec.upto fnExactFieldAtSpec)

/-- 'laws.FnExactSameSchema', WHERE WHAT IT READS IS OF BULK AT MOST 1048576: true; the input reads as it did. -/
def fnExactSameSchemaUptoRow : OpenClaim := { program := "ytoogmlghfljeiaa", sum := "5971c60b7499f8bf89600ec204fd77c03b6c2488af37f320e82309bb19ea7c46", func := "loop.example/g00540/laws.FnExactSameSchema", spec := "fnExactSameSchema", unfollowed := true, recurses := true, apart := false, narrowed := true }
def FnExactSameSchemaUptoSaid : Prop := fnExactSameSchemaUptoRow.holds Try.pinned (OpenSpec.upto fnExactSameSchemaSpec)

/-- 'laws.FnExactPlainSchema', WHERE WHAT IT READS IS OF BULK AT MOST 1048576: true; the input reads as it did. -/
def fnExactPlainSchemaUptoRow : OpenClaim := { program := "ytoogmlghfljeiaa", sum := "5971c60b7499f8bf89600ec204fd77c03b6c2488af37f320e82309bb19ea7c46", func := "loop.example/g00540/laws.FnExactPlainSchema", spec := "fnExactPlainSchema", apart := false, narrowed := true }
def FnExactPlainSchemaUptoSaid : Prop := fnExactPlainSchemaUptoRow.holds Try.pinned (OpenSpec.upto fnExactPlainSchemaSpec)

end Rows
end Go.Proofs.Ytoogmlghfljeiaa
