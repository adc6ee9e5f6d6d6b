/-
  No cell of these rows narrows 'for every input' (looked for: loops, veiled, ifaces, maps, wideKeys, modest, calm, conditions, laid).
  DERIVED. THE GIVEN ROWS OF THIS SEAT. 6 by the template 'for every input the law returns true; each argument reads behind the call as it read before'; 0 by the template 'total and deterministic' (their statements: YtjgaenojojfidaaTotals.lean).
  GIVEN WITH THE SEED: the statements are not yours to turn. If you find one false, say at which input.
  Laid BY PROGRAM, IN A SANDBOX (cutbox-rows.mjs): the forced cells as the released guide's own fill.sh prints them over the translation 82e40004905ba482… (all of the seat's roots in one cut). By AI agents, Wed Nov 11 2026. No macro, syntax, notation, axiom, sorry.
-/
import Derived.Test.YtjgaenojojfidaaChecked
import GoSem.Claim
import GoSem.ClaimJoined
import GoSem.ClaimMapViews
import Derived.JoinedTies
import Derived.KernelRfl
namespace Go.Proofs.Ytjgaenojojfidaa
/- THE CELL 'sum', in the pinned program and in every row, IS THE sha256 OF THE DUMP (.gsa) THAT YtjgaenojojfidaaProg.lean LOADS. Nothing in Lean hashes anything: it is a label: what it is worth is what the hold of that sum in a sandbox is worth. -/
noncomputable def Try.pinned : Pinned := { name := "ytjgaenojojfidaa", sum := "82e40004905ba48286c055c44ca46df2ee76a19c83f6193151af713b88ddcd6b", checked := Try.checked }
namespace Rows
def none {H : Type} : Left H := { results := [], args := [] }

/-- 'laws.FnExactTxnOK': WHATEVER THE INPUT: true; the input reads as it did. -/
def fnExactTxnOKSpec : ChangeSpec := { name := "fnExactTxnOK", fn := fun _ => fun
  | [d1, d2] => { results := [.lit (.bool true)], args := [d1, d2] }
  | _ => none }
def fnExactTxnOKRow : OpenClaim := { program := "ytjgaenojojfidaa", sum := "82e40004905ba48286c055c44ca46df2ee76a19c83f6193151af713b88ddcd6b", func := "loop.example/g00540/laws.FnExactTxnOK", spec := "fnExactTxnOK", unfollowed := true, recurses := true, apart := false }
def FnExactTxnOKSaid : Prop := fnExactTxnOKRow.holds Try.pinned (OpenSpec.ofChange fnExactTxnOKSpec)

/-- ITS FALSE NEIGHBOUR: 'it returns false'. Refute it at one input. -/
def fnExactTxnOKWrong : ChangeSpec := { name := "fnExactTxnOK", fn := fun _ => fun
  | [d1, d2] => { results := [.lit (.bool false)], args := [d1, d2] }
  | _ => none }
def FnExactTxnOKWrongFalsely : Prop := fnExactTxnOKRow.holds Try.pinned (OpenSpec.ofChange fnExactTxnOKWrong)

/-- 'laws.FnExactConflicts': WHATEVER THE INPUT: true; the input reads as it did. -/
def fnExactConflictsSpec : ChangeSpec := { name := "fnExactConflicts", fn := fun _ => fun
  | [d1, d2] => { results := [.lit (.bool true)], args := [d1, d2] }
  | _ => none }
def fnExactConflictsRow : OpenClaim := { program := "ytjgaenojojfidaa", sum := "82e40004905ba48286c055c44ca46df2ee76a19c83f6193151af713b88ddcd6b", func := "loop.example/g00540/laws.FnExactConflicts", spec := "fnExactConflicts", unfollowed := true, recurses := true, apart := false }
def FnExactConflictsSaid : Prop := fnExactConflictsRow.holds Try.pinned (OpenSpec.ofChange fnExactConflictsSpec)

/-- ITS FALSE NEIGHBOUR: 'it returns false'. Refute it at one input. -/
def fnExactConflictsWrong : ChangeSpec := { name := "fnExactConflicts", fn := fun _ => fun
  | [d1, d2] => { results := [.lit (.bool false)], args := [d1, d2] }
  | _ => none }
def FnExactConflictsWrongFalsely : Prop := fnExactConflictsRow.holds Try.pinned (OpenSpec.ofChange fnExactConflictsWrong)

/-- 'laws.FnExactWriteTxn': WHATEVER THE INPUT: true; the input reads as it did. -/
def fnExactWriteTxnSpec : ChangeSpec := { name := "fnExactWriteTxn", fn := fun _ => fun
  | [d1, d2, d3] => { results := [.lit (.bool true)], args := [d1, d2, d3] }
  | _ => none }
def fnExactWriteTxnRow : OpenClaim := { program := "ytjgaenojojfidaa", sum := "82e40004905ba48286c055c44ca46df2ee76a19c83f6193151af713b88ddcd6b", func := "loop.example/g00540/laws.FnExactWriteTxn", spec := "fnExactWriteTxn", unfollowed := true, recurses := true, apart := false }
def FnExactWriteTxnSaid : Prop := fnExactWriteTxnRow.holds Try.pinned (OpenSpec.ofChange fnExactWriteTxnSpec)

/-- ITS FALSE NEIGHBOUR: 'it returns false'. Refute it at one input. -/
def fnExactWriteTxnWrong : ChangeSpec := { name := "fnExactWriteTxn", fn := fun _ => fun
  | [d1, d2, d3] => { results := [.lit (.bool false)], args := [d1, d2, d3] }
  | _ => none }
def FnExactWriteTxnWrongFalsely : Prop := fnExactWriteTxnRow.holds Try.pinned (OpenSpec.ofChange fnExactWriteTxnWrong)

/-- 'laws.FnExactReadTxn': WHATEVER THE INPUT: true; the input reads as it did. -/
def fnExactReadTxnSpec : ChangeSpec := { name := "fnExactReadTxn", fn := fun _ => fun
  | [d1, d2, d3] => { results := [.lit (.bool true)], args := [d1, d2, d3] }
  | _ => none }
def fnExactReadTxnRow : OpenClaim := { program := "ytjgaenojojfidaa", sum := "82e40004905ba48286c055c44ca46df2ee76a19c83f6193151af713b88ddcd6b", func := "loop.example/g00540/laws.FnExactReadTxn", spec := "fnExactReadTxn", unfollowed := true, recurses := true, apart := false }
def FnExactReadTxnSaid : Prop := fnExactReadTxnRow.holds Try.pinned (OpenSpec.ofChange fnExactReadTxnSpec)

/-- ITS FALSE NEIGHBOUR: 'it returns false'. Refute it at one input. -/
def fnExactReadTxnWrong : ChangeSpec := { name := "fnExactReadTxn", fn := fun _ => fun
  | [d1, d2, d3] => { results := [.lit (.bool false)], args := [d1, d2, d3] }
  | _ => none }
def FnExactReadTxnWrongFalsely : Prop := fnExactReadTxnRow.holds Try.pinned (OpenSpec.ofChange fnExactReadTxnWrong)

/-- 'laws.FnExactCommit': WHATEVER THE INPUT: true; the input reads as it did. -/
def fnExactCommitSpec : ChangeSpec := { name := "fnExactCommit", fn := fun _ => fun
  | [d1, d2] => { results := [.lit (.bool true)], args := [d1, d2] }
  | _ => none }
def fnExactCommitRow : OpenClaim := { program := "ytjgaenojojfidaa", sum := "82e40004905ba48286c055c44ca46df2ee76a19c83f6193151af713b88ddcd6b", func := "loop.example/g00540/laws.FnExactCommit", spec := "fnExactCommit", unfollowed := true, recurses := true, apart := false }
def FnExactCommitSaid : Prop := fnExactCommitRow.holds Try.pinned (OpenSpec.ofChange fnExactCommitSpec)

/-- ITS FALSE NEIGHBOUR: 'it returns false'. Refute it at one input. -/
def fnExactCommitWrong : ChangeSpec := { name := "fnExactCommit", fn := fun _ => fun
  | [d1, d2] => { results := [.lit (.bool false)], args := [d1, d2] }
  | _ => none }
def FnExactCommitWrongFalsely : Prop := fnExactCommitRow.holds Try.pinned (OpenSpec.ofChange fnExactCommitWrong)

/-- 'laws.FnExactWriteAll': WHATEVER THE INPUT: true; the input reads as it did. -/
def fnExactWriteAllSpec : ChangeSpec := { name := "fnExactWriteAll", fn := fun _ => fun
  | [d1, d2] => { results := [.lit (.bool true)], args := [d1, d2] }
  | _ => none }
def fnExactWriteAllRow : OpenClaim := { program := "ytjgaenojojfidaa", sum := "82e40004905ba48286c055c44ca46df2ee76a19c83f6193151af713b88ddcd6b", func := "loop.example/g00540/laws.FnExactWriteAll", spec := "fnExactWriteAll", unfollowed := true, recurses := true, apart := false }
def FnExactWriteAllSaid : Prop := fnExactWriteAllRow.holds Try.pinned (OpenSpec.ofChange fnExactWriteAllSpec)

/-- ITS FALSE NEIGHBOUR: 'it returns false'. Refute it at one input. -/
def fnExactWriteAllWrong : ChangeSpec := { name := "fnExactWriteAll", fn := fun _ => fun
  | [d1, d2] => { results := [.lit (.bool false)], args := [d1, d2] }
  | _ => none }
def FnExactWriteAllWrongFalsely : Prop := fnExactWriteAllRow.holds Try.pinned (OpenSpec.ofChange fnExactWriteAllWrong)

/- THE SECOND FORM. 'bulk': how many values and letters a reading holds, each counted each time it is reached (what is shared counts as often as it is met; a slice's spare places count too). A statement '..UptoSaid' is the law's where the arguments, and the package variables that the reading takes, are together of bulk at most 1048576: NARROWER than '..Said'. Prove '..Said' where nothing that the law and all that it calls make is longer than what came in: it says more and counts as full. Else prove '..UptoSaid'. A law counts once. -/
mutual
def uptoBulk {H : Type} : DataW H → Nat
  | .lit (.string bytes) => bytes.length + 1
  | .lit _ => 1
  | .nil => 1
  | .ptr d => uptoBulk d + 1
  | .slice elems spare => uptoBulkAll elems + uptoBulkAll spare + 1
  | .agg parts => uptoBulkAll parts + 1
  | .iface _ d => uptoBulk d + 1
  | .map entries => uptoBulkEntries entries + 1
  | .held _ => 1
def uptoBulkAll {H : Type} : List (DataW H) → Nat
  | [] => 0
  | d :: r => uptoBulk d + uptoBulkAll r
def uptoBulkEntries {H : Type} : List (Lit × DataW H) → Nat
  | [] => 0
  | x :: r => uptoBulkEntry x + uptoBulkEntries r
def uptoBulkEntry {H : Type} : Lit × DataW H → Nat
  | (.string bytes, d) => bytes.length + uptoBulk d + 1
  | (_, d) => uptoBulk d + 1
 end
def uptoSmall : (H : Type) → List (DataW H) → Bool := fun _ ds => decide (uptoBulkAll ds ≤ 1048576)
def OpenSpec.upto (s : _root_.Go.ChangeSpec) : _root_.Go.OpenSpec := { _root_.Go.OpenSpec.ofChange s with cond := some uptoSmall }

/-- 'laws.FnExactTxnOK', WHERE WHAT IT READS IS OF BULK AT MOST 1048576: true; the input reads as it did. -/
def fnExactTxnOKUptoRow : OpenClaim := { program := "ytjgaenojojfidaa", sum := "82e40004905ba48286c055c44ca46df2ee76a19c83f6193151af713b88ddcd6b", func := "loop.example/g00540/laws.FnExactTxnOK", spec := "fnExactTxnOK", unfollowed := true, recurses := true, apart := false, narrowed := true }
def FnExactTxnOKUptoSaid : Prop := fnExactTxnOKUptoRow.holds Try.pinned (OpenSpec.upto fnExactTxnOKSpec)

/-- 'laws.FnExactConflicts', WHERE WHAT IT READS IS OF BULK AT MOST 1048576: true; the input reads as it did. -/
def fnExactConflictsUptoRow : OpenClaim := { program := "ytjgaenojojfidaa", sum := "82e40004905ba48286c055c44ca46df2ee76a19c83f6193151af713b88ddcd6b", func := "loop.example/g00540/laws.FnExactConflicts", spec := "fnExactConflicts", unfollowed := true, recurses := true, apart := false, narrowed := true }
def FnExactConflictsUptoSaid : Prop := fnExactConflictsUptoRow.holds Try.pinned (OpenSpec.upto fnExactConflictsSpec)

/-- 'laws.FnExactWriteTxn', WHERE WHAT IT READS IS OF BULK AT MOST 1048576: true; the input reads as it did. -/
def fnExactWriteTxnUptoRow : OpenClaim := { program := "ytjgaenojojfidaa", sum := "82e40004905ba48286c055c44ca46df2ee76a19c83f6193151af713b88ddcd6b", func := "loop.example/g00540/laws.FnExactWriteTxn", spec := "fnExactWriteTxn", unfollowed := true, recurses := true, apart := false, narrowed := true }
def FnExactWriteTxnUptoSaid : Prop := fnExactWriteTxnUptoRow.holds Try.pinned (OpenSpec.upto fnExactWriteTxnSpec)

/-- 'laws.FnExactReadTxn', WHERE WHAT IT READS IS OF BULK AT MOST 1048576: true; the input reads as it did. -/
def fnExactReadTxnUptoRow : OpenClaim := { program := "ytjgaenojojfidaa", sum := "82e40004905ba48286c055c44ca46df2ee76a19c83f6193151af713b88ddcd6b", func := "loop.example/g00540/laws.FnExactReadTxn", spec := "fnExactReadTxn", unfollowed := true, recurses := true, apart := false, narrowed := true }
def FnExactReadTxnUptoSaid : Prop := fnExactReadTxnUptoRow.holds Try.pinned (OpenSpec.upto fnExactReadTxnSpec)

/-- 'laws.FnExactCommit', WHERE WHAT IT READS IS OF BULK AT MOST 1048576: true; the input reads as it did. -/
def fnExactCommitUptoRow : OpenClaim := { program := "ytjgaenojojfidaa", sum := "82e40004905ba48286c055c44ca46df2ee76a19c83f6193151af713b88ddcd6b", func := "loop.example/g00540/laws.FnExactCommit", spec := "fnExactCommit", unfollowed := true, recurses := true, apart := false, narrowed := true }
def FnExactCommitUptoSaid : Prop := fnExactCommitUptoRow.holds Try.pinned (OpenSpec.upto fnExactCommitSpec)

/-- 'laws.FnExactWriteAll', WHERE WHAT IT READS IS OF BULK AT MOST 1048576: true; the input reads as it did. -/
def fnExactWriteAllUptoRow : OpenClaim := { program := "ytjgaenojojfidaa", sum := "82e40004905ba48286c055c44ca46df2ee76a19c83f6193151af713b88ddcd6b", func := "loop.example/g00540/laws.FnExactWriteAll", spec := "fnExactWriteAll", unfollowed := true, recurses := true, apart := false, narrowed := true }
def FnExactWriteAllUptoSaid : Prop := fnExactWriteAllUptoRow.holds Try.pinned (OpenSpec.upto fnExactWriteAllSpec)

end Rows
end Go.Proofs.Ytjgaenojojfidaa
