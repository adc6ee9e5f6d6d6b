/-
  No cell of these rows narrows 'for every input' (looked for: loops, veiled, ifaces, maps, wideKeys, modest, calm, conditions, laid).
  DERIVED. THE GIVEN ROWS OF THIS SEAT. 8 by the template 'for every input the law returns true; each argument reads behind the call as it read before'; 0 by the template 'total and deterministic' (their statements: YtfiboooflebdpaaTotals.lean).
  GIVEN WITH THE SEED: the statements are not yours to turn. If you find one false, say at which input.
  Laid BY PROGRAM, IN A SANDBOX (cutbox-rows.mjs): the forced cells as the released guide's own fill.sh prints them over the translation 1eef1f8b0b7fd14f… (all of the seat's roots in one cut). By AI agents, Wed Nov 11 2026. No macro, syntax, notation, axiom, sorry.
-/
import Derived.Test.YtfiboooflebdpaaChecked
import GoSem.Claim
import GoSem.ClaimJoined
import GoSem.ClaimMapViews
import Derived.JoinedTies
import Derived.KernelRfl
namespace Go.Proofs.Ytfiboooflebdpaa
/- THE CELL 'sum', in the pinned program and in every row, IS THE sha256 OF THE DUMP (.gsa) THAT YtfiboooflebdpaaProg.lean LOADS. Nothing in Lean hashes anything: it is a label: what it is worth is what the hold of that sum in a sandbox is worth. -/
noncomputable def Try.pinned : Pinned := { name := "ytfiboooflebdpaa", sum := "1eef1f8b0b7fd14fc6b5000e21e83cce7cdd3e19c0f563ae25b1e2080c58f8fa", checked := Try.checked }
namespace Rows
def none {H : Type} : Left H := { results := [], args := [] }

/-- 'laws.FnExactForget': WHATEVER THE INPUT: true; the input reads as it did. -/
def fnExactForgetSpec : ChangeSpec := { name := "fnExactForget", fn := fun _ => fun
  | [d1, d2] => { results := [.lit (.bool true)], args := [d1, d2] }
  | _ => none }
def fnExactForgetRow : OpenClaim := { program := "ytfiboooflebdpaa", sum := "1eef1f8b0b7fd14fc6b5000e21e83cce7cdd3e19c0f563ae25b1e2080c58f8fa", func := "loop.example/g00540/laws.FnExactForget", spec := "fnExactForget", apart := false }
def FnExactForgetSaid : Prop := fnExactForgetRow.holds Try.pinned (OpenSpec.ofChange fnExactForgetSpec)

/-- ITS FALSE NEIGHBOUR: 'it returns false'. Refute it at one input. -/
def fnExactForgetWrong : ChangeSpec := { name := "fnExactForget", fn := fun _ => fun
  | [d1, d2] => { results := [.lit (.bool false)], args := [d1, d2] }
  | _ => none }
def FnExactForgetWrongFalsely : Prop := fnExactForgetRow.holds Try.pinned (OpenSpec.ofChange fnExactForgetWrong)

/-- 'laws.FnForget': WHATEVER THE INPUT: true; the input reads as it did. -/
def fnForgetSpec : ChangeSpec := { name := "fnForget", fn := fun _ => fun
  | [d1, d2] => { results := [.lit (.bool true)], args := [d1, d2] }
  | _ => none }
def fnForgetRow : OpenClaim := { program := "ytfiboooflebdpaa", sum := "1eef1f8b0b7fd14fc6b5000e21e83cce7cdd3e19c0f563ae25b1e2080c58f8fa", func := "loop.example/g00540/laws.FnForget", spec := "fnForget", unfollowed := true, recurses := true, apart := false }
def FnForgetSaid : Prop := fnForgetRow.holds Try.pinned (OpenSpec.ofChange fnForgetSpec)

/-- ITS FALSE NEIGHBOUR: 'it returns false'. Refute it at one input. -/
def fnForgetWrong : ChangeSpec := { name := "fnForget", fn := fun _ => fun
  | [d1, d2] => { results := [.lit (.bool false)], args := [d1, d2] }
  | _ => none }
def FnForgetWrongFalsely : Prop := fnForgetRow.holds Try.pinned (OpenSpec.ofChange fnForgetWrong)

/-- 'laws.FnExactWriteAll': WHATEVER THE INPUT: true; the input reads as it did. -/
def fnExactWriteAllSpec : ChangeSpec := { name := "fnExactWriteAll", fn := fun _ => fun
  | [d1, d2] => { results := [.lit (.bool true)], args := [d1, d2] }
  | _ => none }
def fnExactWriteAllRow : OpenClaim := { program := "ytfiboooflebdpaa", sum := "1eef1f8b0b7fd14fc6b5000e21e83cce7cdd3e19c0f563ae25b1e2080c58f8fa", func := "loop.example/g00540/laws.FnExactWriteAll", spec := "fnExactWriteAll", unfollowed := true, recurses := true, apart := false }
def FnExactWriteAllSaid : Prop := fnExactWriteAllRow.holds Try.pinned (OpenSpec.ofChange fnExactWriteAllSpec)

/-- ITS FALSE NEIGHBOUR: 'it returns false'. Refute it at one input. -/
def fnExactWriteAllWrong : ChangeSpec := { name := "fnExactWriteAll", fn := fun _ => fun
  | [d1, d2] => { results := [.lit (.bool false)], args := [d1, d2] }
  | _ => none }
def FnExactWriteAllWrongFalsely : Prop := fnExactWriteAllRow.holds Try.pinned (OpenSpec.ofChange fnExactWriteAllWrong)

/-- 'laws.FnStore': WHATEVER THE INPUT: true; the input reads as it did. -/
def fnStoreSpec : ChangeSpec := { name := "fnStore", fn := fun _ => fun
  | [d1, d2] => { results := [.lit (.bool true)], args := [d1, d2] }
  | _ => none }
def fnStoreRow : OpenClaim := { program := "ytfiboooflebdpaa", sum := "1eef1f8b0b7fd14fc6b5000e21e83cce7cdd3e19c0f563ae25b1e2080c58f8fa", func := "loop.example/g00540/laws.FnStore", spec := "fnStore", unfollowed := true, recurses := true, apart := false }
def FnStoreSaid : Prop := fnStoreRow.holds Try.pinned (OpenSpec.ofChange fnStoreSpec)

/-- ITS FALSE NEIGHBOUR: 'it returns false'. Refute it at one input. -/
def fnStoreWrong : ChangeSpec := { name := "fnStore", fn := fun _ => fun
  | [d1, d2] => { results := [.lit (.bool false)], args := [d1, d2] }
  | _ => none }
def FnStoreWrongFalsely : Prop := fnStoreRow.holds Try.pinned (OpenSpec.ofChange fnStoreWrong)

/-- 'laws.FnTxn': WHATEVER THE INPUT: true; the input reads as it did. -/
def fnTxnSpec : ChangeSpec := { name := "fnTxn", fn := fun _ => fun
  | [d1, d2] => { results := [.lit (.bool true)], args := [d1, d2] }
  | _ => none }
def fnTxnRow : OpenClaim := { program := "ytfiboooflebdpaa", sum := "1eef1f8b0b7fd14fc6b5000e21e83cce7cdd3e19c0f563ae25b1e2080c58f8fa", func := "loop.example/g00540/laws.FnTxn", spec := "fnTxn", unfollowed := true, recurses := true, apart := false }
def FnTxnSaid : Prop := fnTxnRow.holds Try.pinned (OpenSpec.ofChange fnTxnSpec)

/-- ITS FALSE NEIGHBOUR: 'it returns false'. Refute it at one input. -/
def fnTxnWrong : ChangeSpec := { name := "fnTxn", fn := fun _ => fun
  | [d1, d2] => { results := [.lit (.bool false)], args := [d1, d2] }
  | _ => none }
def FnTxnWrongFalsely : Prop := fnTxnRow.holds Try.pinned (OpenSpec.ofChange fnTxnWrong)

/-- 'laws.FnExactWriteTxn': WHATEVER THE INPUT: true; the input reads as it did. -/
def fnExactWriteTxnSpec : ChangeSpec := { name := "fnExactWriteTxn", fn := fun _ => fun
  | [d1, d2, d3] => { results := [.lit (.bool true)], args := [d1, d2, d3] }
  | _ => none }
def fnExactWriteTxnRow : OpenClaim := { program := "ytfiboooflebdpaa", sum := "1eef1f8b0b7fd14fc6b5000e21e83cce7cdd3e19c0f563ae25b1e2080c58f8fa", func := "loop.example/g00540/laws.FnExactWriteTxn", spec := "fnExactWriteTxn", unfollowed := true, recurses := true, apart := false }
def FnExactWriteTxnSaid : Prop := fnExactWriteTxnRow.holds Try.pinned (OpenSpec.ofChange fnExactWriteTxnSpec)

/-- ITS FALSE NEIGHBOUR: 'it returns false'. Refute it at one input. -/
def fnExactWriteTxnWrong : ChangeSpec := { name := "fnExactWriteTxn", fn := fun _ => fun
  | [d1, d2, d3] => { results := [.lit (.bool false)], args := [d1, d2, d3] }
  | _ => none }
def FnExactWriteTxnWrongFalsely : Prop := fnExactWriteTxnRow.holds Try.pinned (OpenSpec.ofChange fnExactWriteTxnWrong)

/-- 'laws.FnExactReadTxn': WHATEVER THE INPUT: true; the input reads as it did. -/
def fnExactReadTxnSpec : ChangeSpec := { name := "fnExactReadTxn", fn := fun _ => fun
  | [d1, d2, d3] => { results := [.lit (.bool true)], args := [d1, d2, d3] }
  | _ => none }
def fnExactReadTxnRow : OpenClaim := { program := "ytfiboooflebdpaa", sum := "1eef1f8b0b7fd14fc6b5000e21e83cce7cdd3e19c0f563ae25b1e2080c58f8fa", func := "loop.example/g00540/laws.FnExactReadTxn", spec := "fnExactReadTxn", unfollowed := true, recurses := true, apart := false }
def FnExactReadTxnSaid : Prop := fnExactReadTxnRow.holds Try.pinned (OpenSpec.ofChange fnExactReadTxnSpec)

/-- ITS FALSE NEIGHBOUR: 'it returns false'. Refute it at one input. -/
def fnExactReadTxnWrong : ChangeSpec := { name := "fnExactReadTxn", fn := fun _ => fun
  | [d1, d2, d3] => { results := [.lit (.bool false)], args := [d1, d2, d3] }
  | _ => none }
def FnExactReadTxnWrongFalsely : Prop := fnExactReadTxnRow.holds Try.pinned (OpenSpec.ofChange fnExactReadTxnWrong)

/-- 'laws.FnExactCommit': WHATEVER THE INPUT: true; the input reads as it did. -/
def fnExactCommitSpec : ChangeSpec := { name := "fnExactCommit", fn := fun _ => fun
  | [d1, d2] => { results := [.lit (.bool true)], args := [d1, d2] }
  | _ => none }
def fnExactCommitRow : OpenClaim := { program := "ytfiboooflebdpaa", sum := "1eef1f8b0b7fd14fc6b5000e21e83cce7cdd3e19c0f563ae25b1e2080c58f8fa", func := "loop.example/g00540/laws.FnExactCommit", spec := "fnExactCommit", unfollowed := true, recurses := true, apart := false }
def FnExactCommitSaid : Prop := fnExactCommitRow.holds Try.pinned (OpenSpec.ofChange fnExactCommitSpec)

/-- ITS FALSE NEIGHBOUR: 'it returns false'. Refute it at one input. -/
def fnExactCommitWrong : ChangeSpec := { name := "fnExactCommit", fn := fun _ => fun
  | [d1, d2] => { results := [.lit (.bool false)], args := [d1, d2] }
  | _ => none }
def FnExactCommitWrongFalsely : Prop := fnExactCommitRow.holds Try.pinned (OpenSpec.ofChange fnExactCommitWrong)

/- THE SECOND FORM. 'bulk': how many values and letters a reading holds, each counted each time it is reached (what is shared counts as often as it is met; a slice's spare places count too). A statement '..UptoSaid' is the law's where the arguments, and the package variables that the reading takes, are together of bulk at most 1048576: NARROWER than '..Said'. Prove '..Said' where nothing that the law and all that it calls make is longer than what came in: it says more and counts as full. Else prove '..UptoSaid'. A law counts once. -/
mutual
def uptoBulk {H : Type} : DataW H → Nat
  | .lit (.string bytes) => bytes.length + 1
  | .lit _ => 1
  | .nil => 1
  | .ptr d => uptoBulk d + 1
  | .slice elems spare => uptoBulkAll elems + uptoBulkAll spare + 1
  | .agg parts => uptoBulkAll parts + 1
  | .iface _ d => uptoBulk d + 1
  | .map entries => uptoBulkEntries entries + 1
  | .held _ => 1
def uptoBulkAll {H : Type} : List (DataW H) → Nat
  | [] => 0
  | d :: r => uptoBulk d + uptoBulkAll r
def uptoBulkEntries {H : Type} : List (Lit × DataW H) → Nat
  | [] => 0
  | x :: r => uptoBulkEntry x + uptoBulkEntries r
def uptoBulkEntry {H : Type} : Lit × DataW H → Nat
  | (.string bytes, d) => bytes.length + uptoBulk d + 1
  | (_, d) => uptoBulk d + 1
 end
def uptoSmall : (H : Type) → List (DataW H) → Bool := fun _ ds => decide (uptoBulkAll ds ≤ 1048576)
def OpenSpec.upto (s : _root_.Go.ChangeSpec) : _root_.Go.OpenSpec := { _root_.Go.OpenSpec.ofChange s with cond := some uptoSmall }

/-- 'laws.FnExactForget', WHERE WHAT IT READS IS OF BULK AT MOST 1048576: true; the input reads as it did. -/
def fnExactForgetUptoRow : OpenClaim := { program := "ytfiboooflebdpaa", sum := "1eef1f8b0b7fd14fc6b5000e21e83cce7cdd3e19c0f563ae25b1e2080c58f8fa", func := "loop.example/g00540/laws.FnExactForget", spec := "fnExactForget", apart := false, narrowed := true }
def FnExactForgetUptoSaid : Prop := fnExactForgetUptoRow.holds Try.pinned (OpenSpec.upto fnExactForgetSpec)

/-- 'laws.FnForget', WHERE WHAT IT READS IS OF BULK AT MOST 1048576: true; the input reads as it did. -/
def fnForgetUptoRow : OpenClaim := { program := "ytfiboooflebdpaa", sum := "1eef1f8b0b7fd14fc6b5000e21e83cce7cdd3e19c0f563ae25b1e2080c58f8fa", func := "loop.example/g00540/laws.FnForget", spec := "fnForget", unfollowed := true, recurses := true, apart := false, narrowed := true }
def FnForgetUptoSaid : Prop := fnForgetUptoRow.holds Try.pinned (OpenSpec.upto fnForgetSpec)

/-- 'laws.FnExactWriteAll', WHERE WHAT IT READS IS OF BULK AT MOST 1048576: true; the input reads as it did. -/
def fnExactWriteAllUptoRow : OpenClaim := { program := "ytfiboooflebdpaa", sum := "1eef1f8b0b7fd14fc6b5000e21e83cce7cdd3e19c0f563ae25b1e2080c58f8fa", func := "loop.example/g00540/laws.FnExactWriteAll", spec := "fnExactWriteAll", unfollowed := true, recurses := true, apart := false, narrowed := true }
def FnExactWriteAllUptoSaid : Prop := fnExactWriteAllUptoRow.holds Try.pinned (OpenSpec.upto fnExactWriteAllSpec)

/-- 'laws.FnStore', WHERE WHAT IT READS IS OF BULK AT MOST 1048576: true; the input reads as it did. -/
def fnStoreUptoRow : OpenClaim := { program := "ytfiboooflebdpaa", sum := "1eef1f8b0b7fd14fc6b5000e21e83cce7cdd3e19c0f563ae25b1e2080c58f8fa", func := "loop.example/g00540/laws.FnStore", spec := "fnStore", unfollowed := true, recurses := true, apart := false, narrowed := true }
def FnStoreUptoSaid : Prop := fnStoreUptoRow.holds Try.pinned (OpenSpec.upto fnStoreSpec)

/-- 'laws.FnTxn', WHERE WHAT IT READS IS OF BULK AT MOST 1048576: true; the input reads as it did. -/
def fnTxnUptoRow : OpenClaim := { program := "ytfiboooflebdpaa", sum := "1eef1f8b0b7fd14fc6b5000e21e83cce7cdd3e19c0f563ae25b1e2080c58f8fa", func := "loop.example/g00540/laws.FnTxn", spec := "fnTxn", unfollowed := true, recurses := true, apart := false, narrowed := true }
def FnTxnUptoSaid : Prop := fnTxnUptoRow.holds Try.pinned (OpenSpec.upto fnTxnSpec)

/-- 'laws.FnExactWriteTxn', WHERE WHAT IT READS IS OF BULK AT MOST 1048576: true; the input reads as it did. -/
def fnExactWriteTxnUptoRow : OpenClaim := { program := "ytfiboooflebdpaa", sum := "1eef1f8b0b7fd14fc6b5000e21e83cce7cdd3e19c0f563ae25b1e2080c58f8fa", func := "loop.example/g00540/laws.FnExactWriteTxn", spec := "fnExactWriteTxn", unfollowed := true, recurses := true, apart := false, narrowed := true }
def FnExactWriteTxnUptoSaid : Prop := fnExactWriteTxnUptoRow.holds Try.pinned (OpenSpec.upto fnExactWriteTxnSpec)

/-- 'laws.FnExactReadTxn', WHERE WHAT IT READS IS OF BULK AT MOST 1048576: true; the input reads as it did. -/
def fnExactReadTxnUptoRow : OpenClaim := { program := "ytfiboooflebdpaa", sum := "1eef1f8b0b7fd14fc6b5000e21e83cce7cdd3e19c0f563ae25b1e2080c58f8fa", func := "loop.example/g00540/laws.FnExactReadTxn", spec := "fnExactReadTxn", unfollowed := true, recurses := true, apart := false, narrowed := true }
def FnExactReadTxnUptoSaid : Prop := fnExactReadTxnUptoRow.holds Try.pinned (OpenSpec.upto fnExactReadTxnSpec)

/-- 'laws.FnExactCommit', WHERE WHAT IT READS IS OF BULK AT MOST 1048576: true; the input reads as it did. -/
def fnExactCommitUptoRow : OpenClaim := { program := "ytfiboooflebdpaa", sum := "1eef1f8b0b7fd14fc6b5000e21e83cce7cdd3e19c0f563ae25b1e2080c58f8fa", func := "loop.example/g00540/laws.FnExactCommit", spec := "fnExactCommit", unfollowed := true, recurses := true, apart := false, narrowed := true }
def FnExactCommitUptoSaid : Prop := fnExactCommitUptoRow.holds Try.pinned (OpenSpec.upto fnExactCommitSpec)

end Rows
end Go.Proofs.Ytfiboooflebdpaa
