/-
  NARROWER THAN 'FOR EVERY INPUT', by the rows' own cells (each row's printed sentence says how): FnExactOutOK: loops · FnExactSameOut: loops · FnExactCommittedOf: loops · FnExactRealTime: loops · FnExactWitness: loops.
  DERIVED. THE GIVEN ROWS OF THIS SEAT. 8 by the template 'for every input the law returns true; each argument reads behind the call as it read before'; 0 by the template 'total and deterministic' (their statements: YtfpkooafbeejmaaTotals.lean).
  GIVEN WITH THE SEED: the statements are not yours to turn. If you find one false, say at which input.
  Laid BY PROGRAM, IN A SANDBOX (cutbox-rows.mjs): the forced cells as the released guide's own fill.sh prints them over the translation 4b9b374cc75a8944… (all of the seat's roots in one cut). By AI agents, Wed Nov 11 2026. No macro, syntax, notation, axiom, sorry.
-/
import Derived.Test.YtfpkooafbeejmaaChecked
import GoSem.Claim
import GoSem.ClaimJoined
import GoSem.ClaimMapViews
import Derived.JoinedTies
import Derived.KernelRfl
namespace Go.Proofs.Ytfpkooafbeejmaa
/- THE CELL 'sum', in the pinned program and in every row, IS THE sha256 OF THE DUMP (.gsa) THAT YtfpkooafbeejmaaProg.lean LOADS. Nothing in Lean hashes anything: it is a label: what it is worth is what the hold of that sum in a sandbox is worth. -/
noncomputable def Try.pinned : Pinned := { name := "ytfpkooafbeejmaa", sum := "4b9b374cc75a8944e217869f7283ff650d990ad03ed984c1c727aacab6b9bb34", checked := Try.checked }
namespace Rows
def none {H : Type} : Left H := { results := [], args := [] }

/-- 'laws.FnExactBindingsOK': WHATEVER THE INPUT: true; the input reads as it did. -/
def fnExactBindingsOKSpec : ChangeSpec := { name := "fnExactBindingsOK", fn := fun _ => fun
  | [d] => { results := [.lit (.bool true)], args := [d] }
  | _ => none }
def fnExactBindingsOKRow : OpenClaim := { program := "ytfpkooafbeejmaa", sum := "4b9b374cc75a8944e217869f7283ff650d990ad03ed984c1c727aacab6b9bb34", func := "loop.example/g00540/laws.FnExactBindingsOK", spec := "fnExactBindingsOK", unfollowed := true, recurses := true, apart := false }
def FnExactBindingsOKSaid : Prop := fnExactBindingsOKRow.holds Try.pinned (OpenSpec.ofChange fnExactBindingsOKSpec)

/-- ITS FALSE NEIGHBOUR: 'it returns false'. Refute it at one input. -/
def fnExactBindingsOKWrong : ChangeSpec := { name := "fnExactBindingsOK", fn := fun _ => fun
  | [d] => { results := [.lit (.bool false)], args := [d] }
  | _ => none }
def FnExactBindingsOKWrongFalsely : Prop := fnExactBindingsOKRow.holds Try.pinned (OpenSpec.ofChange fnExactBindingsOKWrong)

/-- 'laws.FnExactValueOf': WHATEVER THE INPUT: true; the input reads as it did. -/
def fnExactValueOfSpec : ChangeSpec := { name := "fnExactValueOf", fn := fun _ => fun
  | [d1, d2] => { results := [.lit (.bool true)], args := [d1, d2] }
  | _ => none }
def fnExactValueOfRow : OpenClaim := { program := "ytfpkooafbeejmaa", sum := "4b9b374cc75a8944e217869f7283ff650d990ad03ed984c1c727aacab6b9bb34", func := "loop.example/g00540/laws.FnExactValueOf", spec := "fnExactValueOf", unfollowed := true, recurses := true, apart := false }
def FnExactValueOfSaid : Prop := fnExactValueOfRow.holds Try.pinned (OpenSpec.ofChange fnExactValueOfSpec)

/-- ITS FALSE NEIGHBOUR: 'it returns false'. Refute it at one input. -/
def fnExactValueOfWrong : ChangeSpec := { name := "fnExactValueOf", fn := fun _ => fun
  | [d1, d2] => { results := [.lit (.bool false)], args := [d1, d2] }
  | _ => none }
def FnExactValueOfWrongFalsely : Prop := fnExactValueOfRow.holds Try.pinned (OpenSpec.ofChange fnExactValueOfWrong)

/-- 'laws.FnExactOutOK': WHATEVER THE INPUT: true; the input reads as it did. -/
def fnExactOutOKSpec : ChangeSpec := { name := "fnExactOutOK", fn := fun _ => fun
  | [d] => { results := [.lit (.bool true)], args := [d] }
  | _ => none }
def fnExactOutOKRow : OpenClaim := { program := "ytfpkooafbeejmaa", sum := "4b9b374cc75a8944e217869f7283ff650d990ad03ed984c1c727aacab6b9bb34", func := "loop.example/g00540/laws.FnExactOutOK", spec := "fnExactOutOK", recurses := true, loops := true, apart := false }
def FnExactOutOKSaid : Prop := fnExactOutOKRow.holds Try.pinned (OpenSpec.ofChange fnExactOutOKSpec)

/-- ITS FALSE NEIGHBOUR: 'it returns false'. Refute it at one input. -/
def fnExactOutOKWrong : ChangeSpec := { name := "fnExactOutOK", fn := fun _ => fun
  | [d] => { results := [.lit (.bool false)], args := [d] }
  | _ => none }
def FnExactOutOKWrongFalsely : Prop := fnExactOutOKRow.holds Try.pinned (OpenSpec.ofChange fnExactOutOKWrong)

/-- 'laws.FnExactSameOut': WHATEVER THE INPUT: true; the input reads as it did. -/
def fnExactSameOutSpec : ChangeSpec := { name := "fnExactSameOut", fn := fun _ => fun
  | [d1, d2] => { results := [.lit (.bool true)], args := [d1, d2] }
  | _ => none }
def fnExactSameOutRow : OpenClaim := { program := "ytfpkooafbeejmaa", sum := "4b9b374cc75a8944e217869f7283ff650d990ad03ed984c1c727aacab6b9bb34", func := "loop.example/g00540/laws.FnExactSameOut", spec := "fnExactSameOut", unfollowed := true, recurses := true, loops := true, apart := false }
def FnExactSameOutSaid : Prop := fnExactSameOutRow.holds Try.pinned (OpenSpec.ofChange fnExactSameOutSpec)

/-- ITS FALSE NEIGHBOUR: 'it returns false'. Refute it at one input. -/
def fnExactSameOutWrong : ChangeSpec := { name := "fnExactSameOut", fn := fun _ => fun
  | [d1, d2] => { results := [.lit (.bool false)], args := [d1, d2] }
  | _ => none }
def FnExactSameOutWrongFalsely : Prop := fnExactSameOutRow.holds Try.pinned (OpenSpec.ofChange fnExactSameOutWrong)

/-- 'laws.FnExactCommittedOf': WHATEVER THE INPUT: true; the input reads as it did. -/
def fnExactCommittedOfSpec : ChangeSpec := { name := "fnExactCommittedOf", fn := fun _ => fun
  | [d] => { results := [.lit (.bool true)], args := [d] }
  | _ => none }
def fnExactCommittedOfRow : OpenClaim := { program := "ytfpkooafbeejmaa", sum := "4b9b374cc75a8944e217869f7283ff650d990ad03ed984c1c727aacab6b9bb34", func := "loop.example/g00540/laws.FnExactCommittedOf", spec := "fnExactCommittedOf", recurses := true, loops := true, apart := false }
def FnExactCommittedOfSaid : Prop := fnExactCommittedOfRow.holds Try.pinned (OpenSpec.ofChange fnExactCommittedOfSpec)

/-- ITS FALSE NEIGHBOUR: 'it returns false'. Refute it at one input. -/
def fnExactCommittedOfWrong : ChangeSpec := { name := "fnExactCommittedOf", fn := fun _ => fun
  | [d] => { results := [.lit (.bool false)], args := [d] }
  | _ => none }
def FnExactCommittedOfWrongFalsely : Prop := fnExactCommittedOfRow.holds Try.pinned (OpenSpec.ofChange fnExactCommittedOfWrong)

/-- 'laws.FnExactNewServer': WHATEVER THE INPUT: true; the input reads as it did. -/
def fnExactNewServerSpec : ChangeSpec := { name := "fnExactNewServer", fn := fun _ => fun
  | [] => { results := [.lit (.bool true)], args := [] }
  | _ => none }
def fnExactNewServerRow : OpenClaim := { program := "ytfpkooafbeejmaa", sum := "4b9b374cc75a8944e217869f7283ff650d990ad03ed984c1c727aacab6b9bb34", func := "loop.example/g00540/laws.FnExactNewServer", spec := "fnExactNewServer", recurses := true, apart := false }
def FnExactNewServerSaid : Prop := fnExactNewServerRow.holds Try.pinned (OpenSpec.ofChange fnExactNewServerSpec)

/-- ITS FALSE NEIGHBOUR: 'it returns false'. Refute it at one input. -/
def fnExactNewServerWrong : ChangeSpec := { name := "fnExactNewServer", fn := fun _ => fun
  | [] => { results := [.lit (.bool false)], args := [] }
  | _ => none }
def FnExactNewServerWrongFalsely : Prop := fnExactNewServerRow.holds Try.pinned (OpenSpec.ofChange fnExactNewServerWrong)

/-- 'laws.FnExactRealTime': WHATEVER THE INPUT: true; the input reads as it did. -/
def fnExactRealTimeSpec : ChangeSpec := { name := "fnExactRealTime", fn := fun _ => fun
  | [d] => { results := [.lit (.bool true)], args := [d] }
  | _ => none }
def fnExactRealTimeRow : OpenClaim := { program := "ytfpkooafbeejmaa", sum := "4b9b374cc75a8944e217869f7283ff650d990ad03ed984c1c727aacab6b9bb34", func := "loop.example/g00540/laws.FnExactRealTime", spec := "fnExactRealTime", unfollowed := true, recurses := true, loops := true, apart := false }
def FnExactRealTimeSaid : Prop := fnExactRealTimeRow.holds Try.pinned (OpenSpec.ofChange fnExactRealTimeSpec)

/-- ITS FALSE NEIGHBOUR: 'it returns false'. Refute it at one input. -/
def fnExactRealTimeWrong : ChangeSpec := { name := "fnExactRealTime", fn := fun _ => fun
  | [d] => { results := [.lit (.bool false)], args := [d] }
  | _ => none }
def FnExactRealTimeWrongFalsely : Prop := fnExactRealTimeRow.holds Try.pinned (OpenSpec.ofChange fnExactRealTimeWrong)

/-- 'laws.FnExactWitness': WHATEVER THE INPUT: true; the input reads as it did. -/
def fnExactWitnessSpec : ChangeSpec := { name := "fnExactWitness", fn := fun _ => fun
  | [d] => { results := [.lit (.bool true)], args := [d] }
  | _ => none }
def fnExactWitnessRow : OpenClaim := { program := "ytfpkooafbeejmaa", sum := "4b9b374cc75a8944e217869f7283ff650d990ad03ed984c1c727aacab6b9bb34", func := "loop.example/g00540/laws.FnExactWitness", spec := "fnExactWitness", unfollowed := true, recurses := true, loops := true, apart := false }
def FnExactWitnessSaid : Prop := fnExactWitnessRow.holds Try.pinned (OpenSpec.ofChange fnExactWitnessSpec)

/-- ITS FALSE NEIGHBOUR: 'it returns false'. Refute it at one input. -/
def fnExactWitnessWrong : ChangeSpec := { name := "fnExactWitness", fn := fun _ => fun
  | [d] => { results := [.lit (.bool false)], args := [d] }
  | _ => none }
def FnExactWitnessWrongFalsely : Prop := fnExactWitnessRow.holds Try.pinned (OpenSpec.ofChange fnExactWitnessWrong)

/- THE SECOND FORM. 'bulk': how many values and letters a reading holds, each counted each time it is reached (what is shared counts as often as it is met; a slice's spare places count too). A statement '..UptoSaid' is the law's where the arguments, and the package variables that the reading takes, are together of bulk at most 1048576: NARROWER than '..Said'. Prove '..Said' where nothing that the law and all that it calls make is longer than what came in: it says more and counts as full. Else prove '..UptoSaid'. A law counts once. -/
mutual
def uptoBulk {H : Type} : DataW H → Nat
  | .lit (.string bytes) => bytes.length + 1
  | .lit _ => 1
  | .nil => 1
  | .ptr d => uptoBulk d + 1
  | .slice elems spare => uptoBulkAll elems + uptoBulkAll spare + 1
  | .agg parts => uptoBulkAll parts + 1
  | .iface _ d => uptoBulk d + 1
  | .map entries => uptoBulkEntries entries + 1
  | .held _ => 1
def uptoBulkAll {H : Type} : List (DataW H) → Nat
  | [] => 0
  | d :: r => uptoBulk d + uptoBulkAll r
def uptoBulkEntries {H : Type} : List (Lit × DataW H) → Nat
  | [] => 0
  | x :: r => uptoBulkEntry x + uptoBulkEntries r
def uptoBulkEntry {H : Type} : Lit × DataW H → Nat
  | (.string bytes, d) => bytes.length + uptoBulk d + 1
  | (_, d) => uptoBulk d + 1
 end
def uptoSmall : (H : Type) → List (DataW H) → Bool := fun _ ds => decide (uptoBulkAll ds ≤ 1048576)
def OpenSpec.upto (s : _root_.Go.ChangeSpec) : _root_.Go.OpenSpec := { _root_.Go.OpenSpec.ofChange s with cond := some uptoSmall }

/-- 'laws.FnExactBindingsOK', WHERE WHAT IT READS IS OF BULK AT MOST 1048576: true; the input reads as it did. -/
def fnExactBindingsOKUptoRow : OpenClaim := { program := "ytfpkooafbeejmaa", sum := "4b9b374cc75a8944e217869f7283ff650d990ad03ed984c1c727aacab6b9bb34", func := "loop.example/g00540/laws.FnExactBindingsOK", spec := "fnExactBindingsOK", unfollowed := true, recurses := true, apart := false, narrowed := true }
def FnExactBindingsOKUptoSaid : Prop := fnExactBindingsOKUptoRow.holds Try.pinned (OpenSpec.upto fnExactBindingsOKSpec)

/-- 'laws.FnExactValueOf', WHERE WHAT IT READS IS OF BULK AT MOST 1048576: true; the input reads as it did. -/
def fnExactValueOfUptoRow : OpenClaim := { program := "ytfpkooafbeejmaa", sum := "4b9b374cc75a8944e217869f7283ff650d990ad03ed984c1c727aacab6b9bb34", func := "loop.example/g00540/laws.FnExactValueOf", spec := "fnExactValueOf", unfollowed := true, recurses := true, apart := false, narrowed := true }
def FnExactValueOfUptoSaid : Prop := fnExactValueOfUptoRow.holds Try.pinned (OpenSpec.upto fnExactValueOfSpec)

/-- 'laws.FnExactOutOK', WHERE WHAT IT READS IS OF BULK AT MOST 1048576: true; the input reads as it did. -/
def fnExactOutOKUptoRow : OpenClaim := { program := "ytfpkooafbeejmaa", sum := "4b9b374cc75a8944e217869f7283ff650d990ad03ed984c1c727aacab6b9bb34", func := "loop.example/g00540/laws.FnExactOutOK", spec := "fnExactOutOK", recurses := true, loops := true, apart := false, narrowed := true }
def FnExactOutOKUptoSaid : Prop := fnExactOutOKUptoRow.holds Try.pinned (OpenSpec.upto fnExactOutOKSpec)

/-- 'laws.FnExactSameOut', WHERE WHAT IT READS IS OF BULK AT MOST 1048576: true; the input reads as it did. -/
def fnExactSameOutUptoRow : OpenClaim := { program := "ytfpkooafbeejmaa", sum := "4b9b374cc75a8944e217869f7283ff650d990ad03ed984c1c727aacab6b9bb34", func := "loop.example/g00540/laws.FnExactSameOut", spec := "fnExactSameOut", unfollowed := true, recurses := true, loops := true, apart := false, narrowed := true }
def FnExactSameOutUptoSaid : Prop := fnExactSameOutUptoRow.holds Try.pinned (OpenSpec.upto fnExactSameOutSpec)

/-- 'laws.FnExactCommittedOf', WHERE WHAT IT READS IS OF BULK AT MOST 1048576: true; the input reads as it did. -/
def fnExactCommittedOfUptoRow : OpenClaim := { program := "ytfpkooafbeejmaa", sum := "4b9b374cc75a8944e217869f7283ff650d990ad03ed984c1c727aacab6b9bb34", func := "loop.example/g00540/laws.FnExactCommittedOf", spec := "fnExactCommittedOf", recurses := true, loops := true, apart := false, narrowed := true }
def FnExactCommittedOfUptoSaid : Prop := fnExactCommittedOfUptoRow.holds Try.pinned (OpenSpec.upto fnExactCommittedOfSpec)

/-- 'laws.FnExactNewServer', WHERE WHAT IT READS IS OF BULK AT MOST 1048576: true; the input reads as it did. -/
def fnExactNewServerUptoRow : OpenClaim := { program := "ytfpkooafbeejmaa", sum := "4b9b374cc75a8944e217869f7283ff650d990ad03ed984c1c727aacab6b9bb34", func := "loop.example/g00540/laws.FnExactNewServer", spec := "fnExactNewServer", recurses := true, apart := false, narrowed := true }
def FnExactNewServerUptoSaid : Prop := fnExactNewServerUptoRow.holds Try.pinned (OpenSpec.upto fnExactNewServerSpec)

/-- 'laws.FnExactRealTime', WHERE WHAT IT READS IS OF BULK AT MOST 1048576: true; the input reads as it did. -/
def fnExactRealTimeUptoRow : OpenClaim := { program := "ytfpkooafbeejmaa", sum := "4b9b374cc75a8944e217869f7283ff650d990ad03ed984c1c727aacab6b9bb34", func := "loop.example/g00540/laws.FnExactRealTime", spec := "fnExactRealTime", unfollowed := true, recurses := true, loops := true, apart := false, narrowed := true }
def FnExactRealTimeUptoSaid : Prop := fnExactRealTimeUptoRow.holds Try.pinned (OpenSpec.upto fnExactRealTimeSpec)

/-- 'laws.FnExactWitness', WHERE WHAT IT READS IS OF BULK AT MOST 1048576: true; the input reads as it did. -/
def fnExactWitnessUptoRow : OpenClaim := { program := "ytfpkooafbeejmaa", sum := "4b9b374cc75a8944e217869f7283ff650d990ad03ed984c1c727aacab6b9bb34", func := "loop.example/g00540/laws.FnExactWitness", spec := "fnExactWitness", unfollowed := true, recurses := true, loops := true, apart := false, narrowed := true }
def FnExactWitnessUptoSaid : Prop := fnExactWitnessUptoRow.holds Try.pinned (OpenSpec.upto fnExactWitnessSpec)

end Rows
end Go.Proofs.Ytfpkooafbeejmaa
