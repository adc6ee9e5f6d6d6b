/- Texts of the claim on FnTxn, gathered by a program of this session: what the program's functions compute (proved by walks), and the plain part. -/
import Derived.Test.YtfiboooflebdpaaProg
import Derived.Shelf.Abstract
import Derived.Lib.SliceRun
import Derived.Below
import Derived.Deep.Draws
import Derived.Deep.AppendLies
import Derived.Maps.AppendAt
import Derived.OwnWalk
import Derived.Laws.BytesArg
import Derived.Laws.MakeOwn
import Derived.Laws.OwnMore
import Derived.Deep.OwnRows
import Derived.Tactics
import Derived.Lib.ConvBytes
import Derived.Laws.Slices
import Derived.WalkKit
import Derived.KernelRfl
import Derived.RowKit3
import Derived.Deep.LoopGhost
import Derived.Deep.QuietTactic
import Derived.BigQuiet
import Derived.WideLaws
import Derived.Deep.DeepCutAuto
import Derived.Deep.CutBlock
import Derived.Deep.RegionHeld3
import Derived.Laws.Rows
import Derived.Lib.AppendStr
import Derived.ArgAppend
import Derived.Laws.IdiomCopy
import Derived.OrdersHeld
import Derived.Laws.BitsLemmas
import Derived.RowKit
import Derived.Test.YtfiboooflebdpaaKFnTxnWWords
import Derived.Test.YtfiboooflebdpaaKFnTxnWLast
import Derived.Test.YtfiboooflebdpaaKFnTxnWTab
import Derived.Test.YtfiboooflebdpaaKFnTxnWQPut
import Derived.Test.YtfiboooflebdpaaKFnTxnWApart
import Derived.Test.YtfiboooflebdpaaKFnTxnWArr
import Derived.Test.YtfiboooflebdpaaKFnTxnWZeros
import Derived.Test.YtfiboooflebdpaaKFnTxnWFoot
import Derived.Test.YtfiboooflebdpaaKFnTxnWKept
import Derived.Test.YtfiboooflebdpaaKFnTxnWShare
import Derived.Test.YtfiboooflebdpaaKFnTxnWN
import Derived.Test.YtfiboooflebdpaaKFnTxnWRepsOne
import Derived.Test.YtfiboooflebdpaaKFnTxnWGuard
import Derived.Test.YtfiboooflebdpaaKFnTxnWNEv
import Derived.Test.YtfiboooflebdpaaKFnTxnWMore
import Derived.RangeFuncNested
import Derived.RangeFuncBound
import Derived.RangeFuncCalls
import Derived.RangeFuncLeaves
import Derived.Shelf.RegionOpen
import Derived.OwnWalkIn
import Derived.TacticsInMore
import Derived.LoopNIn
import Derived.LoopIn
namespace Go.Proofs.Ytfiboooflebdpaa.Q
open Go.RowKit Go.Proofs.YtfiboooflebdpaaW.PrintWords Go.Proofs.YtfiboooflebdpaaW.PrintLast Go.Proofs.YtfiboooflebdpaaW.PrintMore
attribute [local go_sem] max2_int min2_int max_two min_two max_three min_three max_four min_four
set_option linter.unusedVariables false
set_option linter.unusedSimpArgs false



def errW : Option Int → Value
 | none => .nilIface
 | some c => .iface 0 (.int .i64 c)
theorem errW_none : errW none = .nilIface := rfl
theorem errW_some (c : Int) : errW (some c) = .iface 0 (.int .i64 c) := rfl

theorem info3 : (Try.prog.info? 3).map (fun i => (i.zero, i.size, i.bytes)) = some (some (.int .i64 0), 1, 8) := by kernel_rfl
theorem info41 : (Try.prog.info? 41).map (fun i => (i.zero, i.size, i.bytes)) = some (some (.slice none 0 0), 1, 24) := by kernel_rfl
theorem info43 : (Try.prog.info? 43).map (fun i => (i.zero, i.size, i.bytes)) = some (some (.agg #[(.int .i64 0), (.int .i64 0)]), 2, 16) := by kernel_rfl
theorem info58 : (Try.prog.info? 58).map (fun i => (i.zero, i.size, i.bytes)) = some (some (.agg #[(.int .i64 0), (.int .i64 0)]), 2, 16) := by kernel_rfl
-- the values' own types
/-! #### struct type 141 -/
structure S141 where
 f0 : Int
 f1 : Int
def z141 : S141 := ⟨(0 : Int), (0 : Int)⟩
def k141 : Kd S141 := Kd.iso (Kd.pair (Kd.int .i64) (Kd.int .i64)) (fun x : S141 => (x.f0, x.f1))
theorem k141_heap : Kd.Heap k141 := Kd.heap_iso _ (Kd.heap_pair (Kd.heap_int .i64) (Kd.heap_int .i64))
theorem k141_open {w : World} {x : S141} {cs : List Value} (h : k141.K w x cs) : cs = [.int .i64 x.f0, .int .i64 x.f1] := by
 obtain ⟨_, _, rfl, rfl, rfl⟩ := h
 exact rfl
theorem k141_openM {w : World} {base : Nat} {ok : Nat → Prop} {x : S141} {cs : List Value} (h : k141.M w base ok x cs) : cs = [.int .i64 x.f0, .int .i64 x.f1] := by
 obtain ⟨_, _, rfl, rfl, rfl⟩ := h
 exact rfl
theorem k141_mk (w : World) (x : S141)  : k141.K w x [.int .i64 x.f0, .int .i64 x.f1] := ⟨[.int .i64 x.f0], [.int .i64 x.f1], rfl, rfl, rfl⟩
theorem k141_mkM (w : World) (base : Nat) (ok : Nat → Prop) (x : S141)  : k141.M w base ok x [.int .i64 x.f0, .int .i64 x.f1] := ⟨[.int .i64 x.f0], [.int .i64 x.f1], rfl, rfl, rfl⟩
theorem k141_mkF (W : World) (ok : Nat → Prop) (x : S141) : Kd.FK k141 W ok x [.int .i64 x.f0, .int .i64 x.f1] := fun W2 _ => k141_mk W2 x
def rd_T141 (xs : List S141) (i : Int) : S141 := xs.getD i.toNat z141
theorem at_T141 {w : World} {A : Option Addr} {n : Nat} {xs : List S141} (h : Kd.C k141 w A n xs) (i : Int) (h0 : 0 ≤ i) (h1 : i < n) : ∃ ad , A = some ad ∧ w.cell? (ad.add (i.toNat * 2)) = some (.int .i64 (rd_T141 xs i).f0) ∧ w.cell? ⟨(ad.add (i.toNat * 2)).block, (ad.add (i.toNat * 2)).off + 1, none⟩ = some (.int .i64 (rd_T141 xs i).f1) := by
 obtain ⟨ad, c, e, _, hK, hc0⟩ := Kd.C_get h z141 i h0 h1
 have hc : ∀ j u, c[j]? = some u → w.cell? (ad.add (i.toNat * 2 + j)) = some u := hc0
 obtain rfl := k141_open hK
 exact ⟨ad, e, hc 0 _ rfl, by rw [← add_field _ _ 1 (by omega)]; exact hc 1 _ rfl⟩

def rd_L2 (xs : List (List S141)) (i : Int) : (List S141) := xs.getD i.toNat ([] : List S141)
theorem at_L2 {w : World} {A : Option Addr} {n : Nat} {xs : List (List S141)} (h : Kd.C (Kd.slice 141 k141) w A n xs) (i : Int) (h0 : 0 ≤ i) (h1 : i < n) : ∃ ad A0 c0, A = some ad ∧ w.cell? (ad.add i.toNat) = some (.slice A0 (rd_L2 xs i).length c0) ∧ (rd_L2 xs i).length ≤ c0 ∧ k141.C w A0 (rd_L2 xs i).length (rd_L2 xs i) := by
 obtain ⟨ad, c, e, _, hK, hc0⟩ := Kd.C_get h ([] : List S141) i h0 h1
 have hc : ∀ j u, c[j]? = some u → w.cell? (ad.add (i.toNat * 1 + j)) = some u := hc0
 obtain ⟨A0, c0, rfl, l0, g0⟩ := hK
 exact ⟨ad, A0, c0, e, by have hq := hc 0 _ rfl; rwa [Nat.mul_one, Nat.add_zero] at hq, l0, g0⟩

/-! #### struct type 43 -/
structure S43 where
 f0 : Int
 f1 : Int
def z43 : S43 := ⟨(0 : Int), (0 : Int)⟩
def k43 : Kd S43 := Kd.iso (Kd.pair (Kd.int .i64) (Kd.int .i64)) (fun x : S43 => (x.f0, x.f1))
theorem k43_heap : Kd.Heap k43 := Kd.heap_iso _ (Kd.heap_pair (Kd.heap_int .i64) (Kd.heap_int .i64))
theorem k43_open {w : World} {x : S43} {cs : List Value} (h : k43.K w x cs) : cs = [.int .i64 x.f0, .int .i64 x.f1] := by
 obtain ⟨_, _, rfl, rfl, rfl⟩ := h
 exact rfl
theorem k43_openM {w : World} {base : Nat} {ok : Nat → Prop} {x : S43} {cs : List Value} (h : k43.M w base ok x cs) : cs = [.int .i64 x.f0, .int .i64 x.f1] := by
 obtain ⟨_, _, rfl, rfl, rfl⟩ := h
 exact rfl
theorem k43_mk (w : World) (x : S43)  : k43.K w x [.int .i64 x.f0, .int .i64 x.f1] := ⟨[.int .i64 x.f0], [.int .i64 x.f1], rfl, rfl, rfl⟩
theorem k43_mkM (w : World) (base : Nat) (ok : Nat → Prop) (x : S43)  : k43.M w base ok x [.int .i64 x.f0, .int .i64 x.f1] := ⟨[.int .i64 x.f0], [.int .i64 x.f1], rfl, rfl, rfl⟩
theorem k43_mkF (W : World) (ok : Nat → Prop) (x : S43) : Kd.FK k43 W ok x [.int .i64 x.f0, .int .i64 x.f1] := fun W2 _ => k43_mk W2 x
def rd_T43 (xs : List S43) (i : Int) : S43 := xs.getD i.toNat z43
theorem at_T43 {w : World} {A : Option Addr} {n : Nat} {xs : List S43} (h : Kd.C k43 w A n xs) (i : Int) (h0 : 0 ≤ i) (h1 : i < n) : ∃ ad , A = some ad ∧ w.cell? (ad.add (i.toNat * 2)) = some (.int .i64 (rd_T43 xs i).f0) ∧ w.cell? ⟨(ad.add (i.toNat * 2)).block, (ad.add (i.toNat * 2)).off + 1, none⟩ = some (.int .i64 (rd_T43 xs i).f1) := by
 obtain ⟨ad, c, e, _, hK, hc0⟩ := Kd.C_get h z43 i h0 h1
 have hc : ∀ j u, c[j]? = some u → w.cell? (ad.add (i.toNat * 2 + j)) = some u := hc0
 obtain rfl := k43_open hK
 exact ⟨ad, e, hc 0 _ rfl, by rw [← add_field _ _ 1 (by omega)]; exact hc 1 _ rfl⟩

def rd_L4 (xs : List (List S43)) (i : Int) : (List S43) := xs.getD i.toNat ([] : List S43)
theorem at_L4 {w : World} {A : Option Addr} {n : Nat} {xs : List (List S43)} (h : Kd.C (Kd.slice 43 k43) w A n xs) (i : Int) (h0 : 0 ≤ i) (h1 : i < n) : ∃ ad A0 c0, A = some ad ∧ w.cell? (ad.add i.toNat) = some (.slice A0 (rd_L4 xs i).length c0) ∧ (rd_L4 xs i).length ≤ c0 ∧ k43.C w A0 (rd_L4 xs i).length (rd_L4 xs i) := by
 obtain ⟨ad, c, e, _, hK, hc0⟩ := Kd.C_get h ([] : List S43) i h0 h1
 have hc : ∀ j u, c[j]? = some u → w.cell? (ad.add (i.toNat * 1 + j)) = some u := hc0
 obtain ⟨A0, c0, rfl, l0, g0⟩ := hK
 exact ⟨ad, A0, c0, e, by have hq := hc 0 _ rfl; rwa [Nat.mul_one, Nat.add_zero] at hq, l0, g0⟩

def rd_L5 (xs : List (List (List S43))) (i : Int) : (List (List S43)) := xs.getD i.toNat ([] : List (List S43))
theorem at_L5 {w : World} {A : Option Addr} {n : Nat} {xs : List (List (List S43))} (h : Kd.C (Kd.slice 41 (Kd.slice 43 k43)) w A n xs) (i : Int) (h0 : 0 ≤ i) (h1 : i < n) : ∃ ad A0 c0, A = some ad ∧ w.cell? (ad.add i.toNat) = some (.slice A0 (rd_L5 xs i).length c0) ∧ (rd_L5 xs i).length ≤ c0 ∧ (Kd.slice 43 k43).C w A0 (rd_L5 xs i).length (rd_L5 xs i) := by
 obtain ⟨ad, c, e, _, hK, hc0⟩ := Kd.C_get h ([] : List (List S43)) i h0 h1
 have hc : ∀ j u, c[j]? = some u → w.cell? (ad.add (i.toNat * 1 + j)) = some u := hc0
 obtain ⟨A0, c0, rfl, l0, g0⟩ := hK
 exact ⟨ad, A0, c0, e, by have hq := hc 0 _ rfl; rwa [Nat.mul_one, Nat.add_zero] at hq, l0, g0⟩

/-! #### struct type 28 -/
structure S28 where
 f0 : (List (List S43))
 f1 : Int
def z28 : S28 := ⟨([] : List (List S43)), (0 : Int)⟩
def k28 : Kd S28 := Kd.iso (Kd.pair (Kd.slice 41 (Kd.slice 43 k43)) (Kd.int .i64)) (fun x : S28 => (x.f0, x.f1))
theorem k28_heap : Kd.Heap k28 := Kd.heap_iso _ (Kd.heap_pair (Kd.heap_slice 41 (Kd.heap_slice 43 k43_heap)) (Kd.heap_int .i64))
theorem k28_open {w : World} {x : S28} {cs : List Value} (h : k28.K w x cs) : ∃ A0 c0, cs = [.slice A0 x.f0.length c0, .int .i64 x.f1] ∧ x.f0.length ≤ c0 ∧ (Kd.slice 43 k43).C w A0 x.f0.length x.f0 := by
 obtain ⟨_, _, rfl, ⟨A0, c0, rfl, l0, g0⟩, rfl⟩ := h
 exact ⟨A0, c0, rfl, l0, g0⟩
theorem k28_openM {w : World} {base : Nat} {ok : Nat → Prop} {x : S28} {cs : List Value} (h : k28.M w base ok x cs) : ∃ v0, cs = [v0, .int .i64 x.f1] ∧ (Kd.slice 43 k43).R 41 w base ok v0 x.f0 := by
 obtain ⟨_, _, rfl, ⟨v0, rfl, g0⟩, rfl⟩ := h
 exact ⟨v0, rfl, g0⟩
theorem k28_mk (w : World) (x : S28) {A0 : Option Addr} {c0 : Nat} (l0 : x.f0.length ≤ c0) (g0 : (Kd.slice 43 k43).C w A0 x.f0.length x.f0) : k28.K w x [.slice A0 x.f0.length c0, .int .i64 x.f1] := ⟨[.slice A0 x.f0.length c0], [.int .i64 x.f1], rfl, ⟨A0, c0, rfl, l0, g0⟩, rfl⟩
theorem k28_mkM (w : World) (base : Nat) (ok : Nat → Prop) (x : S28) {v0 : Value} (g0 : (Kd.slice 43 k43).R 41 w base ok v0 x.f0) : k28.M w base ok x [v0, .int .i64 x.f1] := ⟨[v0], [.int .i64 x.f1], rfl, ⟨v0, rfl, g0⟩, rfl⟩
theorem k28_openF {W : World} {ok : Nat → Prop} {x : S28} {cs : List Value} (h : Kd.FK k28 W ok x cs) : ∃ A0 c0, cs = [.slice A0 x.f0.length c0, .int .i64 x.f1] ∧ x.f0.length ≤ c0 ∧ Kd.F (Kd.slice 43 k43) W ok A0 x.f0.length x.f0 := by
 obtain ⟨A0, c0, rfl, l0, _⟩ := k28_open (Kd.FK_now h)
 exact ⟨A0, c0, rfl, l0, (fun W' hW => by obtain ⟨A0_, c0_, he, l0_, g0_⟩ := k28_open (h W' hW); injection (Option.some.inj (show some (Value.slice A0 x.f0.length c0) = some (Value.slice A0_ x.f0.length c0_) from congrArg (fun l => l[0]?) he)) with ha_ _ _; rw [ha_]; exact g0_)⟩
theorem k28_mkF (W : World) (ok : Nat → Prop) (x : S28) {A0 : Option Addr} {c0 : Nat} (l0 : x.f0.length ≤ c0) (g0 : Kd.F (Kd.slice 43 k43) W ok A0 x.f0.length x.f0) : Kd.FK k28 W ok x [.slice A0 x.f0.length c0, .int .i64 x.f1] := fun W2 hW => k28_mk W2 x l0 (g0 W2 hW)
def rd_T28 (xs : List S28) (i : Int) : S28 := xs.getD i.toNat z28
theorem at_T28 {w : World} {A : Option Addr} {n : Nat} {xs : List S28} (h : Kd.C k28 w A n xs) (i : Int) (h0 : 0 ≤ i) (h1 : i < n) : ∃ ad A0 c0, A = some ad ∧ w.cell? (ad.add (i.toNat * 2)) = some (.slice A0 (rd_T28 xs i).f0.length c0) ∧ w.cell? ⟨(ad.add (i.toNat * 2)).block, (ad.add (i.toNat * 2)).off + 1, none⟩ = some (.int .i64 (rd_T28 xs i).f1) ∧ (rd_T28 xs i).f0.length ≤ c0 ∧ (Kd.slice 43 k43).C w A0 (rd_T28 xs i).f0.length (rd_T28 xs i).f0 := by
 obtain ⟨ad, c, e, _, hK, hc0⟩ := Kd.C_get h z28 i h0 h1
 have hc : ∀ j u, c[j]? = some u → w.cell? (ad.add (i.toNat * 2 + j)) = some u := hc0
 obtain ⟨A0, c0, rfl, l0, g0⟩ := k28_open hK
 exact ⟨ad, A0, c0, e, hc 0 _ rfl, by rw [← add_field _ _ 1 (by omega)]; exact hc 1 _ rfl, l0, g0⟩

/-! #### struct type 76 -/
structure S76 where
 f0 : Int
 f1 : Int
def z76 : S76 := ⟨(0 : Int), (0 : Int)⟩
def k76 : Kd S76 := Kd.iso (Kd.pair (Kd.int .i64) (Kd.int .i64)) (fun x : S76 => (x.f0, x.f1))
theorem k76_heap : Kd.Heap k76 := Kd.heap_iso _ (Kd.heap_pair (Kd.heap_int .i64) (Kd.heap_int .i64))
theorem k76_open {w : World} {x : S76} {cs : List Value} (h : k76.K w x cs) : cs = [.int .i64 x.f0, .int .i64 x.f1] := by
 obtain ⟨_, _, rfl, rfl, rfl⟩ := h
 exact rfl
theorem k76_openM {w : World} {base : Nat} {ok : Nat → Prop} {x : S76} {cs : List Value} (h : k76.M w base ok x cs) : cs = [.int .i64 x.f0, .int .i64 x.f1] := by
 obtain ⟨_, _, rfl, rfl, rfl⟩ := h
 exact rfl
theorem k76_mk (w : World) (x : S76)  : k76.K w x [.int .i64 x.f0, .int .i64 x.f1] := ⟨[.int .i64 x.f0], [.int .i64 x.f1], rfl, rfl, rfl⟩
theorem k76_mkM (w : World) (base : Nat) (ok : Nat → Prop) (x : S76)  : k76.M w base ok x [.int .i64 x.f0, .int .i64 x.f1] := ⟨[.int .i64 x.f0], [.int .i64 x.f1], rfl, rfl, rfl⟩
theorem k76_mkF (W : World) (ok : Nat → Prop) (x : S76) : Kd.FK k76 W ok x [.int .i64 x.f0, .int .i64 x.f1] := fun W2 _ => k76_mk W2 x
def rd_T76 (xs : List S76) (i : Int) : S76 := xs.getD i.toNat z76
theorem at_T76 {w : World} {A : Option Addr} {n : Nat} {xs : List S76} (h : Kd.C k76 w A n xs) (i : Int) (h0 : 0 ≤ i) (h1 : i < n) : ∃ ad , A = some ad ∧ w.cell? (ad.add (i.toNat * 2)) = some (.int .i64 (rd_T76 xs i).f0) ∧ w.cell? ⟨(ad.add (i.toNat * 2)).block, (ad.add (i.toNat * 2)).off + 1, none⟩ = some (.int .i64 (rd_T76 xs i).f1) := by
 obtain ⟨ad, c, e, _, hK, hc0⟩ := Kd.C_get h z76 i h0 h1
 have hc : ∀ j u, c[j]? = some u → w.cell? (ad.add (i.toNat * 2 + j)) = some u := hc0
 obtain rfl := k76_open hK
 exact ⟨ad, e, hc 0 _ rfl, by rw [← add_field _ _ 1 (by omega)]; exact hc 1 _ rfl⟩

/-! #### struct type 58 -/
structure S58 where
 f0 : Int
 f1 : Int
def z58 : S58 := ⟨(0 : Int), (0 : Int)⟩
def k58 : Kd S58 := Kd.iso (Kd.pair (Kd.int .i64) (Kd.int .i64)) (fun x : S58 => (x.f0, x.f1))
theorem k58_heap : Kd.Heap k58 := Kd.heap_iso _ (Kd.heap_pair (Kd.heap_int .i64) (Kd.heap_int .i64))
theorem k58_open {w : World} {x : S58} {cs : List Value} (h : k58.K w x cs) : cs = [.int .i64 x.f0, .int .i64 x.f1] := by
 obtain ⟨_, _, rfl, rfl, rfl⟩ := h
 exact rfl
theorem k58_openM {w : World} {base : Nat} {ok : Nat → Prop} {x : S58} {cs : List Value} (h : k58.M w base ok x cs) : cs = [.int .i64 x.f0, .int .i64 x.f1] := by
 obtain ⟨_, _, rfl, rfl, rfl⟩ := h
 exact rfl
theorem k58_mk (w : World) (x : S58)  : k58.K w x [.int .i64 x.f0, .int .i64 x.f1] := ⟨[.int .i64 x.f0], [.int .i64 x.f1], rfl, rfl, rfl⟩
theorem k58_mkM (w : World) (base : Nat) (ok : Nat → Prop) (x : S58)  : k58.M w base ok x [.int .i64 x.f0, .int .i64 x.f1] := ⟨[.int .i64 x.f0], [.int .i64 x.f1], rfl, rfl, rfl⟩
theorem k58_mkF (W : World) (ok : Nat → Prop) (x : S58) : Kd.FK k58 W ok x [.int .i64 x.f0, .int .i64 x.f1] := fun W2 _ => k58_mk W2 x
def rd_T58 (xs : List S58) (i : Int) : S58 := xs.getD i.toNat z58
theorem at_T58 {w : World} {A : Option Addr} {n : Nat} {xs : List S58} (h : Kd.C k58 w A n xs) (i : Int) (h0 : 0 ≤ i) (h1 : i < n) : ∃ ad , A = some ad ∧ w.cell? (ad.add (i.toNat * 2)) = some (.int .i64 (rd_T58 xs i).f0) ∧ w.cell? ⟨(ad.add (i.toNat * 2)).block, (ad.add (i.toNat * 2)).off + 1, none⟩ = some (.int .i64 (rd_T58 xs i).f1) := by
 obtain ⟨ad, c, e, _, hK, hc0⟩ := Kd.C_get h z58 i h0 h1
 have hc : ∀ j u, c[j]? = some u → w.cell? (ad.add (i.toNat * 2 + j)) = some u := hc0
 obtain rfl := k58_open hK
 exact ⟨ad, e, hc 0 _ rfl, by rw [← add_field _ _ 1 (by omega)]; exact hc 1 _ rfl⟩

def rd_L9 (xs : List (List S58)) (i : Int) : (List S58) := xs.getD i.toNat ([] : List S58)
theorem at_L9 {w : World} {A : Option Addr} {n : Nat} {xs : List (List S58)} (h : Kd.C (Kd.slice 58 k58) w A n xs) (i : Int) (h0 : 0 ≤ i) (h1 : i < n) : ∃ ad A0 c0, A = some ad ∧ w.cell? (ad.add i.toNat) = some (.slice A0 (rd_L9 xs i).length c0) ∧ (rd_L9 xs i).length ≤ c0 ∧ k58.C w A0 (rd_L9 xs i).length (rd_L9 xs i) := by
 obtain ⟨ad, c, e, _, hK, hc0⟩ := Kd.C_get h ([] : List S58) i h0 h1
 have hc : ∀ j u, c[j]? = some u → w.cell? (ad.add (i.toNat * 1 + j)) = some u := hc0
 obtain ⟨A0, c0, rfl, l0, g0⟩ := hK
 exact ⟨ad, A0, c0, e, by have hq := hc 0 _ rfl; rwa [Nat.mul_one, Nat.add_zero] at hq, l0, g0⟩

def rd_L11 (xs : List (List Int)) (i : Int) : (List Int) := xs.getD i.toNat ([] : List Int)
theorem at_L11 {w : World} {A : Option Addr} {n : Nat} {xs : List (List Int)} (h : Kd.C (Kd.slice 3 (Kd.int .i64)) w A n xs) (i : Int) (h0 : 0 ≤ i) (h1 : i < n) : ∃ ad A0 c0, A = some ad ∧ w.cell? (ad.add i.toNat) = some (.slice A0 (rd_L11 xs i).length c0) ∧ (rd_L11 xs i).length ≤ c0 ∧ (Kd.int .i64).C w A0 (rd_L11 xs i).length (rd_L11 xs i) := by
 obtain ⟨ad, c, e, _, hK, hc0⟩ := Kd.C_get h ([] : List Int) i h0 h1
 have hc : ∀ j u, c[j]? = some u → w.cell? (ad.add (i.toNat * 1 + j)) = some u := hc0
 obtain ⟨A0, c0, rfl, l0, g0⟩ := hK
 exact ⟨ad, A0, c0, e, by have hq := hc 0 _ rfl; rwa [Nat.mul_one, Nat.add_zero] at hq, l0, g0⟩

/-! #### struct type 65 -/
structure S65 where
 f0 : Int
 f1 : (List Int)
 f2 : (List S58)
def z65 : S65 := ⟨(0 : Int), ([] : List Int), ([] : List S58)⟩
def k65 : Kd S65 := Kd.iso (Kd.pair (Kd.int .i64) (Kd.pair (Kd.slice 3 (Kd.int .i64)) (Kd.slice 58 k58))) (fun x : S65 => (x.f0, x.f1, x.f2))
theorem k65_heap : Kd.Heap k65 := Kd.heap_iso _ (Kd.heap_pair (Kd.heap_int .i64) (Kd.heap_pair (Kd.heap_slice 3 (Kd.heap_int .i64)) (Kd.heap_slice 58 k58_heap)))
theorem k65_open {w : World} {x : S65} {cs : List Value} (h : k65.K w x cs) : ∃ A1 c1 A2 c2, cs = [.int .i64 x.f0, .slice A1 x.f1.length c1, .slice A2 x.f2.length c2] ∧ x.f1.length ≤ c1 ∧ (Kd.int .i64).C w A1 x.f1.length x.f1 ∧ x.f2.length ≤ c2 ∧ k58.C w A2 x.f2.length x.f2 := by
 obtain ⟨_, _, rfl, rfl, ⟨_, _, rfl, ⟨A1, c1, rfl, l1, g1⟩, ⟨A2, c2, rfl, l2, g2⟩⟩⟩ := h
 exact ⟨A1, c1, A2, c2, rfl, l1, g1, l2, g2⟩
theorem k65_openM {w : World} {base : Nat} {ok : Nat → Prop} {x : S65} {cs : List Value} (h : k65.M w base ok x cs) : ∃ v1 v2, cs = [.int .i64 x.f0, v1, v2] ∧ (Kd.int .i64).R 3 w base ok v1 x.f1 ∧ k58.R 58 w base ok v2 x.f2 := by
 obtain ⟨_, _, rfl, rfl, ⟨_, _, rfl, ⟨v1, rfl, g1⟩, ⟨v2, rfl, g2⟩⟩⟩ := h
 exact ⟨v1, v2, rfl, g1, g2⟩
theorem k65_mk (w : World) (x : S65) {A1 : Option Addr} {c1 : Nat} (l1 : x.f1.length ≤ c1) (g1 : (Kd.int .i64).C w A1 x.f1.length x.f1) {A2 : Option Addr} {c2 : Nat} (l2 : x.f2.length ≤ c2) (g2 : k58.C w A2 x.f2.length x.f2) : k65.K w x [.int .i64 x.f0, .slice A1 x.f1.length c1, .slice A2 x.f2.length c2] := ⟨[.int .i64 x.f0], [.slice A1 x.f1.length c1, .slice A2 x.f2.length c2], rfl, rfl, ⟨[.slice A1 x.f1.length c1], [.slice A2 x.f2.length c2], rfl, ⟨A1, c1, rfl, l1, g1⟩, ⟨A2, c2, rfl, l2, g2⟩⟩⟩
theorem k65_mkM (w : World) (base : Nat) (ok : Nat → Prop) (x : S65) {v1 : Value} (g1 : (Kd.int .i64).R 3 w base ok v1 x.f1) {v2 : Value} (g2 : k58.R 58 w base ok v2 x.f2) : k65.M w base ok x [.int .i64 x.f0, v1, v2] := ⟨[.int .i64 x.f0], [v1, v2], rfl, rfl, ⟨[v1], [v2], rfl, ⟨v1, rfl, g1⟩, ⟨v2, rfl, g2⟩⟩⟩
theorem k65_openF {W : World} {ok : Nat → Prop} {x : S65} {cs : List Value} (h : Kd.FK k65 W ok x cs) : ∃ A1 c1 A2 c2, cs = [.int .i64 x.f0, .slice A1 x.f1.length c1, .slice A2 x.f2.length c2] ∧ x.f1.length ≤ c1 ∧ Kd.F (Kd.int .i64) W ok A1 x.f1.length x.f1 ∧ x.f2.length ≤ c2 ∧ Kd.F k58 W ok A2 x.f2.length x.f2 := by
 obtain ⟨A1, c1, A2, c2, rfl, l1, _, l2, _⟩ := k65_open (Kd.FK_now h)
 exact ⟨A1, c1, A2, c2, rfl, l1, (fun W' hW => by obtain ⟨A1_, c1_, A2_, c2_, he, l1_, g1_, l2_, g2_⟩ := k65_open (h W' hW); injection (Option.some.inj (show some (Value.slice A1 x.f1.length c1) = some (Value.slice A1_ x.f1.length c1_) from congrArg (fun l => l[1]?) he)) with ha_ _ _; rw [ha_]; exact g1_), l2, (fun W' hW => by obtain ⟨A1_, c1_, A2_, c2_, he, l1_, g1_, l2_, g2_⟩ := k65_open (h W' hW); injection (Option.some.inj (show some (Value.slice A2 x.f2.length c2) = some (Value.slice A2_ x.f2.length c2_) from congrArg (fun l => l[2]?) he)) with ha_ _ _; rw [ha_]; exact g2_)⟩
theorem k65_mkF (W : World) (ok : Nat → Prop) (x : S65) {A1 : Option Addr} {c1 : Nat} (l1 : x.f1.length ≤ c1) (g1 : Kd.F (Kd.int .i64) W ok A1 x.f1.length x.f1) {A2 : Option Addr} {c2 : Nat} (l2 : x.f2.length ≤ c2) (g2 : Kd.F k58 W ok A2 x.f2.length x.f2) : Kd.FK k65 W ok x [.int .i64 x.f0, .slice A1 x.f1.length c1, .slice A2 x.f2.length c2] := fun W2 hW => k65_mk W2 x l1 (g1 W2 hW) l2 (g2 W2 hW)
def rd_T65 (xs : List S65) (i : Int) : S65 := xs.getD i.toNat z65
theorem at_T65 {w : World} {A : Option Addr} {n : Nat} {xs : List S65} (h : Kd.C k65 w A n xs) (i : Int) (h0 : 0 ≤ i) (h1 : i < n) : ∃ ad A1 c1 A2 c2, A = some ad ∧ w.cell? (ad.add (i.toNat * 3)) = some (.int .i64 (rd_T65 xs i).f0) ∧ w.cell? ⟨(ad.add (i.toNat * 3)).block, (ad.add (i.toNat * 3)).off + 1, none⟩ = some (.slice A1 (rd_T65 xs i).f1.length c1) ∧ w.cell? ⟨(ad.add (i.toNat * 3)).block, (ad.add (i.toNat * 3)).off + 2, none⟩ = some (.slice A2 (rd_T65 xs i).f2.length c2) ∧ (rd_T65 xs i).f1.length ≤ c1 ∧ (Kd.int .i64).C w A1 (rd_T65 xs i).f1.length (rd_T65 xs i).f1 ∧ (rd_T65 xs i).f2.length ≤ c2 ∧ k58.C w A2 (rd_T65 xs i).f2.length (rd_T65 xs i).f2 := by
 obtain ⟨ad, c, e, _, hK, hc0⟩ := Kd.C_get h z65 i h0 h1
 have hc : ∀ j u, c[j]? = some u → w.cell? (ad.add (i.toNat * 3 + j)) = some u := hc0
 obtain ⟨A1, c1, A2, c2, rfl, l1, g1, l2, g2⟩ := k65_open hK
 exact ⟨ad, A1, c1, A2, c2, e, hc 0 _ rfl, by rw [← add_field _ _ 1 (by omega)]; exact hc 1 _ rfl, by rw [← add_field _ _ 2 (by omega)]; exact hc 2 _ rfl, l1, g1, l2, g2⟩

def rd_L13 (xs : List (List (List S141))) (i : Int) : (List (List S141)) := xs.getD i.toNat ([] : List (List S141))
theorem at_L13 {w : World} {A : Option Addr} {n : Nat} {xs : List (List (List S141))} (h : Kd.C (Kd.slice 122 (Kd.slice 141 k141)) w A n xs) (i : Int) (h0 : 0 ≤ i) (h1 : i < n) : ∃ ad A0 c0, A = some ad ∧ w.cell? (ad.add i.toNat) = some (.slice A0 (rd_L13 xs i).length c0) ∧ (rd_L13 xs i).length ≤ c0 ∧ (Kd.slice 141 k141).C w A0 (rd_L13 xs i).length (rd_L13 xs i) := by
 obtain ⟨ad, c, e, _, hK, hc0⟩ := Kd.C_get h ([] : List (List S141)) i h0 h1
 have hc : ∀ j u, c[j]? = some u → w.cell? (ad.add (i.toNat * 1 + j)) = some u := hc0
 obtain ⟨A0, c0, rfl, l0, g0⟩ := hK
 exact ⟨ad, A0, c0, e, by have hq := hc 0 _ rfl; rwa [Nat.mul_one, Nat.add_zero] at hq, l0, g0⟩

/-! #### struct type 24 -/
structure S24 where
 f0 : (List (List S141))
 f1 : Int
def z24 : S24 := ⟨([] : List (List S141)), (0 : Int)⟩
def k24 : Kd S24 := Kd.iso (Kd.pair (Kd.slice 122 (Kd.slice 141 k141)) (Kd.int .i64)) (fun x : S24 => (x.f0, x.f1))
theorem k24_heap : Kd.Heap k24 := Kd.heap_iso _ (Kd.heap_pair (Kd.heap_slice 122 (Kd.heap_slice 141 k141_heap)) (Kd.heap_int .i64))
theorem k24_open {w : World} {x : S24} {cs : List Value} (h : k24.K w x cs) : ∃ A0 c0, cs = [.slice A0 x.f0.length c0, .int .i64 x.f1] ∧ x.f0.length ≤ c0 ∧ (Kd.slice 141 k141).C w A0 x.f0.length x.f0 := by
 obtain ⟨_, _, rfl, ⟨A0, c0, rfl, l0, g0⟩, rfl⟩ := h
 exact ⟨A0, c0, rfl, l0, g0⟩
theorem k24_openM {w : World} {base : Nat} {ok : Nat → Prop} {x : S24} {cs : List Value} (h : k24.M w base ok x cs) : ∃ v0, cs = [v0, .int .i64 x.f1] ∧ (Kd.slice 141 k141).R 122 w base ok v0 x.f0 := by
 obtain ⟨_, _, rfl, ⟨v0, rfl, g0⟩, rfl⟩ := h
 exact ⟨v0, rfl, g0⟩
theorem k24_mk (w : World) (x : S24) {A0 : Option Addr} {c0 : Nat} (l0 : x.f0.length ≤ c0) (g0 : (Kd.slice 141 k141).C w A0 x.f0.length x.f0) : k24.K w x [.slice A0 x.f0.length c0, .int .i64 x.f1] := ⟨[.slice A0 x.f0.length c0], [.int .i64 x.f1], rfl, ⟨A0, c0, rfl, l0, g0⟩, rfl⟩
theorem k24_mkM (w : World) (base : Nat) (ok : Nat → Prop) (x : S24) {v0 : Value} (g0 : (Kd.slice 141 k141).R 122 w base ok v0 x.f0) : k24.M w base ok x [v0, .int .i64 x.f1] := ⟨[v0], [.int .i64 x.f1], rfl, ⟨v0, rfl, g0⟩, rfl⟩
theorem k24_openF {W : World} {ok : Nat → Prop} {x : S24} {cs : List Value} (h : Kd.FK k24 W ok x cs) : ∃ A0 c0, cs = [.slice A0 x.f0.length c0, .int .i64 x.f1] ∧ x.f0.length ≤ c0 ∧ Kd.F (Kd.slice 141 k141) W ok A0 x.f0.length x.f0 := by
 obtain ⟨A0, c0, rfl, l0, _⟩ := k24_open (Kd.FK_now h)
 exact ⟨A0, c0, rfl, l0, (fun W' hW => by obtain ⟨A0_, c0_, he, l0_, g0_⟩ := k24_open (h W' hW); injection (Option.some.inj (show some (Value.slice A0 x.f0.length c0) = some (Value.slice A0_ x.f0.length c0_) from congrArg (fun l => l[0]?) he)) with ha_ _ _; rw [ha_]; exact g0_)⟩
theorem k24_mkF (W : World) (ok : Nat → Prop) (x : S24) {A0 : Option Addr} {c0 : Nat} (l0 : x.f0.length ≤ c0) (g0 : Kd.F (Kd.slice 141 k141) W ok A0 x.f0.length x.f0) : Kd.FK k24 W ok x [.slice A0 x.f0.length c0, .int .i64 x.f1] := fun W2 hW => k24_mk W2 x l0 (g0 W2 hW)
def rd_T24 (xs : List S24) (i : Int) : S24 := xs.getD i.toNat z24
theorem at_T24 {w : World} {A : Option Addr} {n : Nat} {xs : List S24} (h : Kd.C k24 w A n xs) (i : Int) (h0 : 0 ≤ i) (h1 : i < n) : ∃ ad A0 c0, A = some ad ∧ w.cell? (ad.add (i.toNat * 2)) = some (.slice A0 (rd_T24 xs i).f0.length c0) ∧ w.cell? ⟨(ad.add (i.toNat * 2)).block, (ad.add (i.toNat * 2)).off + 1, none⟩ = some (.int .i64 (rd_T24 xs i).f1) ∧ (rd_T24 xs i).f0.length ≤ c0 ∧ (Kd.slice 141 k141).C w A0 (rd_T24 xs i).f0.length (rd_T24 xs i).f0 := by
 obtain ⟨ad, c, e, _, hK, hc0⟩ := Kd.C_get h z24 i h0 h1
 have hc : ∀ j u, c[j]? = some u → w.cell? (ad.add (i.toNat * 2 + j)) = some u := hc0
 obtain ⟨A0, c0, rfl, l0, g0⟩ := k24_open hK
 exact ⟨ad, A0, c0, e, hc 0 _ rfl, by rw [← add_field _ _ 1 (by omega)]; exact hc 1 _ rfl, l0, g0⟩

def rd_L15 (xs : List (List S76)) (i : Int) : (List S76) := xs.getD i.toNat ([] : List S76)
theorem at_L15 {w : World} {A : Option Addr} {n : Nat} {xs : List (List S76)} (h : Kd.C (Kd.slice 76 k76) w A n xs) (i : Int) (h0 : 0 ≤ i) (h1 : i < n) : ∃ ad A0 c0, A = some ad ∧ w.cell? (ad.add i.toNat) = some (.slice A0 (rd_L15 xs i).length c0) ∧ (rd_L15 xs i).length ≤ c0 ∧ k76.C w A0 (rd_L15 xs i).length (rd_L15 xs i) := by
 obtain ⟨ad, c, e, _, hK, hc0⟩ := Kd.C_get h ([] : List S76) i h0 h1
 have hc : ∀ j u, c[j]? = some u → w.cell? (ad.add (i.toNat * 1 + j)) = some u := hc0
 obtain ⟨A0, c0, rfl, l0, g0⟩ := hK
 exact ⟨ad, A0, c0, e, by have hq := hc 0 _ rfl; rwa [Nat.mul_one, Nat.add_zero] at hq, l0, g0⟩

/-! #### struct type 75 -/
structure S75 where
 f0 : Int
 f1 : (List Int)
 f2 : (List S76)
def z75 : S75 := ⟨(0 : Int), ([] : List Int), ([] : List S76)⟩
def k75 : Kd S75 := Kd.iso (Kd.pair (Kd.int .i64) (Kd.pair (Kd.slice 3 (Kd.int .i64)) (Kd.slice 76 k76))) (fun x : S75 => (x.f0, x.f1, x.f2))
theorem k75_heap : Kd.Heap k75 := Kd.heap_iso _ (Kd.heap_pair (Kd.heap_int .i64) (Kd.heap_pair (Kd.heap_slice 3 (Kd.heap_int .i64)) (Kd.heap_slice 76 k76_heap)))
theorem k75_open {w : World} {x : S75} {cs : List Value} (h : k75.K w x cs) : ∃ A1 c1 A2 c2, cs = [.int .i64 x.f0, .slice A1 x.f1.length c1, .slice A2 x.f2.length c2] ∧ x.f1.length ≤ c1 ∧ (Kd.int .i64).C w A1 x.f1.length x.f1 ∧ x.f2.length ≤ c2 ∧ k76.C w A2 x.f2.length x.f2 := by
 obtain ⟨_, _, rfl, rfl, ⟨_, _, rfl, ⟨A1, c1, rfl, l1, g1⟩, ⟨A2, c2, rfl, l2, g2⟩⟩⟩ := h
 exact ⟨A1, c1, A2, c2, rfl, l1, g1, l2, g2⟩
theorem k75_openM {w : World} {base : Nat} {ok : Nat → Prop} {x : S75} {cs : List Value} (h : k75.M w base ok x cs) : ∃ v1 v2, cs = [.int .i64 x.f0, v1, v2] ∧ (Kd.int .i64).R 3 w base ok v1 x.f1 ∧ k76.R 76 w base ok v2 x.f2 := by
 obtain ⟨_, _, rfl, rfl, ⟨_, _, rfl, ⟨v1, rfl, g1⟩, ⟨v2, rfl, g2⟩⟩⟩ := h
 exact ⟨v1, v2, rfl, g1, g2⟩
theorem k75_mk (w : World) (x : S75) {A1 : Option Addr} {c1 : Nat} (l1 : x.f1.length ≤ c1) (g1 : (Kd.int .i64).C w A1 x.f1.length x.f1) {A2 : Option Addr} {c2 : Nat} (l2 : x.f2.length ≤ c2) (g2 : k76.C w A2 x.f2.length x.f2) : k75.K w x [.int .i64 x.f0, .slice A1 x.f1.length c1, .slice A2 x.f2.length c2] := ⟨[.int .i64 x.f0], [.slice A1 x.f1.length c1, .slice A2 x.f2.length c2], rfl, rfl, ⟨[.slice A1 x.f1.length c1], [.slice A2 x.f2.length c2], rfl, ⟨A1, c1, rfl, l1, g1⟩, ⟨A2, c2, rfl, l2, g2⟩⟩⟩
theorem k75_mkM (w : World) (base : Nat) (ok : Nat → Prop) (x : S75) {v1 : Value} (g1 : (Kd.int .i64).R 3 w base ok v1 x.f1) {v2 : Value} (g2 : k76.R 76 w base ok v2 x.f2) : k75.M w base ok x [.int .i64 x.f0, v1, v2] := ⟨[.int .i64 x.f0], [v1, v2], rfl, rfl, ⟨[v1], [v2], rfl, ⟨v1, rfl, g1⟩, ⟨v2, rfl, g2⟩⟩⟩
theorem k75_openF {W : World} {ok : Nat → Prop} {x : S75} {cs : List Value} (h : Kd.FK k75 W ok x cs) : ∃ A1 c1 A2 c2, cs = [.int .i64 x.f0, .slice A1 x.f1.length c1, .slice A2 x.f2.length c2] ∧ x.f1.length ≤ c1 ∧ Kd.F (Kd.int .i64) W ok A1 x.f1.length x.f1 ∧ x.f2.length ≤ c2 ∧ Kd.F k76 W ok A2 x.f2.length x.f2 := by
 obtain ⟨A1, c1, A2, c2, rfl, l1, _, l2, _⟩ := k75_open (Kd.FK_now h)
 exact ⟨A1, c1, A2, c2, rfl, l1, (fun W' hW => by obtain ⟨A1_, c1_, A2_, c2_, he, l1_, g1_, l2_, g2_⟩ := k75_open (h W' hW); injection (Option.some.inj (show some (Value.slice A1 x.f1.length c1) = some (Value.slice A1_ x.f1.length c1_) from congrArg (fun l => l[1]?) he)) with ha_ _ _; rw [ha_]; exact g1_), l2, (fun W' hW => by obtain ⟨A1_, c1_, A2_, c2_, he, l1_, g1_, l2_, g2_⟩ := k75_open (h W' hW); injection (Option.some.inj (show some (Value.slice A2 x.f2.length c2) = some (Value.slice A2_ x.f2.length c2_) from congrArg (fun l => l[2]?) he)) with ha_ _ _; rw [ha_]; exact g2_)⟩
theorem k75_mkF (W : World) (ok : Nat → Prop) (x : S75) {A1 : Option Addr} {c1 : Nat} (l1 : x.f1.length ≤ c1) (g1 : Kd.F (Kd.int .i64) W ok A1 x.f1.length x.f1) {A2 : Option Addr} {c2 : Nat} (l2 : x.f2.length ≤ c2) (g2 : Kd.F k76 W ok A2 x.f2.length x.f2) : Kd.FK k75 W ok x [.int .i64 x.f0, .slice A1 x.f1.length c1, .slice A2 x.f2.length c2] := fun W2 hW => k75_mk W2 x l1 (g1 W2 hW) l2 (g2 W2 hW)
def rd_T75 (xs : List S75) (i : Int) : S75 := xs.getD i.toNat z75
theorem at_T75 {w : World} {A : Option Addr} {n : Nat} {xs : List S75} (h : Kd.C k75 w A n xs) (i : Int) (h0 : 0 ≤ i) (h1 : i < n) : ∃ ad A1 c1 A2 c2, A = some ad ∧ w.cell? (ad.add (i.toNat * 3)) = some (.int .i64 (rd_T75 xs i).f0) ∧ w.cell? ⟨(ad.add (i.toNat * 3)).block, (ad.add (i.toNat * 3)).off + 1, none⟩ = some (.slice A1 (rd_T75 xs i).f1.length c1) ∧ w.cell? ⟨(ad.add (i.toNat * 3)).block, (ad.add (i.toNat * 3)).off + 2, none⟩ = some (.slice A2 (rd_T75 xs i).f2.length c2) ∧ (rd_T75 xs i).f1.length ≤ c1 ∧ (Kd.int .i64).C w A1 (rd_T75 xs i).f1.length (rd_T75 xs i).f1 ∧ (rd_T75 xs i).f2.length ≤ c2 ∧ k76.C w A2 (rd_T75 xs i).f2.length (rd_T75 xs i).f2 := by
 obtain ⟨ad, c, e, _, hK, hc0⟩ := Kd.C_get h z75 i h0 h1
 have hc : ∀ j u, c[j]? = some u → w.cell? (ad.add (i.toNat * 3 + j)) = some u := hc0
 obtain ⟨A1, c1, A2, c2, rfl, l1, g1, l2, g2⟩ := k75_open hK
 exact ⟨ad, A1, c1, A2, c2, e, hc 0 _ rfl, by rw [← add_field _ _ 1 (by omega)]; exact hc 1 _ rfl, by rw [← add_field _ _ 2 (by omega)]; exact hc 2 _ rfl, l1, g1, l2, g2⟩

def rd_L18 (xs : List (List Int)) (i : Int) : (List Int) := xs.getD i.toNat ([] : List Int)
theorem at_L18 {w : World} {A : Option Addr} {n : Nat} {xs : List (List Int)} (h : Kd.C (Kd.slice 5 (Kd.int .u8)) w A n xs) (i : Int) (h0 : 0 ≤ i) (h1 : i < n) : ∃ ad A0 c0, A = some ad ∧ w.cell? (ad.add i.toNat) = some (.slice A0 (rd_L18 xs i).length c0) ∧ (rd_L18 xs i).length ≤ c0 ∧ (Kd.int .u8).C w A0 (rd_L18 xs i).length (rd_L18 xs i) := by
 obtain ⟨ad, c, e, _, hK, hc0⟩ := Kd.C_get h ([] : List Int) i h0 h1
 have hc : ∀ j u, c[j]? = some u → w.cell? (ad.add (i.toNat * 1 + j)) = some u := hc0
 obtain ⟨A0, c0, rfl, l0, g0⟩ := hK
 exact ⟨ad, A0, c0, e, by have hq := hc 0 _ rfl; rwa [Nat.mul_one, Nat.add_zero] at hq, l0, g0⟩

end Go.Proofs.Ytfiboooflebdpaa.Q
namespace Go.Proofs.Ytfiboooflebdpaa.Q
open Go.RowKit Go.Proofs.YtfiboooflebdpaaW.PrintWords
theorem qzA {α : Type} (l : List α) (i : Nat) (a : α) : l.toArray.setIfInBounds i a = (l.set i a).toArray := List.setIfInBounds_toArray l i a
theorem qzB {α : Type} {a b : α} {t : List α} : (a :: t).set 0 b = b :: t := rfl
theorem qzC {α : Type} {a b : α} {t : List α} {n : Nat} : (a :: t).set (n + 1) b = a :: t.set n b := rfl
theorem qbN {B : Nat} {w W : World} (h : Below B w W) (n : Nat) : Below B w (W.drewN n) := pw_below_drewN h n
theorem qbA {w W : World} (h : Below w.heap.size w W) (o : Obj) : Below w.heap.size w (W.alloc o) := below_alloc h o
theorem qbD {base : Nat} {w W : World} (h : Below base w W) : Below base w W.drew := below_drew1 h
theorem qbS {w W : World} {g j : Nat} {v : Value} (h : Below w.heap.size w W) (hg : w.heap.size ≤ g) : Below w.heap.size w (W.setCell ⟨g, j, none⟩ v) := below_set h hg
theorem qO {p : Prop} (h : p) : Aside0 p := ⟨h⟩
theorem qT {p : Prop} [Decidable p] (h : decide p = true) : p := of_decide_eq_true h
theorem qL (w : World) (a : Addr) {v : Value} (h : w.cell? a = some v) : a.block < w.heap.size := World.block_lt_of_cell? w a h
theorem qkN {w : World} {g : Nat} {o : Obj} (h : w.heap[g]? = some o) (n : Nat) : (w.drewN n).heap[g]? = some o := h
theorem qkD {w : World} {g : Nat} {o : Obj} (h : w.heap[g]? = some o) : w.drew.heap[g]? = some o := h
theorem qkA {w : World} {g : Nat} {o : Obj} (h : w.heap[g]? = some o) (o' : Obj) : (w.alloc o').heap[g]? = some o := blk_alloc h o'
theorem qB {Wf W wn : World} {g : Nat} {o : Obj} (h : Wf.heap[g]? = some o) (hx : Below Wf.heap.size Wf W) (hb : Below W.heap.size W wn) : wn.heap[g]? = some o := blk_below (blk_below h hx) hb
theorem qHX {B : Nat} {v Wf W wn : World} (_h : Aside0 (Below B v Wf)) (_hb : Below W.heap.size W wn) (hx : Below Wf.heap.size Wf W) : Below Wf.heap.size Wf W := hx
theorem qrR {α : Type} {d : Kd α} {e : Nat} {w W : World} {base : Nat} {ok : Nat → Prop} {v : Value} {xs : List α} (h : Kd.R d e w base ok v xs) (i : Kd.R d e w base ok v xs → Kd.R d e W base ok v xs := by (intro h_; (with_reducible repeat (first | apply Kd.R_alloc | apply Kd.R_drewN | apply Kd.R_drew)); exact h_)) : Kd.R d e W base ok v xs := i h
theorem qrS {α : Type} {d : Kd α} {e : Nat} {w W : World} {base : Nat} {ok : Nat → Prop} {v : Value} {xs : List α} (h : Kd.S d e w base ok v xs) (i : Kd.S d e w base ok v xs → Kd.S d e W base ok v xs := by (intro h_; (with_reducible repeat (first | apply Kd.S_alloc | apply Kd.S_drewN | apply Kd.S_drew)); exact h_)) : Kd.S d e W base ok v xs := i h
theorem qrN {α : Type} {d : Kd α} {e : Nat} {w W : World} {base : Nat} {ok : Nat → Prop} {v : Value} {xs : List α} (h : Kd.N d e w base ok v xs) (i : Kd.N d e w base ok v xs → Kd.N d e W base ok v xs := by (intro h_; (with_reducible repeat (first | apply Kd.N_alloc | apply Kd.N_drewN | apply Kd.N_drew)); exact h_)) : Kd.N d e W base ok v xs := i h
theorem qrV {α : Type} {d : Kd α} {e : Nat} {w W : World} {base : Nat} {ok : Nat → Prop} {v : Value} {xs : List α} (h : Kd.V d e w base ok v xs) (i : Kd.V d e w base ok v xs → Kd.V d e W base ok v xs := by (intro h_; (with_reducible repeat (first | apply Kd.V_alloc | apply Kd.V_drewN | apply Kd.V_drew)); exact h_)) : Kd.V d e W base ok v xs := i h
theorem qrQ {α : Type} {d : Kd α} {e : Nat} {w W : World} {base : Nat} {ok : Nat → Prop} {v : Value} {xs : List α} (h : Kd.Q d e w base ok v xs) (i : Kd.Q d e w base ok v xs → Kd.Q d e W base ok v xs := by (intro h_; (with_reducible repeat (first | apply Kd.Q_alloc | apply Kd.Q_drewN | apply Kd.Q_drew)); exact h_)) : Kd.Q d e W base ok v xs := i h
theorem qR1 {α : Type} {d : Kd α} {e : Nat} {w : World} {base : Nat} {ok : Nat → Prop} {v : Value} {xs : List α} {g t : Nat} {cells : Array Value} {j0 : Nat} {u0 : Value} (h : Kd.R d e w base ok v xs) (hb : w.heap[g]? = some (.cells cells t (0, 0))) (ht : ∀ q, q ∈ e :: d.E → q ≠ t := by decide) : Kd.R d e (w.setCell ⟨g, j0, none⟩ u0) base ok v xs := Kd.R_mono (Kd.R_far (p := ⟨g, j0, none⟩) (Kd.R_types h hb ht) (fun _ hk => hk.2) u0) (fun _ hk => hk.1)
theorem qR2 {α : Type} {d : Kd α} {e : Nat} {w : World} {base : Nat} {ok : Nat → Prop} {v : Value} {xs : List α} {g t : Nat} {cells : Array Value} {j0 j1 : Nat} {u0 u1 : Value} (h : Kd.R d e w base ok v xs) (hb : w.heap[g]? = some (.cells cells t (0, 0))) (ht : ∀ q, q ∈ e :: d.E → q ≠ t := by decide) : Kd.R d e ((w.setCell ⟨g, j0, none⟩ u0).setCell ⟨g, j1, none⟩ u1) base ok v xs := Kd.R_mono (Kd.R_far (p := ⟨g, j1, none⟩) (Kd.R_far (p := ⟨g, j0, none⟩) (Kd.R_types h hb ht) (fun _ hk => hk.2) u0) (fun _ hk => hk.2) u1) (fun _ hk => hk.1)
theorem qR3 {α : Type} {d : Kd α} {e : Nat} {w : World} {base : Nat} {ok : Nat → Prop} {v : Value} {xs : List α} {g t : Nat} {cells : Array Value} {j0 j1 j2 : Nat} {u0 u1 u2 : Value} (h : Kd.R d e w base ok v xs) (hb : w.heap[g]? = some (.cells cells t (0, 0))) (ht : ∀ q, q ∈ e :: d.E → q ≠ t := by decide) : Kd.R d e (((w.setCell ⟨g, j0, none⟩ u0).setCell ⟨g, j1, none⟩ u1).setCell ⟨g, j2, none⟩ u2) base ok v xs := Kd.R_mono (Kd.R_far (p := ⟨g, j2, none⟩) (Kd.R_far (p := ⟨g, j1, none⟩) (Kd.R_far (p := ⟨g, j0, none⟩) (Kd.R_types h hb ht) (fun _ hk => hk.2) u0) (fun _ hk => hk.2) u1) (fun _ hk => hk.2) u2) (fun _ hk => hk.1)
theorem qS1 {α : Type} {d : Kd α} {e : Nat} {w : World} {base : Nat} {ok : Nat → Prop} {v : Value} {xs : List α} {g t : Nat} {cells : Array Value} {j0 : Nat} {u0 : Value} (h : Kd.S d e w base ok v xs) (hb : w.heap[g]? = some (.cells cells t (0, 0))) (ht : ∀ q, q ∈ e :: d.E → q ≠ t := by decide) : Kd.S d e (w.setCell ⟨g, j0, none⟩ u0) base ok v xs := Kd.S_mono (Kd.S_far (p := ⟨g, j0, none⟩) (Kd.S_types h hb ht) (fun _ hk => hk.2) u0) (fun _ hk => hk.1)
theorem qS2 {α : Type} {d : Kd α} {e : Nat} {w : World} {base : Nat} {ok : Nat → Prop} {v : Value} {xs : List α} {g t : Nat} {cells : Array Value} {j0 j1 : Nat} {u0 u1 : Value} (h : Kd.S d e w base ok v xs) (hb : w.heap[g]? = some (.cells cells t (0, 0))) (ht : ∀ q, q ∈ e :: d.E → q ≠ t := by decide) : Kd.S d e ((w.setCell ⟨g, j0, none⟩ u0).setCell ⟨g, j1, none⟩ u1) base ok v xs := Kd.S_mono (Kd.S_far (p := ⟨g, j1, none⟩) (Kd.S_far (p := ⟨g, j0, none⟩) (Kd.S_types h hb ht) (fun _ hk => hk.2) u0) (fun _ hk => hk.2) u1) (fun _ hk => hk.1)
theorem qS3 {α : Type} {d : Kd α} {e : Nat} {w : World} {base : Nat} {ok : Nat → Prop} {v : Value} {xs : List α} {g t : Nat} {cells : Array Value} {j0 j1 j2 : Nat} {u0 u1 u2 : Value} (h : Kd.S d e w base ok v xs) (hb : w.heap[g]? = some (.cells cells t (0, 0))) (ht : ∀ q, q ∈ e :: d.E → q ≠ t := by decide) : Kd.S d e (((w.setCell ⟨g, j0, none⟩ u0).setCell ⟨g, j1, none⟩ u1).setCell ⟨g, j2, none⟩ u2) base ok v xs := Kd.S_mono (Kd.S_far (p := ⟨g, j2, none⟩) (Kd.S_far (p := ⟨g, j1, none⟩) (Kd.S_far (p := ⟨g, j0, none⟩) (Kd.S_types h hb ht) (fun _ hk => hk.2) u0) (fun _ hk => hk.2) u1) (fun _ hk => hk.2) u2) (fun _ hk => hk.1)
theorem qQ1 {α : Type} {d : Kd α} {e : Nat} {w : World} {base : Nat} {ok : Nat → Prop} {v : Value} {xs : List α} {g t : Nat} {cells : Array Value} {j0 : Nat} {u0 : Value} (h : Kd.Q d e w base ok v xs) (hb : w.heap[g]? = some (.cells cells t (0, 0))) (ht : ∀ q, q ∈ e :: d.E → q ≠ t := by decide) : Kd.Q d e (w.setCell ⟨g, j0, none⟩ u0) base ok v xs := Kd.Q_mono (Kd.Q_far (p := ⟨g, j0, none⟩) (Kd.Q_types h hb ht) (fun _ hk => hk.2) u0) (fun _ hk => hk.1)
theorem qQ2 {α : Type} {d : Kd α} {e : Nat} {w : World} {base : Nat} {ok : Nat → Prop} {v : Value} {xs : List α} {g t : Nat} {cells : Array Value} {j0 j1 : Nat} {u0 u1 : Value} (h : Kd.Q d e w base ok v xs) (hb : w.heap[g]? = some (.cells cells t (0, 0))) (ht : ∀ q, q ∈ e :: d.E → q ≠ t := by decide) : Kd.Q d e ((w.setCell ⟨g, j0, none⟩ u0).setCell ⟨g, j1, none⟩ u1) base ok v xs := Kd.Q_mono (Kd.Q_far (p := ⟨g, j1, none⟩) (Kd.Q_far (p := ⟨g, j0, none⟩) (Kd.Q_types h hb ht) (fun _ hk => hk.2) u0) (fun _ hk => hk.2) u1) (fun _ hk => hk.1)
theorem qQ3 {α : Type} {d : Kd α} {e : Nat} {w : World} {base : Nat} {ok : Nat → Prop} {v : Value} {xs : List α} {g t : Nat} {cells : Array Value} {j0 j1 j2 : Nat} {u0 u1 u2 : Value} (h : Kd.Q d e w base ok v xs) (hb : w.heap[g]? = some (.cells cells t (0, 0))) (ht : ∀ q, q ∈ e :: d.E → q ≠ t := by decide) : Kd.Q d e (((w.setCell ⟨g, j0, none⟩ u0).setCell ⟨g, j1, none⟩ u1).setCell ⟨g, j2, none⟩ u2) base ok v xs := Kd.Q_mono (Kd.Q_far (p := ⟨g, j2, none⟩) (Kd.Q_far (p := ⟨g, j1, none⟩) (Kd.Q_far (p := ⟨g, j0, none⟩) (Kd.Q_types h hb ht) (fun _ hk => hk.2) u0) (fun _ hk => hk.2) u1) (fun _ hk => hk.2) u2) (fun _ hk => hk.1)
theorem qk {w W : World} {g : Nat} {o : Obj} (h : w.heap[g]? = some o) (i : w.heap[g]? = some o → W.heap[g]? = some o := by (intro h_; (with_reducible repeat (first | refine qkN ?_ _ | refine qkD ?_ | refine qkA ?_ _)); exact h_)) : W.heap[g]? = some o := i h
theorem qLt {W : World} {g g2 : Nat} {o : Obj} (hg : g2 = W.heap.size) (h : W.heap[g]? = some o) : g ≠ g2 := by rw [hg]; exact Nat.ne_of_lt (blk_lt h)
theorem qGt {W : World} {g g2 : Nat} {o : Obj} (hg : g2 = W.heap.size) (h : W.heap[g]? = some o) : g2 ≠ g := by rw [hg]; exact Nat.ne_of_gt (blk_lt h)
theorem qH {B : Nat} {w W W' : World} (h : Below B w W) (i : Below B w W → Below B w W' := by (intro h_; repeat (first | (with_reducible first | exact h_ | apply qbA | apply qbN | apply qbD | refine qbS ?_ (Aside0.out qa67)) | exact h_))) : Below B w W' := i h
theorem qkC {α : Type} {d : Kd α} {w W : World} {A : Option Addr} {n : Nat} {xs : List α} (h : Kd.C d w A n xs) (i : Kd.C d w A n xs → Kd.C d W A n xs := by (intro h_; repeat (first | exact h_ | with_reducible first | refine Kd.C_alloc ?_ _ | refine Kd.C_drewN ?_ _ | refine Kd.C_drew ?_))) : Kd.C d W A n xs := i h
theorem qa0 {P : Prop} (h : P := by with_reducible repeat (first | refine qbN ?_ _ | refine qbD ?_ | refine qbA ?_ _ | exact Below.refl _ _)) : P := h
theorem qa1 {P : Prop} (h : P := by first | (with_reducible assumption) | assumption) : P := h
theorem qa2 {P : Prop} (h : P := by first | rfl | (simp [errW_none, errW_some] <;> rfl) | (simp [*, errW_none, errW_some] <;> rfl)) : P := h
theorem qa3 {P : Prop} (h : P := by rw [hg]; exact (below_size (below_step HB.out hx_))) : P := h
theorem qa4 {P : Prop} (h : P := by repeat (first | (with_reducible first | exact HK.out | apply KeepBut.set_ | apply keep_drewN | apply keep_drew | apply keep_alloc | refine keep_far ?_ GW101.out _ | refine keep_far ?_ GW106.out _) | exact HK.out)) : P := h
theorem qa5 {P : Prop} (h : P := by repeat (first | (with_reducible first | exact HI0.out | apply IsS128.alloc | apply IsS128.drewN | apply IsS128.drew | apply IsS128.set_1 | apply IsS128.set_2 | refine IsS128.far ?_ NB0_101.out _ | refine IsS128.far ?_ NB0_106.out _) | exact HI0.out)) : P := h
theorem qa6 {P : Prop} (h : P := by first | rfl | (simp; done) | (simp [*]; done)) : P := h
theorem qa7 {P : Prop} (h : P := by repeat (first | (with_reducible first | exact HI0.out | apply IsS128.alloc | apply IsS128.drewN | apply IsS128.drew | apply IsS128.set_1 | apply IsS128.set_2) | exact HI0.out)) : P := h
theorem qa8 {P : Prop} (h : P := by repeat (first | (with_reducible first | exact HK.out | apply KeepBut.set_ | apply keep_drewN | apply keep_drew | apply keep_alloc) | exact HK.out)) : P := h
theorem qa9 {P : Prop} (h : P := by repeat (first | (with_reducible first | exact HK.out | apply KeepBut.set_ | apply keep_drewN | apply keep_drew | apply keep_alloc | refine keep_far ?_ GW101.out _ | refine keep_far ?_ GW102.out _ | refine keep_far ?_ GW112.out _) | exact HK.out)) : P := h
theorem qa10 {P : Prop} (h : P := by repeat (first | (with_reducible first | exact HI0.out | apply IsS128.alloc | apply IsS128.drewN | apply IsS128.drew | apply IsS128.set_1 | apply IsS128.set_2 | refine IsS128.far ?_ NB0_101.out _ | refine IsS128.far ?_ NB0_102.out _ | refine IsS128.far ?_ NB0_112.out _) | exact HI0.out)) : P := h
theorem qa11 {P : Prop} (h : P := by repeat (first | (with_reducible first | exact HB.out | apply qbA | apply qbN | apply qbD | refine qbS ?_ (IsS128.ge HI0.out)) | exact HB.out)) : P := h
theorem qa12 {P : Prop} (h : P := by repeat (first | (with_reducible first | exact HB.out | apply qbA | apply qbN | apply qbD | refine qbS ?_ (IsS128.ge HI0.out) | refine qbS ?_ GE101.out | refine qbS ?_ GE106.out) | exact HB.out)) : P := h
theorem qa13 {P : Prop} (h : P := by omega) : P := h
theorem qa14 {P : Prop} (h : P := by repeat (first | (with_reducible first | exact HB.out | apply qbA | apply qbN | apply qbD | refine qbS ?_ (IsS128.ge HI0.out) | refine qbS ?_ GE101.out | refine qbS ?_ GE102.out | refine qbS ?_ GE112.out) | exact HB.out)) : P := h
theorem qa15 {P : Prop} (h : P := by repeat (first | (with_reducible exact HR108_0.out) | (with_reducible refine Kd.C_alloc ?_ _) | (with_reducible refine Kd.C_drewN ?_ _) | (with_reducible refine Kd.C_drew ?_) | exact HR108_0.out)) : P := h
theorem qa16 {P : Prop} (h : P := by repeat (first | (with_reducible first | exact HK.out | apply KeepBut.set_ | apply keep_drewN | apply keep_drew | apply keep_alloc | refine keep_far ?_ GW101.out _) | exact HK.out)) : P := h
theorem qa17 {P : Prop} (h : P := by repeat (first | (with_reducible first | exact HI0.out | apply IsS128.alloc | apply IsS128.drewN | apply IsS128.drew | apply IsS128.set_1 | apply IsS128.set_2 | refine IsS128.far ?_ NB0_101.out _) | exact HI0.out)) : P := h
theorem qa18 {P : Prop} (h : P := by kernel_rfl) : P := h
theorem qa19 {P : Prop} (h : P := by repeat (first | (with_reducible first | exact HK.out | apply KeepBut.set_ | apply keep_drewN | apply keep_drew | apply keep_alloc | refine keep_far ?_ GW101.out _ | refine keep_far ?_ GW102.out _ | refine keep_far ?_ GW112.out _ | refine keep_far ?_ GW130.out _) | exact HK.out)) : P := h
theorem qa20 {P : Prop} (h : P := by first | (rw [add_block]; exact hn107_0) | (show (Addr.add _ _).block ≠ _; rw [add_block]; exact hn107_0) | exact hn107_0) : P := h
theorem qa21 {P : Prop} (h : P := by first | (rw [add_block]; exact hn107_1) | (show (Addr.add _ _).block ≠ _; rw [add_block]; exact hn107_1) | exact hn107_1) : P := h
theorem qa22 {P : Prop} (h : P := by exact (Reps.c2 (show Kd.M k43 _ _ _ (⟨(wrap64 (t106 + 1)), (rd_T58 l1 x5_1).f1⟩ : S43) [.int .i64 (wrap64 (t106 + 1)), .int .i64 ((rd_T58 l1 x5_1).f1)] from (k43_mkM _ _ _ (⟨(wrap64 (t106 + 1)), (rd_T58 l1 x5_1).f1⟩ : S43) )) (Reps.none _ _))) : P := h
theorem qa23 {P : Prop} (h : P := by repeat (first | exact Drawn0.refl _ | apply Drawn0.step)) : P := h
theorem qa24 {P : Prop} (h : P := by repeat (first | (with_reducible first | exact HK.out | apply Kept.alloc | apply Kept.drewN | apply Kept.drew | refine Kept.setCell ?_ (.inr GW101.out) _ | refine Kept.setCell ?_ (.inr GW102.out) _ | refine Kept.setCell ?_ (.inr GW103.out) _) | exact HK.out)) : P := h
theorem qa25 {P : Prop} (h : P := by rw [hg]; exact (keep_size (w := w) (g := g) (row := none) (by repeat (first | (with_reducible first | exact HK.out | apply KeepBut.set_ | apply keep_drewN | apply keep_drew | apply keep_alloc | refine keep_far ?_ GW101.out _ | refine keep_far ?_ GW102.out _ | refine keep_far ?_ GW112.out _) | exact HK.out)))) : P := h
theorem qa26 {P : Prop} (h : P := by repeat (first | exact (by repeat (first | (with_reducible exact HR108_0.out) | (with_reducible refine Kd.C_alloc ?_ _) | (with_reducible refine Kd.C_drewN ?_ _) | (with_reducible refine Kd.C_drew ?_) | exact HR108_0.out)) | with_reducible first | refine Kd.C_alloc ?_ _ | refine Kd.C_drewN ?_ _ | refine Kd.C_drew ?_)) : P := h
theorem qa27 {P : Prop} (h : P := by simp only [Act.put, qzA, qzB, qzC, i64_w, i32_w, hji3]; rfl) : P := h
theorem qa28 {P : Prop} (h : P := by repeat (first | (with_reducible first | exact HB.out | apply qbA | apply qbN | apply qbD | refine qbS ?_ (IsS128.ge HI0.out) | refine qbS ?_ GE101.out) | exact HB.out)) : P := h
theorem qa29 {P : Prop} (h : P := by rw [hg]; exact (keep_size (w := w) (g := g) (row := none) (by repeat (first | (with_reducible first | exact HK.out | apply KeepBut.set_ | apply keep_drewN | apply keep_drew | apply keep_alloc) | exact HK.out)))) : P := h
theorem qa30 {P : Prop} (h : P := by decide) : P := h
theorem qa31 {P : Prop} (h : P := by first | exact Kd.R_nil _ _ _ _ _ | exact Kd.N_nil _ _ _ _ _ | exact Kd.V_nil _ _ _ _ _ | exact Kd.Q_nil _ _ _ _ _ | exact Kd.S_nil _ _ _ _ _) : P := h
theorem qa32 {P : Prop} (h : P := by rw [hg]; exact (keep_size (w := w) (g := g) (row := none) (by repeat (first | (with_reducible first | exact HK.out | apply KeepBut.set_ | apply keep_drewN | apply keep_drew | apply keep_alloc | refine keep_far ?_ GW101.out _ | refine keep_far ?_ GW106.out _) | exact HK.out)))) : P := h
theorem qa33 {P : Prop} (h : P := by repeat (first | (with_reducible first | exact HK.out | apply KeepBut.set_ | apply keep_drewN | apply keep_drew | apply keep_alloc | refine keep_far ?_ GW101.out _ | refine keep_far ?_ GW106.out _ | refine keep_far ?_ GW137.out _) | exact HK.out)) : P := h
theorem qa34 {P : Prop} (h : P := by (with_reducible repeat (first | refine qkN ?_ _ | refine qkD ?_ | refine qkA ?_ _)); refine rt.far ?_ NB117_106.out _; (with_reducible repeat (first | refine qkN ?_ _ | refine qkD ?_ | refine qkA ?_ _)); refine rt.far ?_ NB117_105.out _; (with_reducible repeat (first | refine qkN ?_ _ | refine qkD ?_ | refine qkA ?_ _)); refine rt.far ?_ NB117_104.out _; (with_reducible repeat (first | refine qkN ?_ _ | refine qkD ?_ | refine qkA ?_ _)); refine rt.far ?_ NB117_104.out _; (with_reducible repeat (first | refine qkN ?_ _ | refine qkD ?_ | refine qkA ?_ _)); refine rt.far ?_ NB117_104.out _; (with_reducible repeat (first | refine qkN ?_ _ | refine qkD ?_ | refine qkA ?_ _)); exact BK117.out) : P := h
theorem qa35 {P : Prop} (h : P := by rw [← hq_]; exact (by repeat (first | (with_reducible first | exact HK.out | apply Kept.alloc | apply Kept.drewN | apply Kept.drew | refine Kept.setCell ?_ (.inr GW101.out) _ | refine Kept.setCell ?_ (.inr GW102.out) _ | refine Kept.setCell ?_ (.inr GW103.out) _) | exact HK.out))) : P := h
theorem qa36 {P : Prop} (h : P := by repeat (first | (with_reducible first | exact HI0.out | apply IsS128.alloc | apply IsS128.drewN | apply IsS128.drew | apply IsS128.set_1 | apply IsS128.set_2 | refine IsS128.far ?_ NB0_101.out _ | refine IsS128.far ?_ NB0_102.out _ | refine IsS128.far ?_ NB0_112.out _ | refine IsS128.far ?_ NB0_130.out _) | exact HI0.out)) : P := h
theorem qa37 {P : Prop} (h : P := by repeat (first | (with_reducible first | exact HK.out | apply KeepBut.set_ | apply keep_drewN | apply keep_drew | apply keep_alloc | refine keep_far ?_ GW101.out _ | refine keep_far ?_ GW102.out _) | exact HK.out)) : P := h
theorem qa38 {P : Prop} (h : P := by rw [hg]; exact (below_size (qH HB.out))) : P := h
theorem qa39 {P : Prop} (h : P := by have := qL _ _ hx107_0; first | rwa [add_block] at this | exact this) : P := h
theorem qa40 {P : Prop} (h : P := by first | (go_simp; done) | (go_simp; rfl)) : P := h
theorem qa41 {P : Prop} (h : P := by repeat (first | (with_reducible first | exact HI0.out | apply IsS128.alloc | apply IsS128.drewN | apply IsS128.drew | apply IsS128.set_1 | apply IsS128.set_2 | refine IsS128.far ?_ NB0_101.out _ | refine IsS128.far ?_ NB0_106.out _ | refine IsS128.far ?_ NB0_137.out _) | exact HI0.out)) : P := h
theorem qa42 {P : Prop} (h : P := by exact qkC (Kd.C_below HR0_0.out HB.out)) : P := h
theorem qa43 {P : Prop} (h : P := by intro w'; go_simp; with_reducible rfl) : P := h
theorem qa44 {P : Prop} (h : P := by repeat (first | (with_reducible first | exact HI0.out | apply IsS128.alloc | apply IsS128.drewN | apply IsS128.drew | apply IsS128.set_1 | apply IsS128.set_2 | refine IsS128.far ?_ NB0_101.out _ | refine IsS128.far ?_ NB0_102.out _) | exact HI0.out)) : P := h
theorem qa45 {P : Prop} (h : P := by rw [hg]; exact (keep_size (w := w) (g := g) (row := none) (by repeat (first | (with_reducible first | exact HK.out | apply KeepBut.set_ | apply keep_drewN | apply keep_drew | apply keep_alloc | refine keep_far ?_ GW101.out _) | exact HK.out)))) : P := h
theorem qa46 {P : Prop} (h : P := by exact fun W_ hk_ => HR1_0.out W_ (Kept.keep (by repeat (first | (with_reducible first | exact HK.out | apply KeepBut.set_ | apply keep_drewN | apply keep_drew | apply keep_alloc | refine keep_far ?_ GW101.out _ | refine keep_far ?_ GW102.out _ | refine keep_far ?_ GW112.out _ | refine keep_far ?_ GW130.out _) | exact HK.out)) hk_ (fun k_ hs_ => Or.elim hs_ (fun e_ => (fun e_ => Kd.R_base HO_113001.out k_ e_.symm) e_) (fun e_ => (fun e_ => Kd.R_base HO_113002.out k_ e_.symm) e_)))) : P := h
theorem qa47 {P : Prop} (h : P := by repeat (first | (with_reducible first | exact HB.out | apply qbA | apply qbN | apply qbD | refine qbS ?_ (IsS128.ge HI0.out) | refine qbS ?_ GE101.out | refine qbS ?_ GE102.out | refine qbS ?_ GE112.out | refine qbS ?_ GE130.out) | exact HB.out)) : P := h
theorem qa48 {P : Prop} (h : P := by first | exact HK.out.1 | exact (show Kept w _ (fun k_ => P1_1_ k_ ∨ P1_2_ k_) from by repeat (first | (with_reducible first | exact HK.out | apply Kept.alloc | apply Kept.drewN | apply Kept.drew | refine Kept.setCell ?_ (.inr GW101.out) _ | refine Kept.setCell ?_ (.inr GW102.out) _) | exact HK.out)).1) : P := h
theorem qa49 {P : Prop} (h : P := by repeat (first | (with_reducible first | exact HB.out | apply qbA | apply qbN | apply qbD | refine qbS ?_ (IsS128.ge HI0.out) | refine qbS ?_ GE101.out | refine qbS ?_ GE106.out | refine qbS ?_ GE137.out) | exact HB.out)) : P := h
theorem qa50 {P : Prop} (h : P := by exact (fun k_ hk => ⟨(.inr (Nat.le_trans (by first | exact HK.out.1 | exact (show Kept w _ (fun k_ => P1_1_ k_ ∨ P1_2_ k_) from by repeat (first | (with_reducible first | exact HK.out | apply Kept.alloc | apply Kept.drewN | apply Kept.drew | refine Kept.setCell ?_ (.inr GW101.out) _ | refine Kept.setCell ?_ (.inr GW102.out) _ | refine Kept.setCell ?_ (.inr GW103.out) _) | exact HK.out)).1) hk)), Kd.fresh' (Kd.R_lt (qrR HO1_1.out)) k_ hk⟩)) : P := h
theorem qa51 {P : Prop} (h : P := by simp) : P := h
theorem qa52 {P : Prop} (h : P := by first | exact HK.out.1 | exact (show Kept w _ (fun k_ => P1_1_ k_ ∨ P1_2_ k_) from by repeat (first | (with_reducible first | exact HK.out | apply Kept.alloc | apply Kept.drewN | apply Kept.drew | refine Kept.setCell ?_ (.inr GW101.out) _) | exact HK.out)).1) : P := h
theorem qa53 {P : Prop} (h : P := by repeat (first | (with_reducible first | exact HB.out | apply qbA | apply qbN | apply qbD | refine qbS ?_ (IsS128.ge HI0.out) | refine qbS ?_ GE101.out | refine qbS ?_ GE102.out) | exact HB.out)) : P := h
theorem qa54 {P : Prop} (h : P := by (try simp only [List.map_toArray, List.map_cons, List.map_nil]); first | done | (rw [show (l1_1.take (x5_2 : Int).toNat).length = x5_2.toNat from (by rw [List.length_take]; have h_ : (x5_2 : Int) ≤ (l1_1.length : Int) := qT (by first | (with_reducible assumption) | assumption); omega)] <;> rfl) | rfl | (simp only [List.length_drop, List.length_take]; rfl)) : P := h
theorem qa55 {P : Prop} (h : P := by exact (Reps.c2 (show Kd.M k43 _ _ _ (⟨(wrap64 (t106 + 1)), (rd_T58 l1 x32_1).f1⟩ : S43) [.int .i64 (wrap64 (t106 + 1)), .int .i64 ((rd_T58 l1 x32_1).f1)] from (k43_mkM _ _ _ (⟨(wrap64 (t106 + 1)), (rd_T58 l1 x32_1).f1⟩ : S43))) (Reps.none _ _))) : P := h
theorem qa56 {P : Prop} (h : P := by first | exact HK.out.1 | exact (show Kept w _ (fun k_ => P1_1_ k_ ∨ P1_2_ k_) from by repeat (first | (with_reducible first | exact HK.out | apply Kept.alloc | apply Kept.drewN | apply Kept.drew) | exact HK.out)).1) : P := h
theorem qa57 {P : Prop} (h : P := by repeat (first | (with_reducible first | exact HK.out | apply Kept.alloc | apply Kept.drewN | apply Kept.drew | refine Kept.setCell ?_ (.inr GW101.out) _ | refine Kept.setCell ?_ (.inr GW102.out) _) | exact HK.out)) : P := h
theorem qa58 {P : Prop} (h : P := by simp only [Act.put, qzA, qzB, qzC, i64_w, i32_w]; rfl) : P := h
theorem qa59 {P : Prop} (h : P := by repeat (first | (with_reducible exact HR110_0.out) | (with_reducible refine Kd.C_alloc ?_ _) | (with_reducible refine Kd.C_drewN ?_ _) | (with_reducible refine Kd.C_drew ?_) | exact HR110_0.out)) : P := h
theorem qa60 {P : Prop} (h : P := by exact Kd.C_kept_now HR0_0.out (by repeat (first | (with_reducible first | exact HK.out | apply Kept.alloc | apply Kept.drewN | apply Kept.drew | refine Kept.setCell ?_ (.inr GW101.out) _ | refine Kept.setCell ?_ (.inr GW102.out) _ | refine Kept.setCell ?_ (.inr GW103.out) _) | exact HK.out))) : P := h
theorem qa61 {P : Prop} (h : P := by rw [← hw_]; repeat (first | (with_reducible first | exact HI0.out | apply IsS128.alloc | apply IsS128.drewN | apply IsS128.drew | apply IsS128.set_1 | apply IsS128.set_2) | exact HI0.out)) : P := h
theorem qa62 {P : Prop} (h : P := by first | exact Kd.S_nil _ _ _ _ _ | exact Kd.N_nil _ _ _ _ _ | exact Kd.V_nil _ _ _ _ _ | exact Kd.Q_nil _ _ _ _ _ | exact Kd.R_nil _ _ _ _ _) : P := h
theorem qa63 {P : Prop} (h : P := by rw [hg]; exact (keep_size (w := w) (g := g) (row := none) (by repeat (first | (with_reducible first | exact HK.out | apply KeepBut.set_ | apply keep_drewN | apply keep_drew | apply keep_alloc | refine keep_far ?_ GW101.out _ | refine keep_far ?_ GW102.out _) | exact HK.out)))) : P := h
theorem qa64 {P : Prop} (h : P := by first | rfl | (simp [errW_none, errW_some] <;> rfl) | (simp only [← hji19]; first | rfl | (simp [errW_none, errW_some] <;> rfl)) | (simp [*, errW_none, errW_some] <;> rfl)) : P := h
theorem qa65 {P : Prop} (h : P := by repeat (first | (with_reducible first | exact HK.out | apply Kept.alloc | apply Kept.drewN | apply Kept.drew | refine Kept.setCell ?_ (.inr GW101.out) _) | exact HK.out)) : P := h
theorem qa66 {P : Prop} (h : P := by exact qkC (Kd.C_below HR1_2.out HB.out)) : P := h
theorem qa67 {P : Prop} (h : P := by assumption) : P := h
theorem qa68 {P : Prop} (h : P := by exact qkC (Kd.C_below HR1_1.out HB.out)) : P := h
theorem qa69 {P : Prop} (h : P := by rw [← hw_]; repeat (first | (with_reducible first | exact HK.out | apply KeepBut.set_ | apply keep_drewN | apply keep_drew | apply keep_alloc) | exact HK.out)) : P := h
theorem qa70 {P : Prop} (h : P := by rw [← hw_]; repeat (first | (with_reducible first | exact HB.out | apply qbA | apply qbN | apply qbD | refine qbS ?_ (IsS128.ge HI0.out)) | exact HB.out)) : P := h
theorem qa71 {P : Prop} (h : P := by exact (below_size (qH HB.out))) : P := h
theorem qa72 {P : Prop} (h : P := by have := HK1.out; omega) : P := h
theorem qa73 {P : Prop} (h : P := by first | exact q110 | exact qT (by first | (with_reducible assumption) | assumption) | (have e_ := (Kd.S_reads' HO_108000.out).1; omega)) : P := h
theorem qa74 {P : Prop} (h : P := by repeat (first | exact (Kd.C_below HR0.out HB.out) | with_reducible first | refine Kd.C_alloc ?_ _ | refine Kd.C_drewN ?_ _ | refine Kd.C_drew ?_)) : P := h
theorem qa75 {P : Prop} (h : P := by repeat (first | exact (Kd.V_reads' HO114.out).2.2 | with_reducible first | refine Kd.C_alloc ?_ _ | refine Kd.C_drewN ?_ _ | refine Kd.C_drew ?_)) : P := h
theorem qa76 {P : Prop} (h : P := by rw [← hq_]; exact (qk BK101.out)) : P := h
theorem qa77 {P : Prop} (h : P := by rw [← hq_]; exact (qk BK102.out)) : P := h
theorem qa78 {P : Prop} (h : P := by repeat (first | (with_reducible first | exact HK.out | apply Kept.alloc | apply Kept.drewN | apply Kept.drew) | exact HK.out)) : P := h
theorem qa79 {P : Prop} (h : P := by first | omega | exact Nat.le_refl _) : P := h
theorem qa80 {P : Prop} (h : P := by rw [← hq_]; exact (qH HB.out)) : P := h
theorem qa81 {P : Prop} (h : P := by first | rfl | (simp [errW_none, errW_some] <;> rfl) | (simp only [← hji3]; first | rfl | (simp [errW_none, errW_some] <;> rfl)) | (simp [*, errW_none, errW_some] <;> rfl)) : P := h
theorem qa82 {P : Prop} (h : P := by first | rfl | (simp [errW_none, errW_some] <;> rfl) | (simp only [← hji7]; first | rfl | (simp [errW_none, errW_some] <;> rfl)) | (simp [*, errW_none, errW_some] <;> rfl)) : P := h
theorem qa83 {P : Prop} (h : P := by have := HJ1.out; have := HK2.out; have := HK3.out; omega) : P := h
theorem qa84 {P : Prop} (h : P := by rw [← hw_]; exact qF (qF BK101.out NB101_106.out) NB101_106.out) : P := h
theorem qa85 {P : Prop} (h : P := by first | exact q108 | exact qT (by assumption) | (have e_ := (Kd.N_reads' HO_102000.out).1; omega)) : P := h
theorem qa86 {P : Prop} (h : P := by exact (fun k_ hk => ⟨(Nat.le_trans (below_size (qH HB.out)) hk), Kd.fresh' (Kd.R_lt (qrR HO125.out)) k_ hk⟩)) : P := h
theorem qa87 {P : Prop} (h : P := by have h_ := Kd.N_away HO_102000.out (fun _ hk => hk.1.2.2.1); intro e_; exact h_ (by rw [e_]; rfl)) : P := h
theorem qa88 {P : Prop} (h : P := by have h_ := Kd.N_away HO_102000.out (fun _ hk => hk.1.2.2.2); intro e_; exact h_ (by rw [e_]; rfl)) : P := h
theorem qa89 {P : Prop} (h : P := by exact (fun k_ hk => ⟨(Nat.le_trans (below_size (qH HB.out)) hk), Kd.fresh' (Kd.R_lt (qrR HO140.out)) k_ hk⟩)) : P := h
theorem qa90 {P : Prop} (h : P := by exact (fun k_ hk => ⟨(Nat.le_trans (below_size (qH HB.out)) hk), Kd.fresh' (Kd.R_lt (qrR HO155.out)) k_ hk⟩)) : P := h
theorem qa91 {P : Prop} (h : P := by rw [hg]; exact (below_size (by repeat (first | (with_reducible first | exact HBW.out | apply qbA | apply qbN | apply qbD) | exact HBW.out)))) : P := h
theorem qa92 {P : Prop} (h : P := by rw [← hq_]; exact (qk BK103.out)) : P := h
theorem qa93 {P : Prop} (h : P := by exact qkC (Kd.C_below HR1.out HB.out)) : P := h
theorem qa94 {P : Prop} (h : P := by rintro w' ⟨s0, s1⟩; go_simp; with_reducible rfl) : P := h
theorem qa95 {P : Prop} (h : P := by rw [← hw_]; exact qH HB.out) : P := h
theorem qa96 {P : Prop} (h : P := by exact (qrS (Kd.S_mono HO_107000.out (fun k_ hk => ⟨trivial, fun e_ => hk.2 e_⟩)))) : P := h
theorem qa97 {P : Prop} (h : P := by rw [hw]; exact (qF (qF BK101.out NB101_109.out) NB101_109.out)) : P := h
theorem qa98 {P : Prop} (h : P := by rw [hw]; exact (qF (qF BK102.out NB102_109.out) NB102_109.out)) : P := h
theorem qa99 {P : Prop} (h : P := by rw [hw]; exact (qF (qF BK107.out NB107_109.out) NB107_109.out)) : P := h
theorem qa100 {P : Prop} (h : P := by rintro w' ⟨s0, s1, s2, s3⟩; go_simp; with_reducible rfl) : P := h
theorem qa101 {P : Prop} (h : P := by exact (Reps.none _ _)) : P := h
theorem qa102 {P : Prop} (h : P := by exact (fun _ _ => trivial)) : P := h
theorem qa103 {P : Prop} (h : P := by exact (Kd.S_reads' HO103.out).2.1) : P := h
theorem qa104 {P : Prop} (h : P := by rw [← hq_]; exact (qrR (Kd.R_mono HO112.out (fun _ hk => ⟨hk.1.1.2, ⟨hk.1.2, hk.2⟩⟩)))) : P := h
theorem qa105 {P : Prop} (h : P := by rw [← hw_]; exact qU (qU BK106.out)) : P := h
theorem qa106 {P : Prop} (h : P := by unfold SrcOK at h2 ⊢; omega) : P := h
theorem qa107 {P : Prop} (h : P := by exact (fun k_ hk => (Nat.le_trans (below_size (qH HB.out)) hk))) : P := h
theorem qa108 {P : Prop} (h : P := by rw [← hq_]; exact (qrR HO1_1.out)) : P := h
theorem qa109 {P : Prop} (h : P := by rw [← hq_]; exact (qrR HO1_2.out)) : P := h
theorem qa110 {P : Prop} (h : P := by injection e104) : P := h
theorem qa111 {P : Prop} (h : P := by rw [hw]; exact (qrS (qS2 HO_108000.out BK109.out))) : P := h
theorem qa112 {P : Prop} (h : P := by exact (fun k_ hk => .inr ⟨trivial, Nat.le_trans HSZ_.out hk⟩)) : P := h
theorem qa113 {P : Prop} (h : P := by exact (qH HB.out)) : P := h
theorem qa114 {P : Prop} (h : P := by have h_ := HJ.out; first | omega | (rw [i64_w]; unfold wrap64; omega)) : P := h
theorem qa115 {P : Prop} (h : P := by exact Kd.R_lower (Kd.R_tight rfl HO_113001.out) HL.out) : P := h
theorem qa116 {P : Prop} (h : P := by exact Kd.R_lower (Kd.R_tight rfl HO_113002.out) HL.out) : P := h
theorem qa117 {P : Prop} (h : P := by injection e107) : P := h
theorem qa118 {P : Prop} (h : P := by rintro w' ⟨s0, s1, s2⟩; go_simp; with_reducible rfl) : P := h
theorem qa119 {P : Prop} (h : P := by rw [← hq_]; exact (qk BK104.out)) : P := h
theorem qa120 {P : Prop} (h : P := by rw [← hq_]; exact (qk BK105.out)) : P := h
theorem qa121 {P : Prop} (h : P := by rw [← hq_]; exact (qk BK106.out)) : P := h
theorem qa122 {P : Prop} (h : P := by simp; omega) : P := h
theorem qa123 {P : Prop} (h : P := by have := LM.out; simp only [List.length_nil]; omega) : P := h
theorem qa124 {P : Prop} (h : P := by injection e103) : P := h
theorem qa125 {P : Prop} (h : P := by exact qkC ((Kd.S_reads' HO103.out).2.2)) : P := h
theorem qa126 {P : Prop} (h : P := by have := HK1.out; have := HK2.out; omega) : P := h
theorem qa127 {P : Prop} (h : P := by cases h) : P := h
theorem qa128 {P : Prop} (h : P := by rw [hw]; exact (qU (qU BK109.out))) : P := h
theorem qPu {P : Program} {ops : Array Oper} {Q : Exit → Act → World → Prop} {md : Region.Mode} {S : World → Prop} {ds : List Nat} (i N : Nat) {oi : Oper} {v : Value} {fuel : Nat} {l : Array Bool} {a : Act} {w : World} (l' : Array Bool) (hi : ops[i]? = some oi) (hN : oi.dst = some N) (hc : Go.Proofs.YtfiboooflebdpaaW.PrintLast.anyB md ops l l' i = true) (hy : ∀ w, (execOp a.eval oi).run P w = .ok (.value v) w) {a' : Act} (ha : a.put (some N) v = a') (h : Go.Proofs.YtfiboooflebdpaaW.PrintLast.wpAnyLast P md ops Q S ds fuel l' a' w) (hQ : ∀ c a w, Q (.panic c) (a.put oi.dst v) w → Q (.panic c) a w := by exact fun _ _ _ h => h) (hw : Region.wanted oi (yielded ops a.tmps) = true := by rfl) : Go.Proofs.YtfiboooflebdpaaW.PrintLast.wpAnyLast P md ops Q S ds (fuel + 1) l a w := Go.Proofs.YtfiboooflebdpaaW.PrintLast.pure_ l' hi hN hc hQ (.inl ⟨hw, hy⟩) ha h
theorem qTk {P : Program} {ops : Array Oper} {Q : Exit → Act → World → Prop} {md : Region.Mode} {S : World → Prop} {ds : List Nat} (i N : Nat) {oi : Oper} {v : Value} {fuel : Nat} {l : Array Bool} {a : Act} {w : World} (l' : Array Bool) (hi : ops[i]? = some oi) (hN : oi.dst = some N) (hc : Go.Proofs.YtfiboooflebdpaaW.PrintLast.takeB md ops ds l l' i = true) (hy : ∀ w, S w → (execOp a.eval oi).run P w = .ok (.value v) w) (hS : S w) {a' : Act} (ha : a.put (some N) v = a') (h : Go.Proofs.YtfiboooflebdpaaW.PrintLast.wpAnyLast P md ops Q S ds fuel l' a' w) (hQ : ∀ c a w, Q (.panic c) (a.put oi.dst v) w → Q (.panic c) a w := by exact fun _ _ _ h => h) (hw : Region.wanted oi (yielded ops a.tmps) = true := by rfl) : Go.Proofs.YtfiboooflebdpaaW.PrintLast.wpAnyLast P md ops Q S ds (fuel + 1) l a w := Go.Proofs.YtfiboooflebdpaaW.PrintLast.take_ l' hi hN hc hQ (.inl ⟨hw, hy⟩) hS ha h
theorem qX {P : Program} {ops : Array Oper} {Q : Exit → Act → World → Prop} {o : Oper} {rest : List Oper} {a : Act} {W : World} (N : Tmp) (cs : Array Value) (t : TypeId) (h : ∀ g, g = W.heap.size → ∀ w1, w1.heap[g]? = some (.cells cs t (0, 0)) → Below W.heap.size W w1 → wpList P ops Q rest (a.put o.dst (.pointer (some ⟨g, 0, none⟩))) w1) (hd : o.dst = some N := by rfl) (hgd : o.guard = none := by rfl) (hrun : (execOp a.eval o).run P W = .ok (.value (.pointer (some ⟨W.heap.size, 0, none⟩))) (W.alloc (.cells cs t (0, 0))) := by first | (go_simp; done) | (go_simp; rfl)) : wpList P ops Q (o :: rest) a W := box_event hgd hd hrun h
theorem qc0 {w : World} {g : Nat} {t : TypeId} {x0 : Value} {l : List Value} (h : w.heap[g]? = some (.cells (x0 :: l).toArray t (0, 0))) : w.cell? ⟨g, 0, none⟩ = some x0 := (blk_cell h 0).trans (by simp)
theorem qc1 {w : World} {g : Nat} {t : TypeId} {x0 x1 : Value} {l : List Value} (h : w.heap[g]? = some (.cells (x0 :: x1 :: l).toArray t (0, 0))) : w.cell? ⟨g, 1, none⟩ = some x1 := (blk_cell h 1).trans (by simp)
theorem qc2 {w : World} {g : Nat} {t : TypeId} {x0 x1 x2 : Value} {l : List Value} (h : w.heap[g]? = some (.cells (x0 :: x1 :: x2 :: l).toArray t (0, 0))) : w.cell? ⟨g, 2, none⟩ = some x2 := (blk_cell h 2).trans (by simp)
theorem qc3 {w : World} {g : Nat} {t : TypeId} {x0 x1 x2 x3 : Value} {l : List Value} (h : w.heap[g]? = some (.cells (x0 :: x1 :: x2 :: x3 :: l).toArray t (0, 0))) : w.cell? ⟨g, 3, none⟩ = some x3 := (blk_cell h 3).trans (by simp)
theorem qc4 {w : World} {g : Nat} {t : TypeId} {x0 x1 x2 x3 x4 : Value} {l : List Value} (h : w.heap[g]? = some (.cells (x0 :: x1 :: x2 :: x3 :: x4 :: l).toArray t (0, 0))) : w.cell? ⟨g, 4, none⟩ = some x4 := (blk_cell h 4).trans (by simp)
theorem qc5 {w : World} {g : Nat} {t : TypeId} {x0 x1 x2 x3 x4 x5 : Value} {l : List Value} (h : w.heap[g]? = some (.cells (x0 :: x1 :: x2 :: x3 :: x4 :: x5 :: l).toArray t (0, 0))) : w.cell? ⟨g, 5, none⟩ = some x5 := (blk_cell h 5).trans (by simp)
theorem qb1 {w : World} {g : Nat} {t : TypeId} {x0 : Value} (h : w.heap[g]? = some (.cells #[x0] t (0, 0))) : w.cell? ⟨g, 0, none⟩ = some x0 ∧ w.frozen? ⟨g, 0, none⟩ = false := ⟨qc0 h, blk_frozen h 0⟩
theorem qb2 {w : World} {g : Nat} {t : TypeId} {x0 x1 : Value} (h : w.heap[g]? = some (.cells #[x0, x1] t (0, 0))) : w.cell? ⟨g, 0, none⟩ = some x0 ∧ w.cell? ⟨g, 1, none⟩ = some x1 ∧ w.frozen? ⟨g, 0, none⟩ = false ∧ w.frozen? ⟨g, 1, none⟩ = false := ⟨qc0 h, qc1 h, blk_frozen h 0, blk_frozen h 1⟩
theorem qb3 {w : World} {g : Nat} {t : TypeId} {x0 x1 x2 : Value} (h : w.heap[g]? = some (.cells #[x0, x1, x2] t (0, 0))) : w.cell? ⟨g, 0, none⟩ = some x0 ∧ w.cell? ⟨g, 1, none⟩ = some x1 ∧ w.cell? ⟨g, 2, none⟩ = some x2 ∧ w.frozen? ⟨g, 0, none⟩ = false ∧ w.frozen? ⟨g, 1, none⟩ = false ∧ w.frozen? ⟨g, 2, none⟩ = false := ⟨qc0 h, qc1 h, qc2 h, blk_frozen h 0, blk_frozen h 1, blk_frozen h 2⟩
theorem qb4 {w : World} {g : Nat} {t : TypeId} {x0 x1 x2 x3 : Value} (h : w.heap[g]? = some (.cells #[x0, x1, x2, x3] t (0, 0))) : w.cell? ⟨g, 0, none⟩ = some x0 ∧ w.cell? ⟨g, 1, none⟩ = some x1 ∧ w.cell? ⟨g, 2, none⟩ = some x2 ∧ w.cell? ⟨g, 3, none⟩ = some x3 ∧ w.frozen? ⟨g, 0, none⟩ = false ∧ w.frozen? ⟨g, 1, none⟩ = false ∧ w.frozen? ⟨g, 2, none⟩ = false ∧ w.frozen? ⟨g, 3, none⟩ = false := ⟨qc0 h, qc1 h, qc2 h, qc3 h, blk_frozen h 0, blk_frozen h 1, blk_frozen h 2, blk_frozen h 3⟩
theorem qb5 {w : World} {g : Nat} {t : TypeId} {x0 x1 x2 x3 x4 : Value} (h : w.heap[g]? = some (.cells #[x0, x1, x2, x3, x4] t (0, 0))) : w.cell? ⟨g, 0, none⟩ = some x0 ∧ w.cell? ⟨g, 1, none⟩ = some x1 ∧ w.cell? ⟨g, 2, none⟩ = some x2 ∧ w.cell? ⟨g, 3, none⟩ = some x3 ∧ w.cell? ⟨g, 4, none⟩ = some x4 ∧ w.frozen? ⟨g, 0, none⟩ = false ∧ w.frozen? ⟨g, 1, none⟩ = false ∧ w.frozen? ⟨g, 2, none⟩ = false ∧ w.frozen? ⟨g, 3, none⟩ = false ∧ w.frozen? ⟨g, 4, none⟩ = false := ⟨qc0 h, qc1 h, qc2 h, qc3 h, qc4 h, blk_frozen h 0, blk_frozen h 1, blk_frozen h 2, blk_frozen h 3, blk_frozen h 4⟩
theorem qfn {α : Type} {a b : α} : (if false = true then a else b) = b := if_neg (by decide)
theorem qsb {α β : Type} {v y : α} {f : α → Option β} {r : Option β} (hy : y = v) (H : (some v).bind f = r) : f y = r := by subst hy; exact H
theorem qHy {p q : Prop} {α : Type} {y v : α} (hy : y = v) (H : p) (i : y = v → p → q := by intro h_ H_; first | (rw [h_]; with_reducible exact H_) | (have H2_ := (Option.bind_some _ _).symm.trans H_; rw [h_]; with_reducible exact H2_) | (have H2_ := (Option.bind_some _ _).symm.trans H_; with_reducible exact H2_) | with_reducible exact H_ | (rw [h_]; exact H_) | exact H_) : q := i hy H
theorem qif {c : Prop} [Decidable c] {α : Type} {x : Option α} {r : α} (h : (if c then x else none) = some r) : c ∧ x = some r := by
  by_cases hc : c
  · rw [if_pos hc] at h; exact ⟨hc, h⟩
  · rw [if_neg hc] at h; exact absurd h (by simp)
theorem qU {w : World} {g i : Nat} {t : TypeId} {cs cs' : Array Value} {u : Value} (h : w.heap[g]? = some (.cells cs t (0, 0))) (e : cs.setIfInBounds i u = cs' := by rfl) : (w.setCell ⟨g, i, none⟩ u).heap[g]? = some (.cells cs' t (0, 0)) := blk_put h i u e
theorem qF {w : World} {g g' i : Nat} {t : TypeId} {cs : Array Value} {u : Value} (h : w.heap[g]? = some (.cells cs t (0, 0))) (n : g ≠ g') : (w.setCell ⟨g', i, none⟩ u).heap[g]? = some (.cells cs t (0, 0)) := blk_far h n u
theorem qP {P : Program} {ops : Array Oper} {Q : Exit → Act → World → Prop} {md : Region.Mode} {S : World → Prop} {ds : List Nat} (i N : Nat) {oi : Oper} {v : Value} {fuel : Nat} {l : Array Bool} {a : Act} {w : World} (l' : Array Bool) {a' : Act} (h : Go.Proofs.YtfiboooflebdpaaW.PrintLast.wpAnyLast P md ops Q S ds fuel l' a' w) (hi : ops[i]? = some oi := by rfl) (hN : oi.dst = some N := by rfl) (hc : Go.Proofs.YtfiboooflebdpaaW.PrintLast.anyB md ops l l' i = true := by exact any_of HT_.out (by kernel_rfl)) (hy : ∀ w, (execOp a.eval oi).run P w = .ok (.value v) w := by intro w'; go_simp; with_reducible rfl) (ha : a.put (some N) v = a' := by simp only [Act.put, qzA, qzB, qzC, i64_w, i32_w]; rfl) (hQ : ∀ c a w, Q (.panic c) (a.put oi.dst v) w → Q (.panic c) a w := by exact fun _ _ _ h => h) (hw : Region.wanted oi (yielded ops a.tmps) = true := by rfl) : Go.Proofs.YtfiboooflebdpaaW.PrintLast.wpAnyLast P md ops Q S ds (fuel + 1) l a w := Go.Proofs.YtfiboooflebdpaaW.PrintLast.pure_ l' hi hN hc hQ (.inl ⟨hw, hy⟩) ha h
theorem qD {P : Program} {ops : Array Oper} {Q : Exit → Act → World → Prop} {md : Region.Mode} {S : World → Prop} {ds : List Nat} (i N : Nat) {oi : Oper} {fuel : Nat} {l : Array Bool} {a : Act} {w : World} (l' : Array Bool) {a' : Act} (h : Go.Proofs.YtfiboooflebdpaaW.PrintLast.wpAnyLast P md ops Q S ds fuel l' a' w) (hi : ops[i]? = some oi := by rfl) (hN : oi.dst = some N := by rfl) (hc : Go.Proofs.YtfiboooflebdpaaW.PrintLast.anyB md ops l l' i = true := by exact any_of HT_.out (by kernel_rfl)) (ha : a.put (some N) undef = a' := by simp only [Act.put, qzA, qzB, qzC, i64_w, i32_w]; rfl) (hQ : ∀ c a w, Q (.panic c) (a.put oi.dst undef) w → Q (.panic c) a w := by exact fun _ _ _ h => h) (hw : Region.wanted oi (yielded ops a.tmps) = false := by rfl) : Go.Proofs.YtfiboooflebdpaaW.PrintLast.wpAnyLast P md ops Q S ds (fuel + 1) l a w := Go.Proofs.YtfiboooflebdpaaW.PrintLast.pure_ l' hi hN hc hQ (.inr ⟨hw, rfl⟩) ha h
theorem qK1 {P : Program} {ops : Array Oper} {Q : Exit → Act → World → Prop} {md : Region.Mode} {S : World → Prop} {ds : List Nat} (i N : Nat) {oi : Oper} {v : Value} {fuel : Nat} {l : Array Bool} {a : Act} {w : World} (l' : Array Bool) {a' : Act} (h : Go.Proofs.YtfiboooflebdpaaW.PrintLast.wpAnyLast P md ops Q S ds fuel l' a' w) (hi : ops[i]? = some oi := by rfl) (hN : oi.dst = some N := by rfl) (hc : Go.Proofs.YtfiboooflebdpaaW.PrintLast.takeB md ops ds l l' i = true := by exact take_ofW HT_.out HW_.out (by kernel_rfl)) (hy : ∀ w, S w → (execOp a.eval oi).run P w = .ok (.value v) w := by rintro w' ⟨s0⟩; go_simp; with_reducible rfl) (hS : S w := by exact hHeld) (ha : a.put (some N) v = a' := by simp only [Act.put, qzA, qzB, qzC, i64_w, i32_w]; rfl) (hQ : ∀ c a w, Q (.panic c) (a.put oi.dst v) w → Q (.panic c) a w := by exact fun _ _ _ h => h) (hw : Region.wanted oi (yielded ops a.tmps) = true := by rfl) : Go.Proofs.YtfiboooflebdpaaW.PrintLast.wpAnyLast P md ops Q S ds (fuel + 1) l a w := Go.Proofs.YtfiboooflebdpaaW.PrintLast.take_ l' hi hN hc hQ (.inl ⟨hw, hy⟩) hS ha h
theorem qK2 {P : Program} {ops : Array Oper} {Q : Exit → Act → World → Prop} {md : Region.Mode} {S : World → Prop} {ds : List Nat} (i N : Nat) {oi : Oper} {v : Value} {fuel : Nat} {l : Array Bool} {a : Act} {w : World} (l' : Array Bool) {a' : Act} (h : Go.Proofs.YtfiboooflebdpaaW.PrintLast.wpAnyLast P md ops Q S ds fuel l' a' w) (hi : ops[i]? = some oi := by rfl) (hN : oi.dst = some N := by rfl) (hc : Go.Proofs.YtfiboooflebdpaaW.PrintLast.takeB md ops ds l l' i = true := by exact take_ofW HT_.out HW_.out (by kernel_rfl)) (hy : ∀ w, S w → (execOp a.eval oi).run P w = .ok (.value v) w := by rintro w' ⟨s0, s1⟩; go_simp; with_reducible rfl) (hS : S w := by exact hHeld) (ha : a.put (some N) v = a' := by simp only [Act.put, qzA, qzB, qzC, i64_w, i32_w]; rfl) (hQ : ∀ c a w, Q (.panic c) (a.put oi.dst v) w → Q (.panic c) a w := by exact fun _ _ _ h => h) (hw : Region.wanted oi (yielded ops a.tmps) = true := by rfl) : Go.Proofs.YtfiboooflebdpaaW.PrintLast.wpAnyLast P md ops Q S ds (fuel + 1) l a w := Go.Proofs.YtfiboooflebdpaaW.PrintLast.take_ l' hi hN hc hQ (.inl ⟨hw, hy⟩) hS ha h
theorem qK3 {P : Program} {ops : Array Oper} {Q : Exit → Act → World → Prop} {md : Region.Mode} {S : World → Prop} {ds : List Nat} (i N : Nat) {oi : Oper} {v : Value} {fuel : Nat} {l : Array Bool} {a : Act} {w : World} (l' : Array Bool) {a' : Act} (h : Go.Proofs.YtfiboooflebdpaaW.PrintLast.wpAnyLast P md ops Q S ds fuel l' a' w) (hi : ops[i]? = some oi := by rfl) (hN : oi.dst = some N := by rfl) (hc : Go.Proofs.YtfiboooflebdpaaW.PrintLast.takeB md ops ds l l' i = true := by exact take_ofW HT_.out HW_.out (by kernel_rfl)) (hy : ∀ w, S w → (execOp a.eval oi).run P w = .ok (.value v) w := by rintro w' ⟨s0, s1, s2⟩; go_simp; with_reducible rfl) (hS : S w := by exact hHeld) (ha : a.put (some N) v = a' := by simp only [Act.put, qzA, qzB, qzC, i64_w, i32_w]; rfl) (hQ : ∀ c a w, Q (.panic c) (a.put oi.dst v) w → Q (.panic c) a w := by exact fun _ _ _ h => h) (hw : Region.wanted oi (yielded ops a.tmps) = true := by rfl) : Go.Proofs.YtfiboooflebdpaaW.PrintLast.wpAnyLast P md ops Q S ds (fuel + 1) l a w := Go.Proofs.YtfiboooflebdpaaW.PrintLast.take_ l' hi hN hc hQ (.inl ⟨hw, hy⟩) hS ha h
theorem qK4 {P : Program} {ops : Array Oper} {Q : Exit → Act → World → Prop} {md : Region.Mode} {S : World → Prop} {ds : List Nat} (i N : Nat) {oi : Oper} {v : Value} {fuel : Nat} {l : Array Bool} {a : Act} {w : World} (l' : Array Bool) {a' : Act} (h : Go.Proofs.YtfiboooflebdpaaW.PrintLast.wpAnyLast P md ops Q S ds fuel l' a' w) (hi : ops[i]? = some oi := by rfl) (hN : oi.dst = some N := by rfl) (hc : Go.Proofs.YtfiboooflebdpaaW.PrintLast.takeB md ops ds l l' i = true := by exact take_ofW HT_.out HW_.out (by kernel_rfl)) (hy : ∀ w, S w → (execOp a.eval oi).run P w = .ok (.value v) w := by rintro w' ⟨s0, s1, s2, s3⟩; go_simp; with_reducible rfl) (hS : S w := by exact hHeld) (ha : a.put (some N) v = a' := by simp only [Act.put, qzA, qzB, qzC, i64_w, i32_w]; rfl) (hQ : ∀ c a w, Q (.panic c) (a.put oi.dst v) w → Q (.panic c) a w := by exact fun _ _ _ h => h) (hw : Region.wanted oi (yielded ops a.tmps) = true := by rfl) : Go.Proofs.YtfiboooflebdpaaW.PrintLast.wpAnyLast P md ops Q S ds (fuel + 1) l a w := Go.Proofs.YtfiboooflebdpaaW.PrintLast.take_ l' hi hN hc hQ (.inl ⟨hw, hy⟩) hS ha h
theorem qK5 {P : Program} {ops : Array Oper} {Q : Exit → Act → World → Prop} {md : Region.Mode} {S : World → Prop} {ds : List Nat} (i N : Nat) {oi : Oper} {v : Value} {fuel : Nat} {l : Array Bool} {a : Act} {w : World} (l' : Array Bool) {a' : Act} (h : Go.Proofs.YtfiboooflebdpaaW.PrintLast.wpAnyLast P md ops Q S ds fuel l' a' w) (hi : ops[i]? = some oi := by rfl) (hN : oi.dst = some N := by rfl) (hc : Go.Proofs.YtfiboooflebdpaaW.PrintLast.takeB md ops ds l l' i = true := by exact take_ofW HT_.out HW_.out (by kernel_rfl)) (hy : ∀ w, S w → (execOp a.eval oi).run P w = .ok (.value v) w := by rintro w' ⟨s0, s1, s2, s3, s4⟩; go_simp; with_reducible rfl) (hS : S w := by exact hHeld) (ha : a.put (some N) v = a' := by simp only [Act.put, qzA, qzB, qzC, i64_w, i32_w]; rfl) (hQ : ∀ c a w, Q (.panic c) (a.put oi.dst v) w → Q (.panic c) a w := by exact fun _ _ _ h => h) (hw : Region.wanted oi (yielded ops a.tmps) = true := by rfl) : Go.Proofs.YtfiboooflebdpaaW.PrintLast.wpAnyLast P md ops Q S ds (fuel + 1) l a w := Go.Proofs.YtfiboooflebdpaaW.PrintLast.take_ l' hi hN hc hQ (.inl ⟨hw, hy⟩) hS ha h
theorem qK6 {P : Program} {ops : Array Oper} {Q : Exit → Act → World → Prop} {md : Region.Mode} {S : World → Prop} {ds : List Nat} (i N : Nat) {oi : Oper} {v : Value} {fuel : Nat} {l : Array Bool} {a : Act} {w : World} (l' : Array Bool) {a' : Act} (h : Go.Proofs.YtfiboooflebdpaaW.PrintLast.wpAnyLast P md ops Q S ds fuel l' a' w) (hi : ops[i]? = some oi := by rfl) (hN : oi.dst = some N := by rfl) (hc : Go.Proofs.YtfiboooflebdpaaW.PrintLast.takeB md ops ds l l' i = true := by exact take_ofW HT_.out HW_.out (by kernel_rfl)) (hy : ∀ w, S w → (execOp a.eval oi).run P w = .ok (.value v) w := by rintro w' ⟨s0, s1, s2, s3, s4, s5⟩; go_simp; with_reducible rfl) (hS : S w := by exact hHeld) (ha : a.put (some N) v = a' := by simp only [Act.put, qzA, qzB, qzC, i64_w, i32_w]; rfl) (hQ : ∀ c a w, Q (.panic c) (a.put oi.dst v) w → Q (.panic c) a w := by exact fun _ _ _ h => h) (hw : Region.wanted oi (yielded ops a.tmps) = true := by rfl) : Go.Proofs.YtfiboooflebdpaaW.PrintLast.wpAnyLast P md ops Q S ds (fuel + 1) l a w := Go.Proofs.YtfiboooflebdpaaW.PrintLast.take_ l' hi hN hc hQ (.inl ⟨hw, hy⟩) hS ha h
theorem qK7 {P : Program} {ops : Array Oper} {Q : Exit → Act → World → Prop} {md : Region.Mode} {S : World → Prop} {ds : List Nat} (i N : Nat) {oi : Oper} {v : Value} {fuel : Nat} {l : Array Bool} {a : Act} {w : World} (l' : Array Bool) {a' : Act} (h : Go.Proofs.YtfiboooflebdpaaW.PrintLast.wpAnyLast P md ops Q S ds fuel l' a' w) (hi : ops[i]? = some oi := by rfl) (hN : oi.dst = some N := by rfl) (hc : Go.Proofs.YtfiboooflebdpaaW.PrintLast.takeB md ops ds l l' i = true := by exact take_ofW HT_.out HW_.out (by kernel_rfl)) (hy : ∀ w, S w → (execOp a.eval oi).run P w = .ok (.value v) w := by rintro w' ⟨s0, s1, s2, s3, s4, s5, s6⟩; go_simp; with_reducible rfl) (hS : S w := by exact hHeld) (ha : a.put (some N) v = a' := by simp only [Act.put, qzA, qzB, qzC, i64_w, i32_w]; rfl) (hQ : ∀ c a w, Q (.panic c) (a.put oi.dst v) w → Q (.panic c) a w := by exact fun _ _ _ h => h) (hw : Region.wanted oi (yielded ops a.tmps) = true := by rfl) : Go.Proofs.YtfiboooflebdpaaW.PrintLast.wpAnyLast P md ops Q S ds (fuel + 1) l a w := Go.Proofs.YtfiboooflebdpaaW.PrintLast.take_ l' hi hN hc hQ (.inl ⟨hw, hy⟩) hS ha h
theorem qK8 {P : Program} {ops : Array Oper} {Q : Exit → Act → World → Prop} {md : Region.Mode} {S : World → Prop} {ds : List Nat} (i N : Nat) {oi : Oper} {v : Value} {fuel : Nat} {l : Array Bool} {a : Act} {w : World} (l' : Array Bool) {a' : Act} (h : Go.Proofs.YtfiboooflebdpaaW.PrintLast.wpAnyLast P md ops Q S ds fuel l' a' w) (hi : ops[i]? = some oi := by rfl) (hN : oi.dst = some N := by rfl) (hc : Go.Proofs.YtfiboooflebdpaaW.PrintLast.takeB md ops ds l l' i = true := by exact take_ofW HT_.out HW_.out (by kernel_rfl)) (hy : ∀ w, S w → (execOp a.eval oi).run P w = .ok (.value v) w := by rintro w' ⟨s0, s1, s2, s3, s4, s5, s6, s7⟩; go_simp; with_reducible rfl) (hS : S w := by exact hHeld) (ha : a.put (some N) v = a' := by simp only [Act.put, qzA, qzB, qzC, i64_w, i32_w]; rfl) (hQ : ∀ c a w, Q (.panic c) (a.put oi.dst v) w → Q (.panic c) a w := by exact fun _ _ _ h => h) (hw : Region.wanted oi (yielded ops a.tmps) = true := by rfl) : Go.Proofs.YtfiboooflebdpaaW.PrintLast.wpAnyLast P md ops Q S ds (fuel + 1) l a w := Go.Proofs.YtfiboooflebdpaaW.PrintLast.take_ l' hi hN hc hQ (.inl ⟨hw, hy⟩) hS ha h
theorem qK9 {P : Program} {ops : Array Oper} {Q : Exit → Act → World → Prop} {md : Region.Mode} {S : World → Prop} {ds : List Nat} (i N : Nat) {oi : Oper} {v : Value} {fuel : Nat} {l : Array Bool} {a : Act} {w : World} (l' : Array Bool) {a' : Act} (h : Go.Proofs.YtfiboooflebdpaaW.PrintLast.wpAnyLast P md ops Q S ds fuel l' a' w) (hi : ops[i]? = some oi := by rfl) (hN : oi.dst = some N := by rfl) (hc : Go.Proofs.YtfiboooflebdpaaW.PrintLast.takeB md ops ds l l' i = true := by exact take_ofW HT_.out HW_.out (by kernel_rfl)) (hy : ∀ w, S w → (execOp a.eval oi).run P w = .ok (.value v) w := by rintro w' ⟨s0, s1, s2, s3, s4, s5, s6, s7, s8⟩; go_simp; with_reducible rfl) (hS : S w := by exact hHeld) (ha : a.put (some N) v = a' := by simp only [Act.put, qzA, qzB, qzC, i64_w, i32_w]; rfl) (hQ : ∀ c a w, Q (.panic c) (a.put oi.dst v) w → Q (.panic c) a w := by exact fun _ _ _ h => h) (hw : Region.wanted oi (yielded ops a.tmps) = true := by rfl) : Go.Proofs.YtfiboooflebdpaaW.PrintLast.wpAnyLast P md ops Q S ds (fuel + 1) l a w := Go.Proofs.YtfiboooflebdpaaW.PrintLast.take_ l' hi hN hc hQ (.inl ⟨hw, hy⟩) hS ha h
theorem qNm {P : Program} {ops : Array Oper} {Q : Exit → Act → World → Prop} {md : Region.Mode} {S : World → Prop} {ds : List Nat} {fuel : Nat} {l : Array Bool} {a a' : Act} {w : World} (h : Go.Proofs.YtfiboooflebdpaaW.PrintLast.wpAnyLast P md ops Q S ds fuel l a' w) (ha : a = a' := by first | (show Act.put _ (some _) _ = _; simp only [Act.put, qzA, qzB, qzC, i64_w, i32_w]; rfl) | (show Act.put _ none _ = _; simp only [Act.put, qzA, qzB, qzC, i64_w, i32_w]; rfl)) : Go.Proofs.YtfiboooflebdpaaW.PrintLast.wpAnyLast P md ops Q S ds fuel l a w := Go.Proofs.YtfiboooflebdpaaW.PrintLast.norm_ ha h
theorem qNp {P : Program} {ops : Array Oper} {Q : Exit → Act → World → Prop} {md : Region.Mode} {S : World → Prop} {ds : List Nat} {fuel : Nat} {l : Array Bool} {a a' : Act} {w : World} (h : Go.Proofs.YtfiboooflebdpaaW.PrintLast.wpAnyLast P md ops Q S ds fuel l a' w) (ha : a = a' := by simp only [putAll, Act.put, qzA, qzB, qzC]; rfl) : Go.Proofs.YtfiboooflebdpaaW.PrintLast.wpAnyLast P md ops Q S ds fuel l a w := Go.Proofs.YtfiboooflebdpaaW.PrintLast.norm_ ha h
theorem qOn {P : Program} {ops : Array Oper} {Q : Exit → Act → World → Prop} {md : Region.Mode} {S : World → Prop} {ds : List Nat} (i : Nat) (N : Option Tmp) {oi : Oper} {fuel : Nat} {l : Array Bool} {a : Act} {w : World} (l' : Array Bool) (h : ∀ K : Act → World → Prop, Shut (∀ a' w', S w' → (S w' → Go.Proofs.YtfiboooflebdpaaW.PrintLast.wpAnyLast P md ops Q S ds fuel l' a' w') → K a' w') → if Region.wanted oi (yielded ops a.tmps) = true then Oper.wp P oi a w K Q else K (a.put N undef) w) (hi : ops[i]? = some oi := by rfl) (hN : oi.dst = N := by rfl) (hc : Go.Proofs.YtfiboooflebdpaaW.PrintLast.readyB md ops l l' i = true := by exact one_of HT_.out (by kernel_rfl)) (hd : i ∉ ds := by decide) : Go.Proofs.YtfiboooflebdpaaW.PrintLast.wpAnyLast P md ops Q S ds (fuel + 1) l a w := Go.Proofs.YtfiboooflebdpaaW.PrintLast.one_ l' hi hN hc hd h
theorem qGo {P : Program} {ops : Array Oper} {Q : Exit → Act → World → Prop} {oi : Oper} {N : Option Tmp} {a : Act} {w : World} {K : Act → World → Prop} {f : FuncId} {fn : Func} {as_ : Array Operand} {ts : Array TypeId} (hf : P.funcs[f]? = some fn) (args : Array Value) (h : Calls P f args w fun e w' => ∃ v, e = .returned v ∧ K (a.put N v) w') (hop : oi.op = .call { callee := .value (.func f), args := as_, argTypes := ts } := by rfl) (hname : (fn.name == "runtime.NumGoroutine") = false := by kernel_rfl) (hb : fn.body.isSome = true := by rfl) (hw : Region.wanted oi (yielded ops a.tmps) = true := by rfl) (hN : oi.dst = N := by rfl) (hargs : as_.map a.eval = args := by (try simp only [List.map_toArray, List.map_cons, List.map_nil]); first | done | rfl | (simp only [List.length_drop, List.length_take]; rfl)) : if Region.wanted oi (yielded ops a.tmps) = true then Oper.wp P oi a w K Q else K (a.put N undef) w := Go.Proofs.YtfiboooflebdpaaW.PrintLast.goes_ hf hname hb args hw hN hop hargs h
theorem qGL {P : Program} {ops : Array Oper} {Q : Exit → Act → World → Prop} {rest : List Oper} {oi : Oper} {a : Act} {w : World} (N : Tmp) {f : FuncId} {fn : Func} {as_ : Array Operand} {ts : Array TypeId} (hf : P.funcs[f]? = some fn) (args : Array Value) (h : Calls P f args w fun e w' => ∃ v, e = .returned v ∧ wpList P ops Q rest (a.put (some N) v) w') (hd : oi.dst = some N := by rfl) (hg : oi.guard = none := by rfl) (hname : (fn.name == "runtime.NumGoroutine") = false := by kernel_rfl) (hb : fn.body.isSome = true := by rfl) (hop : oi.op = .call { callee := .value (.func f), args := as_, argTypes := ts } := by rfl) (hargs : as_.map a.eval = args := by (try simp only [List.map_toArray, List.map_cons, List.map_nil]); first | done | rfl | (simp only [List.length_drop, List.length_take]; rfl)) : wpList P ops Q (oi :: rest) a w := Go.Proofs.YtfiboooflebdpaaW.PrintLast.goesL_ (some N) hd hg hf hname hb args hop hargs h
theorem qge {a b : Int} (h : a ≥ b) : decide (b ≤ a) = true := decide_eq_true h
theorem qgt {a b : Int} (h : a > b) : decide (b < a) = true := decide_eq_true h
theorem qnge {a b : Int} (h : ¬a ≥ b) : decide (b ≤ a) = false := decide_eq_false h
theorem qngt {a b : Int} (h : ¬a > b) : decide (b < a) = false := decide_eq_false h
theorem qw {w W : World} {p : World → Prop} (hw : w = W) (h : p w) : Aside0 (p W) := ⟨hw ▸ h⟩
theorem qX2 {P : Program} {ops : Array Oper} {Q : Exit → Act → World → Prop} {o : Oper} {a : Act} {Kc : Act → World → Prop} {W : World} (N : Tmp) (cs : Array Value) (t : TypeId) (h : ∀ g, g = W.heap.size → ∀ w1, w1.heap[g]? = some (.cells cs t (0, 0)) → Below W.heap.size W w1 → Kc (a.put o.dst (.pointer (some ⟨g, 0, none⟩))) w1) (hw : Region.wanted o (yielded ops a.tmps) = true := by rfl) (hd : o.dst = some N := by rfl) (hrun : (execOp a.eval o).run P W = .ok (.value (.pointer (some ⟨W.heap.size, 0, none⟩))) (W.alloc (.cells cs t (0, 0))) := by first | (go_simp; done) | (go_simp; rfl)) : if Region.wanted o (yielded ops a.tmps) = true then Oper.wp P o a W Kc Q else Kc (a.put o.dst undef) W := box_step hw hd hrun h
@[reducible] def qt : Bool := true
@[reducible] def qf : Bool := false
end Go.Proofs.Ytfiboooflebdpaa.Q
namespace Go.Proofs.Ytfiboooflebdpaa.Q
open Go.RowKit Go.Proofs.YtfiboooflebdpaaW.PrintWords Go.Proofs.YtfiboooflebdpaaW.PrintLast Go.Proofs.YtfiboooflebdpaaW.PrintMore
attribute [local go_sem] max2_int min2_int max_two min_two max_three min_three max_four min_four
set_option linter.unusedVariables false
set_option linter.unusedSimpArgs false
set_option maxHeartbeats 8000000
set_option maxRecDepth 100000
def impl_within.f (a0 : Int) (a1 : Int) (a2 : Int) : Option (Bool) := if a0 ≥ a1 then (some (decide (a0 ≤ a2))) else (some false)
theorem impl_within.calls (a0 : Int) (a1 : Int) (a2 : Int) (r : Bool) (w : World) (h : impl_within.f a0 a1 a2 = some r) :
  Calls Try.prog 65 #[.int .i64 a0, .int .i64 a1, .int .i64 a2] w fun e w' => e = .returned (.bool r) ∧ Drawn0 w w' := by
 have H : (if a0 ≥ a1 then (some (decide (a0 ≤ a2))) else (some false)) = some r := h; clear h
 by_cases c4 : a0 ≥ a1
 ·rw [if_pos c4] at H
  have c4b0 := qge c4; clear c4; obtain rfl := Option.some.inj H
  go_enter Try.func65, Try.ntmps65
  go_wp2
  go_ret
  exact ⟨qa6, qa23⟩
 ·rw [if_neg c4] at H
  have c4b0 := qnge c4; clear c4; obtain rfl := Option.some.inj H
  go_enter Try.func65, Try.ntmps65
  go_wp2
  go_ret
  exact ⟨qa6, qa23⟩
set_option maxHeartbeats 8000000
set_option maxRecDepth 100000
def impl_IsInt.f (a0 : Int) : Option (Bool) := (impl_within.f a0 (-2147483648) 2147483647).bind fun t101 => (some t101)
theorem impl_IsInt.calls (a0 : Int) (r : Bool) (w : World) (h : impl_IsInt.f a0 = some r) :
  Calls Try.prog 111 #[.int .i64 a0] w fun e w' => e = .returned (.bool r) ∧ Drawn0 w w' := by
 have H : ((impl_within.f a0 (-2147483648) 2147483647).bind fun t101 => (some t101)) = some r := h; clear h; replace H := Option.bind_eq_some_iff.mp H; obtain ⟨t101, A20, H⟩ := H; have A2 := qO A20; clear A20; obtain rfl := Option.some.inj H
 go_enter Try.func111, Try.ntmps111
 go_wp2_with (first | ((with_reducible refine gate_callee (f := 65) rfl ?_); refine qGL 4 Try.func65 #[.int .i64 a0, .int .i64 (-2147483648), .int .i64 2147483647] ?_; (with_reducible refine (impl_within.calls a0 (-2147483648) 2147483647 t101 _ A2.out).mono ?_); rintro e w' ⟨rfl, ⟨nd, rfl⟩⟩; refine ⟨_, rfl, ?_⟩))
 go_ret
 exact ⟨qa6, qa23⟩
set_option maxHeartbeats 8000000
set_option maxRecDepth 100000
def impl_fits.f (a0 : Int) (a1 : Int) : Option (Bool) := if (Int.tmod a0 2) = 1 then ((impl_within.f a1 0 8).bind fun t101 => (some t101)) else ((impl_IsInt.f a1).bind fun t102 => (some t102))
theorem impl_fits.calls (a0 : Int) (a1 : Int) (r : Bool) (w : World) (h : impl_fits.f a0 a1 = some r) :
  Calls Try.prog 66 #[.int .i64 a0, .int .i64 a1] w fun e w' => e = .returned (.bool r) ∧ Drawn0 w w' := by
 have H : (if (Int.tmod a0 2) = 1 then ((impl_within.f a1 0 8).bind fun t101 => (some t101)) else ((impl_IsInt.f a1).bind fun t102 => (some t102))) = some r := h; clear h
 by_cases c3 : (Int.tmod a0 2) = 1
 ·rw [if_pos c3] at H
  have c3b0 := beq_iff_eq.mpr c3; have c3b1 := bne_eq_false_iff_eq.mpr c3; clear c3; replace H := Option.bind_eq_some_iff.mp H; obtain ⟨t101, A40, H⟩ := H; have A4 := qO A40; clear A40; obtain rfl := Option.some.inj H
  go_enter Try.func66, Try.ntmps66
  go_wp2_with (first | ((with_reducible refine gate_callee (f := 65) rfl ?_); refine qGL 9 Try.func65 #[.int .i64 a1, .int .i64 0, .int .i64 8] ?_; (with_reducible refine (impl_within.calls a1 0 8 t101 _ A4.out).mono ?_); rintro e w' ⟨rfl, ⟨nd, rfl⟩⟩; refine ⟨_, rfl, ?_⟩))
  go_ret
  exact ⟨qa6, qa23⟩
 ·rw [if_neg c3] at H
  have c3b0 := beq_eq_false_iff_ne.mpr c3; have c3b1 := bne_iff_ne.mpr c3; replace H := Option.bind_eq_some_iff.mp H; obtain ⟨t102, A50, H⟩ := H; have A5 := qO A50; clear A50; obtain rfl := Option.some.inj H
  go_enter Try.func66, Try.ntmps66
  go_wp2_with (first | ((with_reducible refine gate_callee (f := 111) rfl ?_); refine qGL 11 Try.func111 #[.int .i64 a1] ?_; (with_reducible refine (impl_IsInt.calls a1 t102 _ A5.out).mono ?_); rintro e w' ⟨rfl, ⟨nd, rfl⟩⟩; refine ⟨_, rfl, ?_⟩))
  go_ret
  exact ⟨qa6, qa23⟩
set_option maxHeartbeats 8000000
set_option maxRecDepth 100000
mutual
def impl_StoreOK.j0 : Nat → Bool → List (List (S43)) → Int → Option (Bool)
 | 0, _, _, _ => none
 | k + 1, x16, x102000, x102001 => if x16 = true then (some false) else (impl_StoreOK.l0 k x102000 (x102000.length : Int) 0 x102000 x102001)
def impl_StoreOK.l0 : Nat → List (List (S43)) → Int → Int → List (List (S43)) → Int → Option (Bool)
 | 0, _, _, _, _, _ => none
 | k + 1, x18, x19, x20, x102000, x102001 => if x20 < x19 then (if 0 ≤ x20 then (if x20 < (x18.length : Int) then (impl_StoreOK.l1 k x20 (rd_L4 x18 x20) x18 x19 x20 (rd_L4 x18 x20) ((rd_L4 x18 x20).length : Int) 0 x102000 x102001) else (none)) else (none)) else (some true)
def impl_StoreOK.l1 : Nat → Int → List (S43) → List (List (S43)) → Int → Int → List (S43) → Int → Int → List (List (S43)) → Int → Option (Bool)
 | 0, _, _, _, _, _, _, _, _, _, _ => none
 | k + 1, x3, x4, x18, x19, x20, x25, x26, x27, x102000, x102001 => if x27 < x26 then (if 0 ≤ x27 then (if x27 < (x25.length : Int) then ((impl_within.f ((rd_T43 x25 x27).f0) 1 x102001).bind fun t106 => (if t106 = true then (if x27 > 0 then (if 0 ≤ (wrap64 (x27 - 1)) then (if (wrap64 (x27 - 1)) < (x4.length : Int) then (if ((rd_T43 x4 (wrap64 (x27 - 1))).f0) ≥ ((rd_T43 x25 x27).f0) then (some false) else ((impl_fits.f x3 ((rd_T43 x25 x27).f1)).bind fun t108 => (if t108 = true then (impl_StoreOK.l1 k x3 x4 x18 x19 x20 x25 x26 (wrap64 (x27 + 1)) x102000 x102001) else (some false)))) else (none)) else (none)) else ((impl_fits.f x3 ((rd_T43 x25 x27).f1)).bind fun t109 => (if t109 = true then (impl_StoreOK.l1 k x3 x4 x18 x19 x20 x25 x26 (wrap64 (x27 + 1)) x102000 x102001) else (some false)))) else (some false))) else (none)) else (none)) else (impl_StoreOK.l0 k x18 x19 (wrap64 (x20 + 1)) x102000 x102001)
end
def impl_StoreOK.f (k : Nat) (l0_0 : List (List (S43))) (a0_1 : Int) : Option (Bool) := if (l0_0.length : Int) = 16 then ((impl_within.f a0_1 0 100000).bind fun t102 => (impl_StoreOK.j0 k (!t102) l0_0 a0_1)) else (impl_StoreOK.j0 k true l0_0 a0_1)
theorem impl_StoreOK.calls (k : Nat) (A0_0 : Option Addr) (c0_0 : Nat) (l0_0 : List (List (S43))) (a0_1 : Int) (r : Bool) (w : World) (hr0_0 : Kd.C (Kd.slice 43 k43) w A0_0 l0_0.length l0_0) (hc0_0 : l0_0.length ≤ c0_0) (h : impl_StoreOK.f k l0_0 a0_1 = some r) :
  Calls Try.prog 22 #[.agg #[.slice A0_0 l0_0.length c0_0, .int .i64 a0_1]] w fun e w' => e = .returned (.bool r) ∧ Below w.heap.size w w' := by
 have hu28 := Try.underlying28; have hu43 := Try.underlying43; have HR0_0 := qO hr0_0; have HC0_0 := qO hc0_0; clear hr0_0 hc0_0; have HB := qO (Below.refl w.heap.size w); have H : (if (l0_0.length : Int) = 16 then ((impl_within.f a0_1 0 100000).bind fun t102 => (impl_StoreOK.j0 k (!t102) l0_0 a0_1)) else (impl_StoreOK.j0 k true l0_0 a0_1)) = some r := h; clear h; have HC2 := qO H; clear H
 go_enter Try.func22, Try.ntmps22
 go_upto_region 1 with (first | ((with_reducible refine gate_dst (N := 1) rfl ?_); refine qX 1 #[.slice A0_0 l0_0.length c0_0, .int .i64 a0_1] 28 ?_; intro gb101 hg w3 hbox hb; have BK101 := qO (hbox); have GW101 := qO ((qa38 : w.heap.size ≤ gb101)); have GE101 := qO ((qa38 : w.heap.size ≤ gb101)); replace HB := qO (below_step (qH HB.out) hb); clear hb hbox hg))
 repeat (go_quiet (first | ((with_reducible refine gate_dst (N := 1) rfl ?_); refine qX 1 #[.slice A0_0 l0_0.length c0_0, .int .i64 a0_1] 28 ?_; intro gb101 hg w3 hbox hb; have BK101 := qO (hbox); have GW101 := qO ((qa38 : w.heap.size ≤ gb101)); have GE101 := qO ((qa38 : w.heap.size ≤ gb101)); replace HB := qO (below_step (qH HB.out) hb); clear hb hbox hg)); go_upto_region 1 with (first | ((with_reducible refine gate_dst (N := 1) rfl ?_); refine qX 1 #[.slice A0_0 l0_0.length c0_0, .int .i64 a0_1] 28 ?_; intro gb101 hg w3 hbox hb; have BK101 := qO (hbox); have GW101 := qO ((qa38 : w.heap.size ≤ gb101)); have GE101 := qO ((qa38 : w.heap.size ≤ gb101)); replace HB := qO (below_step (qH HB.out) hb); clear hb hbox hg)))
 (try simp only [Act.put, qzA, qzB, qzC])
 go_cut [16] (fun v16 wc => ∃ (kq : Nat) (x16_1 : Bool), v16 = .bool x16_1 ∧ Aside0 (impl_StoreOK.j0 kq x16_1 l0_0 a0_1 = some r) ∧ Aside0 (kq ≤ k) ∧ Aside0 (wc.heap[gb101]? = some (.cells #[(.slice A0_0 l0_0.length c0_0), .int .i64 a0_1] 28 (0, 0))) ∧ Aside0 (Below w.heap.size w wc))
 case first =>
  have H := HC2.out; clear HC2
  by_cases c4 : (l0_0.length : Int) = 16
  ·rw [if_pos c4] at H
   have c4b0 := beq_iff_eq.mpr c4; have c4b1 := bne_eq_false_iff_eq.mpr c4; clear c4; (first | rw [c4b0] | (simp only [i64_w, i32_w]; rw [c4b0]) | skip); replace H := Option.bind_eq_some_iff.mp H; obtain ⟨t102, A50, H⟩ := H; have A5 := qO A50; clear A50; have H' := qO H; clear H; obtain ⟨hcz6_0, hcz6_1, hfz6_0, hfz6_1⟩ := qb2 BK101.out
   go_wp2_with (first | (go_at_call 65; (with_reducible refine (impl_within.calls a0_1 0 100000 t102 _ A5.out).mono ?_); rintro e w' ⟨rfl, ⟨nd, rfl⟩⟩; (try first | exact ⟨rfl, _, World.drewN_drewN _ _ _⟩ | exact ⟨rfl, _, Eq.trans (World.drewN_drewN _ _ _) (congrArg (World.drewN _) (Nat.add_assoc _ _ _))⟩)))
   repeat (go_quiet (first | (go_at_call 65; (with_reducible refine (impl_within.calls a0_1 0 100000 t102 _ A5.out).mono ?_); rintro e w' ⟨rfl, ⟨nd, rfl⟩⟩; (try first | exact ⟨rfl, _, World.drewN_drewN _ _ _⟩ | exact ⟨rfl, _, Eq.trans (World.drewN_drewN _ _ _) (congrArg (World.drewN _) (Nat.add_assoc _ _ _))⟩))); try go_wp2_with (first | (go_at_call 65; (with_reducible refine (impl_within.calls a0_1 0 100000 t102 _ A5.out).mono ?_); rintro e w' ⟨rfl, ⟨nd, rfl⟩⟩; (try first | exact ⟨rfl, _, World.drewN_drewN _ _ _⟩ | exact ⟨rfl, _, Eq.trans (World.drewN_drewN _ _ _) (congrArg (World.drewN _) (Nat.add_assoc _ _ _))⟩))))
   go_meet
   case rel => exact ⟨_, (!t102), qa6, H', ⟨qa79⟩, ⟨qk BK101.out⟩, ⟨qH HB.out⟩⟩
  ·rw [if_neg c4] at H
   have c4b0 := beq_eq_false_iff_ne.mpr c4; have c4b1 := bne_iff_ne.mpr c4; (first | rw [c4b0] | (simp only [i64_w, i32_w]; rw [c4b0]) | skip); have H' := qO H; clear H; obtain ⟨hcz7_0, hcz7_1, hfz7_0, hfz7_1⟩ := qb2 BK101.out; go_wp2
   repeat (go_quiet (fail); try go_wp2)
   go_meet
   case rel => exact ⟨_, (true), qa6, H', ⟨qa79⟩, ⟨qk BK101.out⟩, ⟨qH HB.out⟩⟩
 case rest =>
  clear HC2
  obtain ⟨kq, x16_1, rfl, HA, HJ1, BK101, HB⟩ := hcut
  cases kq with
  | zero => exact absurd HA.out (by simp [impl_StoreOK.j0])
  | succ kj1 =>
   have H := HA.out; clear HA; simp only [impl_StoreOK.j0] at H
   by_cases c8 : x16_1 = true
   ·subst c8
    rw [if_pos rfl] at H; obtain rfl := Option.some.inj H; go_wp2
    repeat (go_quiet (fail); try go_wp2)
    go_ret
    exact ⟨qa2, qH HB.out⟩
   ·replace c8 := Bool.eq_false_iff.mpr c8
    subst c8; rw [qfn] at H; have H' := qO H; clear H; obtain ⟨hcz9_0, hcz9_1, hfz9_0, hfz9_1⟩ := qb2 BK101.out; go_wp2
    repeat (go_quiet (fail); try go_wp2)
    go_loopg [20] kj1 (fun kq v20 w' => ∃ (x20_2 : Int), v20 = .int .i64 x20_2 ∧ Aside0 (impl_StoreOK.l0 kq l0_0 (l0_0.length : Int) x20_2 l0_0 a0_1 = some r) ∧ Aside0 (kq ≤ kj1) ∧ Aside0 (w'.heap[gb101]? = some (.cells #[(.slice A0_0 l0_0.length c0_0), .int .i64 a0_1] 28 (0, 0))) ∧ Aside0 (Below w.heap.size w w'))
    case atStart => exact ⟨(0), qa6, H', ⟨Nat.le_refl _⟩, ⟨qk BK101.out⟩, ⟨qH HB.out⟩⟩
    case round =>
     clear H'
     obtain ⟨x20_2, rfl, HA, HK2, BK101, HB⟩ := hrel
     cases gk with
     | zero => exact absurd HA.out (by simp [impl_StoreOK.l0])
     | succ k2 =>
      have H := HA.out; clear HA; simp only [impl_StoreOK.l0] at H
      by_cases c10 : x20_2 < (l0_0.length : Int)
      ·rw [if_pos c10] at H
       have c10b0 := decide_eq_true c10; clear c10
       by_cases c11 : 0 ≤ x20_2
       ·rw [if_pos c11] at H
        have c11b0 := decide_eq_true c11; clear c11
        by_cases c12 : x20_2 < (l0_0.length : Int)
        ·rw [if_pos c12] at H
         have c12b0 := decide_eq_true c12; clear c12; have H' := qO H; clear H; have p103 : 0 ≤ (x20_2 : Int) := qT qa1; have q103 : x20_2 < (l0_0.length : Int) := qT qa1; obtain ⟨ad103, A103_0, c103_0, e103, hx103_0, hl103_0, hi103_0⟩ := at_L4 HR0_0.out x20_2 p103 q103
         cases e103
         replace hx103_0 := (HB.out.cell (qL w _ hx103_0)).trans hx103_0; have HR103_0 := qO hi103_0; have HC103_0 := qO hl103_0; clear hi103_0 hl103_0; replace p103 := eq_true p103; replace q103 := eq_true q103; go_wp2
         repeat (go_quiet (fail); try go_wp2)
         go_loopg [27] k2 (fun kq v27 w' => ∃ (x27_3 : Int), v27 = .int .i64 x27_3 ∧ Aside0 (impl_StoreOK.l1 kq x20_2 (rd_L4 l0_0 x20_2) l0_0 (l0_0.length : Int) x20_2 (rd_L4 l0_0 x20_2) ((rd_L4 l0_0 x20_2).length : Int) x27_3 l0_0 a0_1 = some r) ∧ Aside0 (kq ≤ k2) ∧ Aside0 (w'.heap[gb101]? = some (.cells #[(.slice (some ad103) l0_0.length c0_0), .int .i64 a0_1] 28 (0, 0))) ∧ Aside0 (Below w.heap.size w w'))
         case atStart => exact ⟨(0), qa6, H', ⟨Nat.le_refl _⟩, ⟨qk BK101.out⟩, ⟨qH HB.out⟩⟩
         case round =>
          clear H'
          obtain ⟨x27_3, rfl, HA, HK3, BK101, HB⟩ := hrel
          cases gk with
          | zero => exact absurd HA.out (by simp [impl_StoreOK.l1])
          | succ k3 =>
           have H := HA.out; clear HA; simp only [impl_StoreOK.l1] at H
           by_cases c13 : x27_3 < ((rd_L4 l0_0 x20_2).length : Int)
           ·rw [if_pos c13] at H
            have c13b0 := decide_eq_true c13; clear c13
            by_cases c14 : 0 ≤ x27_3
            ·rw [if_pos c14] at H
             have c14b0 := decide_eq_true c14; clear c14
             by_cases c15 : x27_3 < ((rd_L4 l0_0 x20_2).length : Int)
             ·rw [if_pos c15] at H
              have c15b0 := decide_eq_true c15; clear c15; replace H := Option.bind_eq_some_iff.mp H; obtain ⟨t106, A160, H⟩ := H; have A16 := qO A160; clear A160
              by_cases c17 : t106 = true
              ·subst c17
               rw [if_pos rfl] at H
               by_cases c18 : x27_3 > 0
               ·rw [if_pos c18] at H
                have c18b0 := qgt c18; clear c18; obtain ⟨ji19, hji19⟩ : ∃ j_ : Int, (wrap64 (x27_3 - 1)) = j_ := ⟨_, rfl⟩; (first | rw [hji19] at H | simp only [hji19] at H)
                (try rw [hji19] at A16); have hji19w : (IntKind.i64.wrap (x27_3 - 1)) = ji19 := (i64_w _).trans hji19
                by_cases c20 : 0 ≤ (ji19)
                ·rw [if_pos c20] at H
                 have c20b0 := decide_eq_true c20; clear c20
                 by_cases c21 : (ji19) < ((rd_L4 l0_0 x20_2).length : Int)
                 ·rw [if_pos c21] at H
                  have c21b0 := decide_eq_true c21; clear c21
                  by_cases c22 : ((rd_T43 (rd_L4 l0_0 x20_2) (ji19)).f0) ≥ ((rd_T43 (rd_L4 l0_0 x20_2) x27_3).f0)
                  ·rw [if_pos c22] at H
                   have c22b0 := qge c22; clear c22; obtain rfl := Option.some.inj H; have p104 : 0 ≤ (x27_3 : Int) := qT qa1; have q104 : x27_3 < ((rd_L4 l0_0 x20_2).length : Int) := qT qa1; obtain ⟨ad104, e104, hx104_0, hx104_1⟩ := at_T43 HR103_0.out x27_3 p104 q104
                   cases e104
                   replace hx104_0 := (HB.out.cell (qL w _ hx104_0)).trans hx104_0; replace hx104_1 := (HB.out.cell (qL w _ hx104_1)).trans hx104_1; replace p104 := eq_true p104; replace q104 := eq_true q104
                   go_wp2_with (first | ((with_reducible refine gate_dst (N := 6) rfl ?_); refine qX 6 #[.int .i64 0, .int .i64 0] 43 ?_; intro gb105 hg w23 hbox hb; have hx_ := qHX HB hb qa0; have BK105 := qO (hbox); have GW105 := qO ((qa3 : w.heap.size ≤ gb105)); have GE105 := GW105; have NB101_105 := qO ((qLt hg (qk BK101.out))); have NB105_101 := qO (Ne.symm NB101_105.out); replace BK101 := qO (qB BK101.out hx_ hb); replace HB := qO (below_step (below_step HB.out hx_) hb); clear hx_ hb hbox hg; have hnb24 := NB105_101.out; have hnc24 := NB101_105.out; obtain ⟨hcz25_0, hcz25_1, hfz25_0, hfz25_1⟩ := qb2 BK105.out; obtain ⟨hcz26_0, hcz26_1, hfz26_0, hfz26_1⟩ := qb2 BK101.out) | (go_at_call 65; (with_reducible refine (impl_within.calls ((rd_T43 (rd_L4 l0_0 x20_2) x27_3).f0) 1 a0_1 true _ A16.out).mono ?_); rintro e w' ⟨rfl, ⟨nd, rfl⟩⟩; (try first | exact ⟨rfl, _, World.drewN_drewN _ _ _⟩ | exact ⟨rfl, _, Eq.trans (World.drewN_drewN _ _ _) (congrArg (World.drewN _) (Nat.add_assoc _ _ _))⟩); have p107 : 0 ≤ ((ji19) : Int) := qT qa1; have q107 : (ji19) < ((rd_L4 l0_0 x20_2).length : Int) := qT qa1; obtain ⟨ad107, e107, hx107_0, hx107_1⟩ := at_T43 HR103_0.out (ji19) p107 q107; obtain rfl : ad104 = ad107 := qa117; have hn107_0 : ad104.block ≠ gb105 := Nat.ne_of_lt (Nat.lt_of_lt_of_le qa39 GW105.out); have hn107_1 : ad104.block ≠ gb105 := Nat.ne_of_lt (Nat.lt_of_lt_of_le qa39 GW105.out); replace hx107_0 := (HB.out.cell (qL w _ hx107_0)).trans hx107_0; replace hx107_1 := (HB.out.cell (qL w _ hx107_1)).trans hx107_1; replace hx107_0 := (cell_far (p := ⟨gb105, 0, none⟩) qa20 (.int .i64 ((rd_T43 (rd_L4 l0_0 x20_2) x27_3).f0))).trans hx107_0; replace hx107_1 := (cell_far (p := ⟨gb105, 0, none⟩) qa20 (.int .i64 ((rd_T43 (rd_L4 l0_0 x20_2) x27_3).f0))).trans hx107_1; replace hx107_0 := (cell_far (p := ⟨gb105, 1, none⟩) qa21 (.int .i64 ((rd_T43 (rd_L4 l0_0 x20_2) x27_3).f1))).trans hx107_0; replace hx107_1 := (cell_far (p := ⟨gb105, 1, none⟩) qa21 (.int .i64 ((rd_T43 (rd_L4 l0_0 x20_2) x27_3).f1))).trans hx107_1; (try have hy107_0 := fun (n_ : Nat) => (show ((((w23.drewN n_).setCell ⟨gb105, 0, none⟩ (.int .i64 ((rd_T43 (rd_L4 l0_0 x20_2) x27_3).f0))).setCell ⟨gb105, 1, none⟩ (.int .i64 ((rd_T43 (rd_L4 l0_0 x20_2) x27_3).f1)))).cell? _ = some _ from hx107_0)); (try have hy107_1 := fun (n_ : Nat) => (show ((((w23.drewN n_).setCell ⟨gb105, 0, none⟩ (.int .i64 ((rd_T43 (rd_L4 l0_0 x20_2) x27_3).f0))).setCell ⟨gb105, 1, none⟩ (.int .i64 ((rd_T43 (rd_L4 l0_0 x20_2) x27_3).f1)))).cell? _ = some _ from hx107_1)); clear hn107_0 hn107_1; replace p107 := eq_true p107; replace q107 := eq_true q107))
                   repeat (go_quiet (first | ((with_reducible refine gate_dst (N := 6) rfl ?_); refine qX 6 #[.int .i64 0, .int .i64 0] 43 ?_; intro gb105 hg w23 hbox hb; have BK105 := qO (hbox); have GW105 := qO ((qa38 : w.heap.size ≤ gb105)); have GE105 := qO ((qa38 : w.heap.size ≤ gb105)); have NB101_105 := qO ((qLt hg (qk BK101.out))); have NB105_101 := qO ((qGt hg (qk BK101.out))); replace BK101 := qO (blk_below (qk BK101.out) hb); replace HB := qO (below_step (qH HB.out) hb); clear hb hbox hg; have hnb24 := NB105_101.out; have hnc24 := NB101_105.out; obtain ⟨hcz25_0, hcz25_1, hfz25_0, hfz25_1⟩ := qb2 BK105.out; obtain ⟨hcz26_0, hcz26_1, hfz26_0, hfz26_1⟩ := qb2 BK101.out) | (go_at_call 65; (with_reducible refine (impl_within.calls ((rd_T43 (rd_L4 l0_0 x20_2) x27_3).f0) 1 a0_1 true _ A16.out).mono ?_); rintro e w' ⟨rfl, ⟨nd, rfl⟩⟩; (try first | exact ⟨rfl, _, World.drewN_drewN _ _ _⟩ | exact ⟨rfl, _, Eq.trans (World.drewN_drewN _ _ _) (congrArg (World.drewN _) (Nat.add_assoc _ _ _))⟩); have p107 : 0 ≤ ((ji19) : Int) := qT qa1; have q107 : (ji19) < ((rd_L4 l0_0 x20_2).length : Int) := qT qa1; obtain ⟨ad107, e107, hx107_0, hx107_1⟩ := at_T43 HR103_0.out (ji19) p107 q107; obtain rfl : ad104 = ad107 := qa117; have hn107_0 : ad104.block ≠ gb105 := Nat.ne_of_lt (Nat.lt_of_lt_of_le qa39 GW105.out); have hn107_1 : ad104.block ≠ gb105 := Nat.ne_of_lt (Nat.lt_of_lt_of_le qa39 GW105.out); replace hx107_0 := (HB.out.cell (qL w _ hx107_0)).trans hx107_0; replace hx107_1 := (HB.out.cell (qL w _ hx107_1)).trans hx107_1; replace hx107_0 := (cell_far (p := ⟨gb105, 0, none⟩) qa20 (.int .i64 ((rd_T43 (rd_L4 l0_0 x20_2) x27_3).f0))).trans hx107_0; replace hx107_1 := (cell_far (p := ⟨gb105, 0, none⟩) qa20 (.int .i64 ((rd_T43 (rd_L4 l0_0 x20_2) x27_3).f0))).trans hx107_1; replace hx107_0 := (cell_far (p := ⟨gb105, 1, none⟩) qa21 (.int .i64 ((rd_T43 (rd_L4 l0_0 x20_2) x27_3).f1))).trans hx107_0; replace hx107_1 := (cell_far (p := ⟨gb105, 1, none⟩) qa21 (.int .i64 ((rd_T43 (rd_L4 l0_0 x20_2) x27_3).f1))).trans hx107_1; (try have hy107_0 := fun (n_ : Nat) => (show ((((w23.drewN n_).setCell ⟨gb105, 0, none⟩ (.int .i64 ((rd_T43 (rd_L4 l0_0 x20_2) x27_3).f0))).setCell ⟨gb105, 1, none⟩ (.int .i64 ((rd_T43 (rd_L4 l0_0 x20_2) x27_3).f1)))).cell? _ = some _ from hx107_0)); (try have hy107_1 := fun (n_ : Nat) => (show ((((w23.drewN n_).setCell ⟨gb105, 0, none⟩ (.int .i64 ((rd_T43 (rd_L4 l0_0 x20_2) x27_3).f0))).setCell ⟨gb105, 1, none⟩ (.int .i64 ((rd_T43 (rd_L4 l0_0 x20_2) x27_3).f1)))).cell? _ = some _ from hx107_1)); clear hn107_0 hn107_1; replace p107 := eq_true p107; replace q107 := eq_true q107)); try go_wp2_with (first | ((with_reducible refine gate_dst (N := 6) rfl ?_); refine qX 6 #[.int .i64 0, .int .i64 0] 43 ?_; intro gb105 hg w23 hbox hb; have hx_ := qHX HB hb qa0; have BK105 := qO (hbox); have GW105 := qO ((qa3 : w.heap.size ≤ gb105)); have GE105 := GW105; have NB101_105 := qO ((qLt hg (qk BK101.out))); have NB105_101 := qO (Ne.symm NB101_105.out); replace BK101 := qO (qB BK101.out hx_ hb); replace HB := qO (below_step (below_step HB.out hx_) hb); clear hx_ hb hbox hg; have hnb24 := NB105_101.out; have hnc24 := NB101_105.out; obtain ⟨hcz25_0, hcz25_1, hfz25_0, hfz25_1⟩ := qb2 BK105.out; obtain ⟨hcz26_0, hcz26_1, hfz26_0, hfz26_1⟩ := qb2 BK101.out) | (go_at_call 65; (with_reducible refine (impl_within.calls ((rd_T43 (rd_L4 l0_0 x20_2) x27_3).f0) 1 a0_1 true _ A16.out).mono ?_); rintro e w' ⟨rfl, ⟨nd, rfl⟩⟩; (try first | exact ⟨rfl, _, World.drewN_drewN _ _ _⟩ | exact ⟨rfl, _, Eq.trans (World.drewN_drewN _ _ _) (congrArg (World.drewN _) (Nat.add_assoc _ _ _))⟩); have p107 : 0 ≤ ((ji19) : Int) := qT qa1; have q107 : (ji19) < ((rd_L4 l0_0 x20_2).length : Int) := qT qa1; obtain ⟨ad107, e107, hx107_0, hx107_1⟩ := at_T43 HR103_0.out (ji19) p107 q107; obtain rfl : ad104 = ad107 := qa117; have hn107_0 : ad104.block ≠ gb105 := Nat.ne_of_lt (Nat.lt_of_lt_of_le qa39 GW105.out); have hn107_1 : ad104.block ≠ gb105 := Nat.ne_of_lt (Nat.lt_of_lt_of_le qa39 GW105.out); replace hx107_0 := (HB.out.cell (qL w _ hx107_0)).trans hx107_0; replace hx107_1 := (HB.out.cell (qL w _ hx107_1)).trans hx107_1; replace hx107_0 := (cell_far (p := ⟨gb105, 0, none⟩) qa20 (.int .i64 ((rd_T43 (rd_L4 l0_0 x20_2) x27_3).f0))).trans hx107_0; replace hx107_1 := (cell_far (p := ⟨gb105, 0, none⟩) qa20 (.int .i64 ((rd_T43 (rd_L4 l0_0 x20_2) x27_3).f0))).trans hx107_1; replace hx107_0 := (cell_far (p := ⟨gb105, 1, none⟩) qa21 (.int .i64 ((rd_T43 (rd_L4 l0_0 x20_2) x27_3).f1))).trans hx107_0; replace hx107_1 := (cell_far (p := ⟨gb105, 1, none⟩) qa21 (.int .i64 ((rd_T43 (rd_L4 l0_0 x20_2) x27_3).f1))).trans hx107_1; (try have hy107_0 := fun (n_ : Nat) => (show ((((w23.drewN n_).setCell ⟨gb105, 0, none⟩ (.int .i64 ((rd_T43 (rd_L4 l0_0 x20_2) x27_3).f0))).setCell ⟨gb105, 1, none⟩ (.int .i64 ((rd_T43 (rd_L4 l0_0 x20_2) x27_3).f1)))).cell? _ = some _ from hx107_0)); (try have hy107_1 := fun (n_ : Nat) => (show ((((w23.drewN n_).setCell ⟨gb105, 0, none⟩ (.int .i64 ((rd_T43 (rd_L4 l0_0 x20_2) x27_3).f0))).setCell ⟨gb105, 1, none⟩ (.int .i64 ((rd_T43 (rd_L4 l0_0 x20_2) x27_3).f1)))).cell? _ = some _ from hx107_1)); clear hn107_0 hn107_1; replace p107 := eq_true p107; replace q107 := eq_true q107)))
                   go_ret
                   exact ⟨qa64, qH HB.out⟩
                  ·rw [if_neg c22] at H
                   have c22b0 := qnge c22; clear c22; replace H := Option.bind_eq_some_iff.mp H; obtain ⟨t108, A270, H⟩ := H; have A27 := qO A270; clear A270
                   by_cases c28 : t108 = true
                   ·subst c28
                    rw [if_pos rfl] at H; have H' := qO H; clear H; have p104 : 0 ≤ (x27_3 : Int) := qT qa1; have q104 : x27_3 < ((rd_L4 l0_0 x20_2).length : Int) := qT qa1; obtain ⟨ad104, e104, hx104_0, hx104_1⟩ := at_T43 HR103_0.out x27_3 p104 q104
                    cases e104
                    replace hx104_0 := (HB.out.cell (qL w _ hx104_0)).trans hx104_0; replace hx104_1 := (HB.out.cell (qL w _ hx104_1)).trans hx104_1; replace p104 := eq_true p104; replace q104 := eq_true q104
                    go_wp2_with (first | ((with_reducible refine gate_dst (N := 6) rfl ?_); refine qX 6 #[.int .i64 0, .int .i64 0] 43 ?_; intro gb105 hg w29 hbox hb; have hx_ := qHX HB hb qa0; have BK105 := qO (hbox); have GW105 := qO ((qa3 : w.heap.size ≤ gb105)); have GE105 := GW105; have NB101_105 := qO ((qLt hg (qk BK101.out))); have NB105_101 := qO (Ne.symm NB101_105.out); replace BK101 := qO (qB BK101.out hx_ hb); replace HB := qO (below_step (below_step HB.out hx_) hb); clear hx_ hb hbox hg; have hnb30 := NB105_101.out; have hnc30 := NB101_105.out; obtain ⟨hcz31_0, hcz31_1, hfz31_0, hfz31_1⟩ := qb2 BK105.out; obtain ⟨hcz32_0, hcz32_1, hfz32_0, hfz32_1⟩ := qb2 BK101.out) | (go_at_call 65; (with_reducible refine (impl_within.calls ((rd_T43 (rd_L4 l0_0 x20_2) x27_3).f0) 1 a0_1 true _ A16.out).mono ?_); rintro e w' ⟨rfl, ⟨nd, rfl⟩⟩; (try first | exact ⟨rfl, _, World.drewN_drewN _ _ _⟩ | exact ⟨rfl, _, Eq.trans (World.drewN_drewN _ _ _) (congrArg (World.drewN _) (Nat.add_assoc _ _ _))⟩); have p107 : 0 ≤ ((ji19) : Int) := qT qa1; have q107 : (ji19) < ((rd_L4 l0_0 x20_2).length : Int) := qT qa1; obtain ⟨ad107, e107, hx107_0, hx107_1⟩ := at_T43 HR103_0.out (ji19) p107 q107; obtain rfl : ad104 = ad107 := qa117; have hn107_0 : ad104.block ≠ gb105 := Nat.ne_of_lt (Nat.lt_of_lt_of_le qa39 GW105.out); have hn107_1 : ad104.block ≠ gb105 := Nat.ne_of_lt (Nat.lt_of_lt_of_le qa39 GW105.out); replace hx107_0 := (HB.out.cell (qL w _ hx107_0)).trans hx107_0; replace hx107_1 := (HB.out.cell (qL w _ hx107_1)).trans hx107_1; replace hx107_0 := (cell_far (p := ⟨gb105, 0, none⟩) qa20 (.int .i64 ((rd_T43 (rd_L4 l0_0 x20_2) x27_3).f0))).trans hx107_0; replace hx107_1 := (cell_far (p := ⟨gb105, 0, none⟩) qa20 (.int .i64 ((rd_T43 (rd_L4 l0_0 x20_2) x27_3).f0))).trans hx107_1; replace hx107_0 := (cell_far (p := ⟨gb105, 1, none⟩) qa21 (.int .i64 ((rd_T43 (rd_L4 l0_0 x20_2) x27_3).f1))).trans hx107_0; replace hx107_1 := (cell_far (p := ⟨gb105, 1, none⟩) qa21 (.int .i64 ((rd_T43 (rd_L4 l0_0 x20_2) x27_3).f1))).trans hx107_1; (try have hy107_0 := fun (n_ : Nat) => (show ((((w29.drewN n_).setCell ⟨gb105, 0, none⟩ (.int .i64 ((rd_T43 (rd_L4 l0_0 x20_2) x27_3).f0))).setCell ⟨gb105, 1, none⟩ (.int .i64 ((rd_T43 (rd_L4 l0_0 x20_2) x27_3).f1)))).cell? _ = some _ from hx107_0)); (try have hy107_1 := fun (n_ : Nat) => (show ((((w29.drewN n_).setCell ⟨gb105, 0, none⟩ (.int .i64 ((rd_T43 (rd_L4 l0_0 x20_2) x27_3).f0))).setCell ⟨gb105, 1, none⟩ (.int .i64 ((rd_T43 (rd_L4 l0_0 x20_2) x27_3).f1)))).cell? _ = some _ from hx107_1)); clear hn107_0 hn107_1; replace p107 := eq_true p107; replace q107 := eq_true q107) | (go_at_call 66; (with_reducible refine (impl_fits.calls x20_2 ((rd_T43 (rd_L4 l0_0 x20_2) x27_3).f1) true _ A27.out).mono ?_); rintro e w' ⟨rfl, ⟨nd, rfl⟩⟩; (try first | exact ⟨rfl, _, World.drewN_drewN _ _ _⟩ | exact ⟨rfl, _, Eq.trans (World.drewN_drewN _ _ _) (congrArg (World.drewN _) (Nat.add_assoc _ _ _))⟩)))
                    repeat (go_quiet (first | ((with_reducible refine gate_dst (N := 6) rfl ?_); refine qX 6 #[.int .i64 0, .int .i64 0] 43 ?_; intro gb105 hg w29 hbox hb; have BK105 := qO (hbox); have GW105 := qO ((qa38 : w.heap.size ≤ gb105)); have GE105 := qO ((qa38 : w.heap.size ≤ gb105)); have NB101_105 := qO ((qLt hg (qk BK101.out))); have NB105_101 := qO ((qGt hg (qk BK101.out))); replace BK101 := qO (blk_below (qk BK101.out) hb); replace HB := qO (below_step (qH HB.out) hb); clear hb hbox hg; have hnb30 := NB105_101.out; have hnc30 := NB101_105.out; obtain ⟨hcz31_0, hcz31_1, hfz31_0, hfz31_1⟩ := qb2 BK105.out; obtain ⟨hcz32_0, hcz32_1, hfz32_0, hfz32_1⟩ := qb2 BK101.out) | (go_at_call 65; (with_reducible refine (impl_within.calls ((rd_T43 (rd_L4 l0_0 x20_2) x27_3).f0) 1 a0_1 true _ A16.out).mono ?_); rintro e w' ⟨rfl, ⟨nd, rfl⟩⟩; (try first | exact ⟨rfl, _, World.drewN_drewN _ _ _⟩ | exact ⟨rfl, _, Eq.trans (World.drewN_drewN _ _ _) (congrArg (World.drewN _) (Nat.add_assoc _ _ _))⟩); have p107 : 0 ≤ ((ji19) : Int) := qT qa1; have q107 : (ji19) < ((rd_L4 l0_0 x20_2).length : Int) := qT qa1; obtain ⟨ad107, e107, hx107_0, hx107_1⟩ := at_T43 HR103_0.out (ji19) p107 q107; obtain rfl : ad104 = ad107 := qa117; have hn107_0 : ad104.block ≠ gb105 := Nat.ne_of_lt (Nat.lt_of_lt_of_le qa39 GW105.out); have hn107_1 : ad104.block ≠ gb105 := Nat.ne_of_lt (Nat.lt_of_lt_of_le qa39 GW105.out); replace hx107_0 := (HB.out.cell (qL w _ hx107_0)).trans hx107_0; replace hx107_1 := (HB.out.cell (qL w _ hx107_1)).trans hx107_1; replace hx107_0 := (cell_far (p := ⟨gb105, 0, none⟩) qa20 (.int .i64 ((rd_T43 (rd_L4 l0_0 x20_2) x27_3).f0))).trans hx107_0; replace hx107_1 := (cell_far (p := ⟨gb105, 0, none⟩) qa20 (.int .i64 ((rd_T43 (rd_L4 l0_0 x20_2) x27_3).f0))).trans hx107_1; replace hx107_0 := (cell_far (p := ⟨gb105, 1, none⟩) qa21 (.int .i64 ((rd_T43 (rd_L4 l0_0 x20_2) x27_3).f1))).trans hx107_0; replace hx107_1 := (cell_far (p := ⟨gb105, 1, none⟩) qa21 (.int .i64 ((rd_T43 (rd_L4 l0_0 x20_2) x27_3).f1))).trans hx107_1; (try have hy107_0 := fun (n_ : Nat) => (show ((((w29.drewN n_).setCell ⟨gb105, 0, none⟩ (.int .i64 ((rd_T43 (rd_L4 l0_0 x20_2) x27_3).f0))).setCell ⟨gb105, 1, none⟩ (.int .i64 ((rd_T43 (rd_L4 l0_0 x20_2) x27_3).f1)))).cell? _ = some _ from hx107_0)); (try have hy107_1 := fun (n_ : Nat) => (show ((((w29.drewN n_).setCell ⟨gb105, 0, none⟩ (.int .i64 ((rd_T43 (rd_L4 l0_0 x20_2) x27_3).f0))).setCell ⟨gb105, 1, none⟩ (.int .i64 ((rd_T43 (rd_L4 l0_0 x20_2) x27_3).f1)))).cell? _ = some _ from hx107_1)); clear hn107_0 hn107_1; replace p107 := eq_true p107; replace q107 := eq_true q107) | (go_at_call 66; (with_reducible refine (impl_fits.calls x20_2 ((rd_T43 (rd_L4 l0_0 x20_2) x27_3).f1) true _ A27.out).mono ?_); rintro e w' ⟨rfl, ⟨nd, rfl⟩⟩; (try first | exact ⟨rfl, _, World.drewN_drewN _ _ _⟩ | exact ⟨rfl, _, Eq.trans (World.drewN_drewN _ _ _) (congrArg (World.drewN _) (Nat.add_assoc _ _ _))⟩))); try go_wp2_with (first | ((with_reducible refine gate_dst (N := 6) rfl ?_); refine qX 6 #[.int .i64 0, .int .i64 0] 43 ?_; intro gb105 hg w29 hbox hb; have hx_ := qHX HB hb qa0; have BK105 := qO (hbox); have GW105 := qO ((qa3 : w.heap.size ≤ gb105)); have GE105 := GW105; have NB101_105 := qO ((qLt hg (qk BK101.out))); have NB105_101 := qO (Ne.symm NB101_105.out); replace BK101 := qO (qB BK101.out hx_ hb); replace HB := qO (below_step (below_step HB.out hx_) hb); clear hx_ hb hbox hg; have hnb30 := NB105_101.out; have hnc30 := NB101_105.out; obtain ⟨hcz31_0, hcz31_1, hfz31_0, hfz31_1⟩ := qb2 BK105.out; obtain ⟨hcz32_0, hcz32_1, hfz32_0, hfz32_1⟩ := qb2 BK101.out) | (go_at_call 65; (with_reducible refine (impl_within.calls ((rd_T43 (rd_L4 l0_0 x20_2) x27_3).f0) 1 a0_1 true _ A16.out).mono ?_); rintro e w' ⟨rfl, ⟨nd, rfl⟩⟩; (try first | exact ⟨rfl, _, World.drewN_drewN _ _ _⟩ | exact ⟨rfl, _, Eq.trans (World.drewN_drewN _ _ _) (congrArg (World.drewN _) (Nat.add_assoc _ _ _))⟩); have p107 : 0 ≤ ((ji19) : Int) := qT qa1; have q107 : (ji19) < ((rd_L4 l0_0 x20_2).length : Int) := qT qa1; obtain ⟨ad107, e107, hx107_0, hx107_1⟩ := at_T43 HR103_0.out (ji19) p107 q107; obtain rfl : ad104 = ad107 := qa117; have hn107_0 : ad104.block ≠ gb105 := Nat.ne_of_lt (Nat.lt_of_lt_of_le qa39 GW105.out); have hn107_1 : ad104.block ≠ gb105 := Nat.ne_of_lt (Nat.lt_of_lt_of_le qa39 GW105.out); replace hx107_0 := (HB.out.cell (qL w _ hx107_0)).trans hx107_0; replace hx107_1 := (HB.out.cell (qL w _ hx107_1)).trans hx107_1; replace hx107_0 := (cell_far (p := ⟨gb105, 0, none⟩) qa20 (.int .i64 ((rd_T43 (rd_L4 l0_0 x20_2) x27_3).f0))).trans hx107_0; replace hx107_1 := (cell_far (p := ⟨gb105, 0, none⟩) qa20 (.int .i64 ((rd_T43 (rd_L4 l0_0 x20_2) x27_3).f0))).trans hx107_1; replace hx107_0 := (cell_far (p := ⟨gb105, 1, none⟩) qa21 (.int .i64 ((rd_T43 (rd_L4 l0_0 x20_2) x27_3).f1))).trans hx107_0; replace hx107_1 := (cell_far (p := ⟨gb105, 1, none⟩) qa21 (.int .i64 ((rd_T43 (rd_L4 l0_0 x20_2) x27_3).f1))).trans hx107_1; (try have hy107_0 := fun (n_ : Nat) => (show ((((w29.drewN n_).setCell ⟨gb105, 0, none⟩ (.int .i64 ((rd_T43 (rd_L4 l0_0 x20_2) x27_3).f0))).setCell ⟨gb105, 1, none⟩ (.int .i64 ((rd_T43 (rd_L4 l0_0 x20_2) x27_3).f1)))).cell? _ = some _ from hx107_0)); (try have hy107_1 := fun (n_ : Nat) => (show ((((w29.drewN n_).setCell ⟨gb105, 0, none⟩ (.int .i64 ((rd_T43 (rd_L4 l0_0 x20_2) x27_3).f0))).setCell ⟨gb105, 1, none⟩ (.int .i64 ((rd_T43 (rd_L4 l0_0 x20_2) x27_3).f1)))).cell? _ = some _ from hx107_1)); clear hn107_0 hn107_1; replace p107 := eq_true p107; replace q107 := eq_true q107) | (go_at_call 66; (with_reducible refine (impl_fits.calls x20_2 ((rd_T43 (rd_L4 l0_0 x20_2) x27_3).f1) true _ A27.out).mono ?_); rintro e w' ⟨rfl, ⟨nd, rfl⟩⟩; (try first | exact ⟨rfl, _, World.drewN_drewN _ _ _⟩ | exact ⟨rfl, _, Eq.trans (World.drewN_drewN _ _ _) (congrArg (World.drewN _) (Nat.add_assoc _ _ _))⟩))))
                    go_roundg k3
                    case measure => have := HJ1.out; have := HK2.out; have := HK3.out; omega
                    case rel => exact ⟨(wrap64 (x27_3 + 1)), qa6, H', ⟨qa83⟩, ⟨qF (qF BK101.out NB101_105.out) NB101_105.out⟩, ⟨qH HB.out⟩⟩
                   ·replace c28 := Bool.eq_false_iff.mpr c28
                    subst c28; rw [qfn] at H; obtain rfl := Option.some.inj H; have p104 : 0 ≤ (x27_3 : Int) := qT qa1; have q104 : x27_3 < ((rd_L4 l0_0 x20_2).length : Int) := qT qa1; obtain ⟨ad104, e104, hx104_0, hx104_1⟩ := at_T43 HR103_0.out x27_3 p104 q104
                    cases e104
                    replace hx104_0 := (HB.out.cell (qL w _ hx104_0)).trans hx104_0; replace hx104_1 := (HB.out.cell (qL w _ hx104_1)).trans hx104_1; replace p104 := eq_true p104; replace q104 := eq_true q104
                    go_wp2_with (first | ((with_reducible refine gate_dst (N := 6) rfl ?_); refine qX 6 #[.int .i64 0, .int .i64 0] 43 ?_; intro gb105 hg w33 hbox hb; have hx_ := qHX HB hb qa0; have BK105 := qO (hbox); have GW105 := qO ((qa3 : w.heap.size ≤ gb105)); have GE105 := GW105; have NB101_105 := qO ((qLt hg (qk BK101.out))); have NB105_101 := qO (Ne.symm NB101_105.out); replace BK101 := qO (qB BK101.out hx_ hb); replace HB := qO (below_step (below_step HB.out hx_) hb); clear hx_ hb hbox hg; have hnb34 := NB105_101.out; have hnc34 := NB101_105.out; obtain ⟨hcz35_0, hcz35_1, hfz35_0, hfz35_1⟩ := qb2 BK105.out; obtain ⟨hcz36_0, hcz36_1, hfz36_0, hfz36_1⟩ := qb2 BK101.out) | (go_at_call 65; (with_reducible refine (impl_within.calls ((rd_T43 (rd_L4 l0_0 x20_2) x27_3).f0) 1 a0_1 true _ A16.out).mono ?_); rintro e w' ⟨rfl, ⟨nd, rfl⟩⟩; (try first | exact ⟨rfl, _, World.drewN_drewN _ _ _⟩ | exact ⟨rfl, _, Eq.trans (World.drewN_drewN _ _ _) (congrArg (World.drewN _) (Nat.add_assoc _ _ _))⟩); have p107 : 0 ≤ ((ji19) : Int) := qT qa1; have q107 : (ji19) < ((rd_L4 l0_0 x20_2).length : Int) := qT qa1; obtain ⟨ad107, e107, hx107_0, hx107_1⟩ := at_T43 HR103_0.out (ji19) p107 q107; obtain rfl : ad104 = ad107 := qa117; have hn107_0 : ad104.block ≠ gb105 := Nat.ne_of_lt (Nat.lt_of_lt_of_le qa39 GW105.out); have hn107_1 : ad104.block ≠ gb105 := Nat.ne_of_lt (Nat.lt_of_lt_of_le qa39 GW105.out); replace hx107_0 := (HB.out.cell (qL w _ hx107_0)).trans hx107_0; replace hx107_1 := (HB.out.cell (qL w _ hx107_1)).trans hx107_1; replace hx107_0 := (cell_far (p := ⟨gb105, 0, none⟩) qa20 (.int .i64 ((rd_T43 (rd_L4 l0_0 x20_2) x27_3).f0))).trans hx107_0; replace hx107_1 := (cell_far (p := ⟨gb105, 0, none⟩) qa20 (.int .i64 ((rd_T43 (rd_L4 l0_0 x20_2) x27_3).f0))).trans hx107_1; replace hx107_0 := (cell_far (p := ⟨gb105, 1, none⟩) qa21 (.int .i64 ((rd_T43 (rd_L4 l0_0 x20_2) x27_3).f1))).trans hx107_0; replace hx107_1 := (cell_far (p := ⟨gb105, 1, none⟩) qa21 (.int .i64 ((rd_T43 (rd_L4 l0_0 x20_2) x27_3).f1))).trans hx107_1; (try have hy107_0 := fun (n_ : Nat) => (show ((((w33.drewN n_).setCell ⟨gb105, 0, none⟩ (.int .i64 ((rd_T43 (rd_L4 l0_0 x20_2) x27_3).f0))).setCell ⟨gb105, 1, none⟩ (.int .i64 ((rd_T43 (rd_L4 l0_0 x20_2) x27_3).f1)))).cell? _ = some _ from hx107_0)); (try have hy107_1 := fun (n_ : Nat) => (show ((((w33.drewN n_).setCell ⟨gb105, 0, none⟩ (.int .i64 ((rd_T43 (rd_L4 l0_0 x20_2) x27_3).f0))).setCell ⟨gb105, 1, none⟩ (.int .i64 ((rd_T43 (rd_L4 l0_0 x20_2) x27_3).f1)))).cell? _ = some _ from hx107_1)); clear hn107_0 hn107_1; replace p107 := eq_true p107; replace q107 := eq_true q107) | (go_at_call 66; (with_reducible refine (impl_fits.calls x20_2 ((rd_T43 (rd_L4 l0_0 x20_2) x27_3).f1) false _ A27.out).mono ?_); rintro e w' ⟨rfl, ⟨nd, rfl⟩⟩; (try first | exact ⟨rfl, _, World.drewN_drewN _ _ _⟩ | exact ⟨rfl, _, Eq.trans (World.drewN_drewN _ _ _) (congrArg (World.drewN _) (Nat.add_assoc _ _ _))⟩)))
                    repeat (go_quiet (first | ((with_reducible refine gate_dst (N := 6) rfl ?_); refine qX 6 #[.int .i64 0, .int .i64 0] 43 ?_; intro gb105 hg w33 hbox hb; have BK105 := qO (hbox); have GW105 := qO ((qa38 : w.heap.size ≤ gb105)); have GE105 := qO ((qa38 : w.heap.size ≤ gb105)); have NB101_105 := qO ((qLt hg (qk BK101.out))); have NB105_101 := qO ((qGt hg (qk BK101.out))); replace BK101 := qO (blk_below (qk BK101.out) hb); replace HB := qO (below_step (qH HB.out) hb); clear hb hbox hg; have hnb34 := NB105_101.out; have hnc34 := NB101_105.out; obtain ⟨hcz35_0, hcz35_1, hfz35_0, hfz35_1⟩ := qb2 BK105.out; obtain ⟨hcz36_0, hcz36_1, hfz36_0, hfz36_1⟩ := qb2 BK101.out) | (go_at_call 65; (with_reducible refine (impl_within.calls ((rd_T43 (rd_L4 l0_0 x20_2) x27_3).f0) 1 a0_1 true _ A16.out).mono ?_); rintro e w' ⟨rfl, ⟨nd, rfl⟩⟩; (try first | exact ⟨rfl, _, World.drewN_drewN _ _ _⟩ | exact ⟨rfl, _, Eq.trans (World.drewN_drewN _ _ _) (congrArg (World.drewN _) (Nat.add_assoc _ _ _))⟩); have p107 : 0 ≤ ((ji19) : Int) := qT qa1; have q107 : (ji19) < ((rd_L4 l0_0 x20_2).length : Int) := qT qa1; obtain ⟨ad107, e107, hx107_0, hx107_1⟩ := at_T43 HR103_0.out (ji19) p107 q107; obtain rfl : ad104 = ad107 := qa117; have hn107_0 : ad104.block ≠ gb105 := Nat.ne_of_lt (Nat.lt_of_lt_of_le qa39 GW105.out); have hn107_1 : ad104.block ≠ gb105 := Nat.ne_of_lt (Nat.lt_of_lt_of_le qa39 GW105.out); replace hx107_0 := (HB.out.cell (qL w _ hx107_0)).trans hx107_0; replace hx107_1 := (HB.out.cell (qL w _ hx107_1)).trans hx107_1; replace hx107_0 := (cell_far (p := ⟨gb105, 0, none⟩) qa20 (.int .i64 ((rd_T43 (rd_L4 l0_0 x20_2) x27_3).f0))).trans hx107_0; replace hx107_1 := (cell_far (p := ⟨gb105, 0, none⟩) qa20 (.int .i64 ((rd_T43 (rd_L4 l0_0 x20_2) x27_3).f0))).trans hx107_1; replace hx107_0 := (cell_far (p := ⟨gb105, 1, none⟩) qa21 (.int .i64 ((rd_T43 (rd_L4 l0_0 x20_2) x27_3).f1))).trans hx107_0; replace hx107_1 := (cell_far (p := ⟨gb105, 1, none⟩) qa21 (.int .i64 ((rd_T43 (rd_L4 l0_0 x20_2) x27_3).f1))).trans hx107_1; (try have hy107_0 := fun (n_ : Nat) => (show ((((w33.drewN n_).setCell ⟨gb105, 0, none⟩ (.int .i64 ((rd_T43 (rd_L4 l0_0 x20_2) x27_3).f0))).setCell ⟨gb105, 1, none⟩ (.int .i64 ((rd_T43 (rd_L4 l0_0 x20_2) x27_3).f1)))).cell? _ = some _ from hx107_0)); (try have hy107_1 := fun (n_ : Nat) => (show ((((w33.drewN n_).setCell ⟨gb105, 0, none⟩ (.int .i64 ((rd_T43 (rd_L4 l0_0 x20_2) x27_3).f0))).setCell ⟨gb105, 1, none⟩ (.int .i64 ((rd_T43 (rd_L4 l0_0 x20_2) x27_3).f1)))).cell? _ = some _ from hx107_1)); clear hn107_0 hn107_1; replace p107 := eq_true p107; replace q107 := eq_true q107) | (go_at_call 66; (with_reducible refine (impl_fits.calls x20_2 ((rd_T43 (rd_L4 l0_0 x20_2) x27_3).f1) false _ A27.out).mono ?_); rintro e w' ⟨rfl, ⟨nd, rfl⟩⟩; (try first | exact ⟨rfl, _, World.drewN_drewN _ _ _⟩ | exact ⟨rfl, _, Eq.trans (World.drewN_drewN _ _ _) (congrArg (World.drewN _) (Nat.add_assoc _ _ _))⟩))); try go_wp2_with (first | ((with_reducible refine gate_dst (N := 6) rfl ?_); refine qX 6 #[.int .i64 0, .int .i64 0] 43 ?_; intro gb105 hg w33 hbox hb; have hx_ := qHX HB hb qa0; have BK105 := qO (hbox); have GW105 := qO ((qa3 : w.heap.size ≤ gb105)); have GE105 := GW105; have NB101_105 := qO ((qLt hg (qk BK101.out))); have NB105_101 := qO (Ne.symm NB101_105.out); replace BK101 := qO (qB BK101.out hx_ hb); replace HB := qO (below_step (below_step HB.out hx_) hb); clear hx_ hb hbox hg; have hnb34 := NB105_101.out; have hnc34 := NB101_105.out; obtain ⟨hcz35_0, hcz35_1, hfz35_0, hfz35_1⟩ := qb2 BK105.out; obtain ⟨hcz36_0, hcz36_1, hfz36_0, hfz36_1⟩ := qb2 BK101.out) | (go_at_call 65; (with_reducible refine (impl_within.calls ((rd_T43 (rd_L4 l0_0 x20_2) x27_3).f0) 1 a0_1 true _ A16.out).mono ?_); rintro e w' ⟨rfl, ⟨nd, rfl⟩⟩; (try first | exact ⟨rfl, _, World.drewN_drewN _ _ _⟩ | exact ⟨rfl, _, Eq.trans (World.drewN_drewN _ _ _) (congrArg (World.drewN _) (Nat.add_assoc _ _ _))⟩); have p107 : 0 ≤ ((ji19) : Int) := qT qa1; have q107 : (ji19) < ((rd_L4 l0_0 x20_2).length : Int) := qT qa1; obtain ⟨ad107, e107, hx107_0, hx107_1⟩ := at_T43 HR103_0.out (ji19) p107 q107; obtain rfl : ad104 = ad107 := qa117; have hn107_0 : ad104.block ≠ gb105 := Nat.ne_of_lt (Nat.lt_of_lt_of_le qa39 GW105.out); have hn107_1 : ad104.block ≠ gb105 := Nat.ne_of_lt (Nat.lt_of_lt_of_le qa39 GW105.out); replace hx107_0 := (HB.out.cell (qL w _ hx107_0)).trans hx107_0; replace hx107_1 := (HB.out.cell (qL w _ hx107_1)).trans hx107_1; replace hx107_0 := (cell_far (p := ⟨gb105, 0, none⟩) qa20 (.int .i64 ((rd_T43 (rd_L4 l0_0 x20_2) x27_3).f0))).trans hx107_0; replace hx107_1 := (cell_far (p := ⟨gb105, 0, none⟩) qa20 (.int .i64 ((rd_T43 (rd_L4 l0_0 x20_2) x27_3).f0))).trans hx107_1; replace hx107_0 := (cell_far (p := ⟨gb105, 1, none⟩) qa21 (.int .i64 ((rd_T43 (rd_L4 l0_0 x20_2) x27_3).f1))).trans hx107_0; replace hx107_1 := (cell_far (p := ⟨gb105, 1, none⟩) qa21 (.int .i64 ((rd_T43 (rd_L4 l0_0 x20_2) x27_3).f1))).trans hx107_1; (try have hy107_0 := fun (n_ : Nat) => (show ((((w33.drewN n_).setCell ⟨gb105, 0, none⟩ (.int .i64 ((rd_T43 (rd_L4 l0_0 x20_2) x27_3).f0))).setCell ⟨gb105, 1, none⟩ (.int .i64 ((rd_T43 (rd_L4 l0_0 x20_2) x27_3).f1)))).cell? _ = some _ from hx107_0)); (try have hy107_1 := fun (n_ : Nat) => (show ((((w33.drewN n_).setCell ⟨gb105, 0, none⟩ (.int .i64 ((rd_T43 (rd_L4 l0_0 x20_2) x27_3).f0))).setCell ⟨gb105, 1, none⟩ (.int .i64 ((rd_T43 (rd_L4 l0_0 x20_2) x27_3).f1)))).cell? _ = some _ from hx107_1)); clear hn107_0 hn107_1; replace p107 := eq_true p107; replace q107 := eq_true q107) | (go_at_call 66; (with_reducible refine (impl_fits.calls x20_2 ((rd_T43 (rd_L4 l0_0 x20_2) x27_3).f1) false _ A27.out).mono ?_); rintro e w' ⟨rfl, ⟨nd, rfl⟩⟩; (try first | exact ⟨rfl, _, World.drewN_drewN _ _ _⟩ | exact ⟨rfl, _, Eq.trans (World.drewN_drewN _ _ _) (congrArg (World.drewN _) (Nat.add_assoc _ _ _))⟩))))
                    go_ret
                    exact ⟨qa64, qH HB.out⟩
                 ·rw [if_neg c21] at H
                  exact absurd H qa51
                ·rw [if_neg c20] at H
                 exact absurd H qa51
               ·rw [if_neg c18] at H
                have c18b0 := qngt c18; clear c18; replace H := Option.bind_eq_some_iff.mp H; obtain ⟨t109, A370, H⟩ := H; have A37 := qO A370; clear A370
                by_cases c38 : t109 = true
                ·subst c38
                 rw [if_pos rfl] at H; have H' := qO H; clear H; have p104 : 0 ≤ (x27_3 : Int) := qT qa1; have q104 : x27_3 < ((rd_L4 l0_0 x20_2).length : Int) := qT qa1; obtain ⟨ad104, e104, hx104_0, hx104_1⟩ := at_T43 HR103_0.out x27_3 p104 q104
                 cases e104
                 replace hx104_0 := (HB.out.cell (qL w _ hx104_0)).trans hx104_0; replace hx104_1 := (HB.out.cell (qL w _ hx104_1)).trans hx104_1; replace p104 := eq_true p104; replace q104 := eq_true q104
                 go_wp2_with (first | ((with_reducible refine gate_dst (N := 6) rfl ?_); refine qX 6 #[.int .i64 0, .int .i64 0] 43 ?_; intro gb105 hg w39 hbox hb; have hx_ := qHX HB hb qa0; have BK105 := qO (hbox); have GW105 := qO ((qa3 : w.heap.size ≤ gb105)); have GE105 := GW105; have NB101_105 := qO ((qLt hg (qk BK101.out))); have NB105_101 := qO (Ne.symm NB101_105.out); replace BK101 := qO (qB BK101.out hx_ hb); replace HB := qO (below_step (below_step HB.out hx_) hb); clear hx_ hb hbox hg; have hnb40 := NB105_101.out; have hnc40 := NB101_105.out; obtain ⟨hcz41_0, hcz41_1, hfz41_0, hfz41_1⟩ := qb2 BK105.out; obtain ⟨hcz42_0, hcz42_1, hfz42_0, hfz42_1⟩ := qb2 BK101.out) | (go_at_call 65; (with_reducible refine (impl_within.calls ((rd_T43 (rd_L4 l0_0 x20_2) x27_3).f0) 1 a0_1 true _ A16.out).mono ?_); rintro e w' ⟨rfl, ⟨nd, rfl⟩⟩; (try first | exact ⟨rfl, _, World.drewN_drewN _ _ _⟩ | exact ⟨rfl, _, Eq.trans (World.drewN_drewN _ _ _) (congrArg (World.drewN _) (Nat.add_assoc _ _ _))⟩)) | (go_at_call 66; (with_reducible refine (impl_fits.calls x20_2 ((rd_T43 (rd_L4 l0_0 x20_2) x27_3).f1) true _ A37.out).mono ?_); rintro e w' ⟨rfl, ⟨nd, rfl⟩⟩; (try first | exact ⟨rfl, _, World.drewN_drewN _ _ _⟩ | exact ⟨rfl, _, Eq.trans (World.drewN_drewN _ _ _) (congrArg (World.drewN _) (Nat.add_assoc _ _ _))⟩)))
                 repeat (go_quiet (first | ((with_reducible refine gate_dst (N := 6) rfl ?_); refine qX 6 #[.int .i64 0, .int .i64 0] 43 ?_; intro gb105 hg w39 hbox hb; have BK105 := qO (hbox); have GW105 := qO ((qa38 : w.heap.size ≤ gb105)); have GE105 := qO ((qa38 : w.heap.size ≤ gb105)); have NB101_105 := qO ((qLt hg (qk BK101.out))); have NB105_101 := qO ((qGt hg (qk BK101.out))); replace BK101 := qO (blk_below (qk BK101.out) hb); replace HB := qO (below_step (qH HB.out) hb); clear hb hbox hg; have hnb40 := NB105_101.out; have hnc40 := NB101_105.out; obtain ⟨hcz41_0, hcz41_1, hfz41_0, hfz41_1⟩ := qb2 BK105.out; obtain ⟨hcz42_0, hcz42_1, hfz42_0, hfz42_1⟩ := qb2 BK101.out) | (go_at_call 65; (with_reducible refine (impl_within.calls ((rd_T43 (rd_L4 l0_0 x20_2) x27_3).f0) 1 a0_1 true _ A16.out).mono ?_); rintro e w' ⟨rfl, ⟨nd, rfl⟩⟩; (try first | exact ⟨rfl, _, World.drewN_drewN _ _ _⟩ | exact ⟨rfl, _, Eq.trans (World.drewN_drewN _ _ _) (congrArg (World.drewN _) (Nat.add_assoc _ _ _))⟩)) | (go_at_call 66; (with_reducible refine (impl_fits.calls x20_2 ((rd_T43 (rd_L4 l0_0 x20_2) x27_3).f1) true _ A37.out).mono ?_); rintro e w' ⟨rfl, ⟨nd, rfl⟩⟩; (try first | exact ⟨rfl, _, World.drewN_drewN _ _ _⟩ | exact ⟨rfl, _, Eq.trans (World.drewN_drewN _ _ _) (congrArg (World.drewN _) (Nat.add_assoc _ _ _))⟩))); try go_wp2_with (first | ((with_reducible refine gate_dst (N := 6) rfl ?_); refine qX 6 #[.int .i64 0, .int .i64 0] 43 ?_; intro gb105 hg w39 hbox hb; have hx_ := qHX HB hb qa0; have BK105 := qO (hbox); have GW105 := qO ((qa3 : w.heap.size ≤ gb105)); have GE105 := GW105; have NB101_105 := qO ((qLt hg (qk BK101.out))); have NB105_101 := qO (Ne.symm NB101_105.out); replace BK101 := qO (qB BK101.out hx_ hb); replace HB := qO (below_step (below_step HB.out hx_) hb); clear hx_ hb hbox hg; have hnb40 := NB105_101.out; have hnc40 := NB101_105.out; obtain ⟨hcz41_0, hcz41_1, hfz41_0, hfz41_1⟩ := qb2 BK105.out; obtain ⟨hcz42_0, hcz42_1, hfz42_0, hfz42_1⟩ := qb2 BK101.out) | (go_at_call 65; (with_reducible refine (impl_within.calls ((rd_T43 (rd_L4 l0_0 x20_2) x27_3).f0) 1 a0_1 true _ A16.out).mono ?_); rintro e w' ⟨rfl, ⟨nd, rfl⟩⟩; (try first | exact ⟨rfl, _, World.drewN_drewN _ _ _⟩ | exact ⟨rfl, _, Eq.trans (World.drewN_drewN _ _ _) (congrArg (World.drewN _) (Nat.add_assoc _ _ _))⟩)) | (go_at_call 66; (with_reducible refine (impl_fits.calls x20_2 ((rd_T43 (rd_L4 l0_0 x20_2) x27_3).f1) true _ A37.out).mono ?_); rintro e w' ⟨rfl, ⟨nd, rfl⟩⟩; (try first | exact ⟨rfl, _, World.drewN_drewN _ _ _⟩ | exact ⟨rfl, _, Eq.trans (World.drewN_drewN _ _ _) (congrArg (World.drewN _) (Nat.add_assoc _ _ _))⟩))))
                 go_roundg k3
                 case measure => have := HJ1.out; have := HK2.out; have := HK3.out; omega
                 case rel => exact ⟨(wrap64 (x27_3 + 1)), qa6, H', ⟨qa83⟩, ⟨qF (qF BK101.out NB101_105.out) NB101_105.out⟩, ⟨qH HB.out⟩⟩
                ·replace c38 := Bool.eq_false_iff.mpr c38
                 subst c38; rw [qfn] at H; obtain rfl := Option.some.inj H; have p104 : 0 ≤ (x27_3 : Int) := qT qa1; have q104 : x27_3 < ((rd_L4 l0_0 x20_2).length : Int) := qT qa1; obtain ⟨ad104, e104, hx104_0, hx104_1⟩ := at_T43 HR103_0.out x27_3 p104 q104
                 cases e104
                 replace hx104_0 := (HB.out.cell (qL w _ hx104_0)).trans hx104_0; replace hx104_1 := (HB.out.cell (qL w _ hx104_1)).trans hx104_1; replace p104 := eq_true p104; replace q104 := eq_true q104
                 go_wp2_with (first | ((with_reducible refine gate_dst (N := 6) rfl ?_); refine qX 6 #[.int .i64 0, .int .i64 0] 43 ?_; intro gb105 hg w43 hbox hb; have hx_ := qHX HB hb qa0; have BK105 := qO (hbox); have GW105 := qO ((qa3 : w.heap.size ≤ gb105)); have GE105 := GW105; have NB101_105 := qO ((qLt hg (qk BK101.out))); have NB105_101 := qO (Ne.symm NB101_105.out); replace BK101 := qO (qB BK101.out hx_ hb); replace HB := qO (below_step (below_step HB.out hx_) hb); clear hx_ hb hbox hg; have hnb44 := NB105_101.out; have hnc44 := NB101_105.out; obtain ⟨hcz45_0, hcz45_1, hfz45_0, hfz45_1⟩ := qb2 BK105.out; obtain ⟨hcz46_0, hcz46_1, hfz46_0, hfz46_1⟩ := qb2 BK101.out) | (go_at_call 65; (with_reducible refine (impl_within.calls ((rd_T43 (rd_L4 l0_0 x20_2) x27_3).f0) 1 a0_1 true _ A16.out).mono ?_); rintro e w' ⟨rfl, ⟨nd, rfl⟩⟩; (try first | exact ⟨rfl, _, World.drewN_drewN _ _ _⟩ | exact ⟨rfl, _, Eq.trans (World.drewN_drewN _ _ _) (congrArg (World.drewN _) (Nat.add_assoc _ _ _))⟩)) | (go_at_call 66; (with_reducible refine (impl_fits.calls x20_2 ((rd_T43 (rd_L4 l0_0 x20_2) x27_3).f1) false _ A37.out).mono ?_); rintro e w' ⟨rfl, ⟨nd, rfl⟩⟩; (try first | exact ⟨rfl, _, World.drewN_drewN _ _ _⟩ | exact ⟨rfl, _, Eq.trans (World.drewN_drewN _ _ _) (congrArg (World.drewN _) (Nat.add_assoc _ _ _))⟩)))
                 repeat (go_quiet (first | ((with_reducible refine gate_dst (N := 6) rfl ?_); refine qX 6 #[.int .i64 0, .int .i64 0] 43 ?_; intro gb105 hg w43 hbox hb; have BK105 := qO (hbox); have GW105 := qO ((qa38 : w.heap.size ≤ gb105)); have GE105 := qO ((qa38 : w.heap.size ≤ gb105)); have NB101_105 := qO ((qLt hg (qk BK101.out))); have NB105_101 := qO ((qGt hg (qk BK101.out))); replace BK101 := qO (blk_below (qk BK101.out) hb); replace HB := qO (below_step (qH HB.out) hb); clear hb hbox hg; have hnb44 := NB105_101.out; have hnc44 := NB101_105.out; obtain ⟨hcz45_0, hcz45_1, hfz45_0, hfz45_1⟩ := qb2 BK105.out; obtain ⟨hcz46_0, hcz46_1, hfz46_0, hfz46_1⟩ := qb2 BK101.out) | (go_at_call 65; (with_reducible refine (impl_within.calls ((rd_T43 (rd_L4 l0_0 x20_2) x27_3).f0) 1 a0_1 true _ A16.out).mono ?_); rintro e w' ⟨rfl, ⟨nd, rfl⟩⟩; (try first | exact ⟨rfl, _, World.drewN_drewN _ _ _⟩ | exact ⟨rfl, _, Eq.trans (World.drewN_drewN _ _ _) (congrArg (World.drewN _) (Nat.add_assoc _ _ _))⟩)) | (go_at_call 66; (with_reducible refine (impl_fits.calls x20_2 ((rd_T43 (rd_L4 l0_0 x20_2) x27_3).f1) false _ A37.out).mono ?_); rintro e w' ⟨rfl, ⟨nd, rfl⟩⟩; (try first | exact ⟨rfl, _, World.drewN_drewN _ _ _⟩ | exact ⟨rfl, _, Eq.trans (World.drewN_drewN _ _ _) (congrArg (World.drewN _) (Nat.add_assoc _ _ _))⟩))); try go_wp2_with (first | ((with_reducible refine gate_dst (N := 6) rfl ?_); refine qX 6 #[.int .i64 0, .int .i64 0] 43 ?_; intro gb105 hg w43 hbox hb; have hx_ := qHX HB hb qa0; have BK105 := qO (hbox); have GW105 := qO ((qa3 : w.heap.size ≤ gb105)); have GE105 := GW105; have NB101_105 := qO ((qLt hg (qk BK101.out))); have NB105_101 := qO (Ne.symm NB101_105.out); replace BK101 := qO (qB BK101.out hx_ hb); replace HB := qO (below_step (below_step HB.out hx_) hb); clear hx_ hb hbox hg; have hnb44 := NB105_101.out; have hnc44 := NB101_105.out; obtain ⟨hcz45_0, hcz45_1, hfz45_0, hfz45_1⟩ := qb2 BK105.out; obtain ⟨hcz46_0, hcz46_1, hfz46_0, hfz46_1⟩ := qb2 BK101.out) | (go_at_call 65; (with_reducible refine (impl_within.calls ((rd_T43 (rd_L4 l0_0 x20_2) x27_3).f0) 1 a0_1 true _ A16.out).mono ?_); rintro e w' ⟨rfl, ⟨nd, rfl⟩⟩; (try first | exact ⟨rfl, _, World.drewN_drewN _ _ _⟩ | exact ⟨rfl, _, Eq.trans (World.drewN_drewN _ _ _) (congrArg (World.drewN _) (Nat.add_assoc _ _ _))⟩)) | (go_at_call 66; (with_reducible refine (impl_fits.calls x20_2 ((rd_T43 (rd_L4 l0_0 x20_2) x27_3).f1) false _ A37.out).mono ?_); rintro e w' ⟨rfl, ⟨nd, rfl⟩⟩; (try first | exact ⟨rfl, _, World.drewN_drewN _ _ _⟩ | exact ⟨rfl, _, Eq.trans (World.drewN_drewN _ _ _) (congrArg (World.drewN _) (Nat.add_assoc _ _ _))⟩))))
                 go_ret
                 exact ⟨qa2, qH HB.out⟩
              ·replace c17 := Bool.eq_false_iff.mpr c17
               subst c17; rw [qfn] at H; obtain rfl := Option.some.inj H; have p104 : 0 ≤ (x27_3 : Int) := qT qa1; have q104 : x27_3 < ((rd_L4 l0_0 x20_2).length : Int) := qT qa1; obtain ⟨ad104, e104, hx104_0, hx104_1⟩ := at_T43 HR103_0.out x27_3 p104 q104
               cases e104
               replace hx104_0 := (HB.out.cell (qL w _ hx104_0)).trans hx104_0; replace hx104_1 := (HB.out.cell (qL w _ hx104_1)).trans hx104_1; replace p104 := eq_true p104; replace q104 := eq_true q104
               go_wp2_with (first | ((with_reducible refine gate_dst (N := 6) rfl ?_); refine qX 6 #[.int .i64 0, .int .i64 0] 43 ?_; intro gb105 hg w47 hbox hb; have hx_ := qHX HB hb qa0; have BK105 := qO (hbox); have GW105 := qO ((qa3 : w.heap.size ≤ gb105)); have GE105 := GW105; have NB101_105 := qO ((qLt hg (qk BK101.out))); have NB105_101 := qO (Ne.symm NB101_105.out); replace BK101 := qO (qB BK101.out hx_ hb); replace HB := qO (below_step (below_step HB.out hx_) hb); clear hx_ hb hbox hg; have hnb48 := NB105_101.out; have hnc48 := NB101_105.out; obtain ⟨hcz49_0, hcz49_1, hfz49_0, hfz49_1⟩ := qb2 BK105.out; obtain ⟨hcz50_0, hcz50_1, hfz50_0, hfz50_1⟩ := qb2 BK101.out) | (go_at_call 65; (with_reducible refine (impl_within.calls ((rd_T43 (rd_L4 l0_0 x20_2) x27_3).f0) 1 a0_1 false _ A16.out).mono ?_); rintro e w' ⟨rfl, ⟨nd, rfl⟩⟩; (try first | exact ⟨rfl, _, World.drewN_drewN _ _ _⟩ | exact ⟨rfl, _, Eq.trans (World.drewN_drewN _ _ _) (congrArg (World.drewN _) (Nat.add_assoc _ _ _))⟩)))
               repeat (go_quiet (first | ((with_reducible refine gate_dst (N := 6) rfl ?_); refine qX 6 #[.int .i64 0, .int .i64 0] 43 ?_; intro gb105 hg w47 hbox hb; have BK105 := qO (hbox); have GW105 := qO ((qa38 : w.heap.size ≤ gb105)); have GE105 := qO ((qa38 : w.heap.size ≤ gb105)); have NB101_105 := qO ((qLt hg (qk BK101.out))); have NB105_101 := qO ((qGt hg (qk BK101.out))); replace BK101 := qO (blk_below (qk BK101.out) hb); replace HB := qO (below_step (qH HB.out) hb); clear hb hbox hg; have hnb48 := NB105_101.out; have hnc48 := NB101_105.out; obtain ⟨hcz49_0, hcz49_1, hfz49_0, hfz49_1⟩ := qb2 BK105.out; obtain ⟨hcz50_0, hcz50_1, hfz50_0, hfz50_1⟩ := qb2 BK101.out) | (go_at_call 65; (with_reducible refine (impl_within.calls ((rd_T43 (rd_L4 l0_0 x20_2) x27_3).f0) 1 a0_1 false _ A16.out).mono ?_); rintro e w' ⟨rfl, ⟨nd, rfl⟩⟩; (try first | exact ⟨rfl, _, World.drewN_drewN _ _ _⟩ | exact ⟨rfl, _, Eq.trans (World.drewN_drewN _ _ _) (congrArg (World.drewN _) (Nat.add_assoc _ _ _))⟩))); try go_wp2_with (first | ((with_reducible refine gate_dst (N := 6) rfl ?_); refine qX 6 #[.int .i64 0, .int .i64 0] 43 ?_; intro gb105 hg w47 hbox hb; have hx_ := qHX HB hb qa0; have BK105 := qO (hbox); have GW105 := qO ((qa3 : w.heap.size ≤ gb105)); have GE105 := GW105; have NB101_105 := qO ((qLt hg (qk BK101.out))); have NB105_101 := qO (Ne.symm NB101_105.out); replace BK101 := qO (qB BK101.out hx_ hb); replace HB := qO (below_step (below_step HB.out hx_) hb); clear hx_ hb hbox hg; have hnb48 := NB105_101.out; have hnc48 := NB101_105.out; obtain ⟨hcz49_0, hcz49_1, hfz49_0, hfz49_1⟩ := qb2 BK105.out; obtain ⟨hcz50_0, hcz50_1, hfz50_0, hfz50_1⟩ := qb2 BK101.out) | (go_at_call 65; (with_reducible refine (impl_within.calls ((rd_T43 (rd_L4 l0_0 x20_2) x27_3).f0) 1 a0_1 false _ A16.out).mono ?_); rintro e w' ⟨rfl, ⟨nd, rfl⟩⟩; (try first | exact ⟨rfl, _, World.drewN_drewN _ _ _⟩ | exact ⟨rfl, _, Eq.trans (World.drewN_drewN _ _ _) (congrArg (World.drewN _) (Nat.add_assoc _ _ _))⟩))))
               go_ret
               exact ⟨qa2, qH HB.out⟩
             ·rw [if_neg c15] at H
              exact absurd H qa51
            ·rw [if_neg c14] at H
             exact absurd H qa51
           ·rw [if_neg c13] at H
            have c13b0 := decide_eq_false c13; clear c13; have H' := qO H; clear H; go_wp2
            repeat (go_quiet (fail); try go_wp2)
            go_roundg k3
            case measure => have := HJ1.out; have := HK2.out; have := HK3.out; omega
            case rel => exact ⟨(wrap64 (x20_2 + 1)), qa6, H', ⟨qa83⟩, ⟨qk BK101.out⟩, ⟨qH HB.out⟩⟩
        ·rw [if_neg c12] at H
         exact absurd H qa51
       ·rw [if_neg c11] at H
        exact absurd H qa51
      ·rw [if_neg c10] at H
       have c10b0 := decide_eq_false c10; clear c10; obtain rfl := Option.some.inj H; go_wp2
       repeat (go_quiet (fail); try go_wp2)
       go_ret
       exact ⟨qa2, qH HB.out⟩
set_option maxHeartbeats 8000000
set_option maxRecDepth 100000
def impl_Store_isHour.f (l0_0 : List (List (S43))) (a0_1 : Int) (a1 : Int) : Option (Bool) := (impl_within.f a1 0 a0_1).bind fun t102 => (some t102)
theorem impl_Store_isHour.calls (A0_0 : Option Addr) (c0_0 : Nat) (l0_0 : List (List (S43))) (a0_1 : Int) (a1 : Int) (r : Bool) (w : World) (hr0_0 : Kd.C (Kd.slice 43 k43) w A0_0 l0_0.length l0_0) (hc0_0 : l0_0.length ≤ c0_0) (h : impl_Store_isHour.f l0_0 a0_1 a1 = some r) :
  Calls Try.prog 57 #[.agg #[.slice A0_0 l0_0.length c0_0, .int .i64 a0_1], .int .i64 a1] w fun e w' => e = .returned (.bool r) ∧ Below w.heap.size w w' := by
 have hu28 := Try.underlying28; have HR0_0 := qO hr0_0; have HC0_0 := qO hc0_0; clear hr0_0 hc0_0; have HB := qO (Below.refl w.heap.size w); have H : ((impl_within.f a1 0 a0_1).bind fun t102 => (some t102)) = some r := h; clear h; replace H := Option.bind_eq_some_iff.mp H; obtain ⟨t102, A30, H⟩ := H; have A3 := qO A30; clear A30; obtain rfl := Option.some.inj H
 go_enter Try.func57, Try.ntmps57
 go_wp2_with (first | ((with_reducible refine gate_dst (N := 2) rfl ?_); refine qX 2 #[.slice A0_0 l0_0.length c0_0, .int .i64 a0_1] 28 ?_; intro gb101 hg w4 hbox hb; have hx_ := qHX HB hb qa0; have BK101 := qO (hbox); have GW101 := qO ((qa3 : w.heap.size ≤ gb101)); have GE101 := GW101; replace HB := qO (below_step (below_step HB.out hx_) hb); clear hx_ hb hbox hg; obtain ⟨hcz5_0, hcz5_1, hfz5_0, hfz5_1⟩ := qb2 BK101.out) | ((with_reducible refine gate_callee (f := 65) rfl ?_); refine qGL 8 Try.func65 #[.int .i64 a1, .int .i64 0, .int .i64 a0_1] ?_; (with_reducible refine (impl_within.calls a1 0 a0_1 t102 _ A3.out).mono ?_); rintro e w' ⟨rfl, ⟨nd, rfl⟩⟩; refine ⟨_, rfl, ?_⟩))
 go_ret
 exact ⟨qa2, qH HB.out⟩
set_option maxHeartbeats 8000000
set_option maxRecDepth 100000
def impl_isKey.f (a0 : Int) : Option (Bool) := (impl_within.f a0 0 15).bind fun t101 => (some t101)
theorem impl_isKey.calls (a0 : Int) (r : Bool) (w : World) (h : impl_isKey.f a0 = some r) :
  Calls Try.prog 67 #[.int .i64 a0] w fun e w' => e = .returned (.bool r) ∧ Drawn0 w w' := by
 have H : ((impl_within.f a0 0 15).bind fun t101 => (some t101)) = some r := h; clear h; replace H := Option.bind_eq_some_iff.mp H; obtain ⟨t101, A20, H⟩ := H; have A2 := qO A20; clear A20; obtain rfl := Option.some.inj H
 go_enter Try.func67, Try.ntmps67
 go_wp2_with (first | ((with_reducible refine gate_callee (f := 65) rfl ?_); refine qGL 4 Try.func65 #[.int .i64 a0, .int .i64 0, .int .i64 15] ?_; (with_reducible refine (impl_within.calls a0 0 15 t101 _ A2.out).mono ?_); rintro e w' ⟨rfl, ⟨nd, rfl⟩⟩; refine ⟨_, rfl, ?_⟩))
 go_ret
 exact ⟨qa6, qa23⟩
set_option maxHeartbeats 8000000
set_option maxRecDepth 100000
/-- The first place at which p holds, or -1. -/
def impl_Put_132.fp (p : (S58) → Bool) (l0 : List (S58)) : Int := match l0.findIdx? p with | some i => (i : Int) | none => -1
theorem impl_Put_132.hit (p : (S58) → Bool) (l0 : List (S58)) (kk : Nat) (x : (S58)) (hx : l0[kk]? = some x) (hp : p x = true) (hno : ∀ j, j < kk → ∀ x, l0[j]? = some x → p x = false) : impl_Put_132.fp p l0 = kk := by
 unfold impl_Put_132.fp
 have h : l0.findIdx? p = some kk := by
  rw [List.findIdx?_eq_some_iff_getElem]; obtain ⟨hl, he⟩ := List.getElem?_eq_some_iff.1 hx
  exact ⟨hl, by rw [he]; exact hp, fun j hj => by rw [hno j hj _ (List.getElem?_eq_getElem (Nat.lt_trans hj hl))]; simp⟩
 rw [h]
theorem impl_Put_132.miss (p : (S58) → Bool) (l0 : List (S58)) (hno : ∀ j, j < l0.length → ∀ x, l0[j]? = some x → p x = false) : impl_Put_132.fp p l0 = -1 := by
 unfold impl_Put_132.fp
 have h : l0.findIdx? p = none := by
  rw [List.findIdx?_eq_none_iff]; intro x hx; obtain ⟨j, hj⟩ := List.getElem?_of_mem hx
  exact hno j (List.getElem?_eq_some_iff.1 hj).1 x hj
 rw [h]
theorem impl_Put_132.callsP (A0 : Option Addr) (c0 : Nat) (l0 : List (S58)) (g : Nat) (cb : Array Value) (p : (S58) → Bool) (w : World) (eg : ∀ args w, (callFunc g args).run Try.prog w = .ok (.enter g args) w) (hr0 : Kd.C k58 w A0 l0.length l0)
  (hp : ∀ (W : World) (x : (S58)), x ∈ l0 → Below w.heap.size w W → Calls Try.prog g (#[.agg #[.int .i64 x.f0, .int .i64 x.f1]] ++ cb) W fun e w' => e = .returned (.bool (p x)) ∧ Below w.heap.size w w') :
  Calls Try.prog 132 #[.slice A0 l0.length c0, .func (.func g) #[] cb] w fun e w' => e = .returned (.int .i64 (impl_Put_132.fp p l0)) ∧ Below w.heap.size w w' := by
 have hlen := hr0.2.1; have HR := qO hr0; have HP := qO hp; clear hr0 hp; have isagg := Try.isAgg58
 go_enter Try.func132, Try.ntmps132
 go_wp2
 go_loopg [5, 8] l0.length (fun gg _ s8 wr => ∃ kk : Nat, kk ≤ l0.length ∧ l0.length - kk ≤ gg ∧ s8 = .int .i64 kk ∧ Aside0 (Below w.heap.size w wr) ∧ Aside0 (∀ j, j < kk → ∀ x, l0[j]? = some x → p x = false))
 case atStart => exact ⟨0, Nat.zero_le _, qa13, rfl, ⟨Below.refl _ w⟩, ⟨fun j hj => absurd hj (Nat.not_lt_zero _)⟩⟩
 case round =>
  obtain ⟨kk, hkk, hg, rfl, BW, No⟩ := hrel
  by_cases hlt : kk < l0.length
  ·have hltz : (kk : Int) < (l0.length : Int) := by omega
   obtain ⟨ad, e, hx0, hx1⟩ := at_T58 HR.out (kk : Int) qa13 hltz
   cases e
   replace hx0 := (BW.out.cell (qL w _ hx0)).trans hx0; replace hx1 := (BW.out.cell (qL w _ hx1)).trans hx1; simp only [Int.toNat_natCast] at hx0; simp only [Int.toNat_natCast] at hx1
   have hx : l0[kk]? = some (rd_T58 l0 (kk : Int)) := by
    rw [List.getElem?_eq_getElem hlt]
    show some l0[kk] = some (l0.getD (kk : Int).toNat _)
    rw [Int.toNat_natCast, List.getD_eq_getElem?_getD, List.getElem?_eq_getElem hlt]
    rfl
   skip
   have hcall := HP.out wr (rd_T58 l0 (kk : Int)) (List.mem_of_getElem? hx) BW.out; have HX := qO hx; clear hx; generalize rd_T58 l0 (kk : Int) = x at hcall HX hx0 hx1
   cases hq : p x with
   | true =>
    have HQ := qO hq; rw [hq] at hcall; clear hq
    go_wp2_with (go_at_fn g; refine hcall.mono ?_; rintro e w' ⟨rfl, hb'⟩)
    go_ret
    exact ⟨by rw [impl_Put_132.hit p l0 kk x HX.out HQ.out No.out]; rfl, hb'⟩
   | false =>
    have HQ := qO hq; rw [hq] at hcall; clear hq
    go_wp2_with (go_at_fn g; refine hcall.mono ?_; rintro e w' ⟨rfl, hb'⟩)
    go_roundg (l0.length - (kk + 1))
    case measure => omega
    case rel =>
     refine ⟨kk + 1, qa13, qa13, by go_num, ⟨hb'⟩, ⟨fun j hj x' hx' => ?_⟩⟩
     by_cases e : j = kk
     ·subst e
      rw [HX.out] at hx'; obtain rfl := Option.some.inj hx'
      exact HQ.out
     ·exact No.out j qa13 x' hx'
  ·have hltz : ¬ (kk : Int) < (l0.length : Int) := by omega
   have hk : kk = l0.length := by omega
   have HK := qO hk; clear hk; go_wp2
   go_ret
   exact ⟨by rw [impl_Put_132.miss p l0 (fun j hj => No.out j (by rw [HK.out]; exact hj))]; rfl, BW.out⟩
set_option maxHeartbeats 8000000
set_option maxRecDepth 100000
theorem impl_Put_114.callsP (A0 : Option Addr) (c0 : Nat) (l0 : List (S58)) (g : Nat) (cb : Array Value) (p : (S58) → Bool) (w : World) (eg : ∀ args w, (callFunc g args).run Try.prog w = .ok (.enter g args) w) (hr0 : Kd.C k58 w A0 l0.length l0)
  (hp : ∀ (W : World) (x : (S58)), x ∈ l0 → Below w.heap.size w W → Calls Try.prog g (#[.agg #[.int .i64 x.f0, .int .i64 x.f1]] ++ cb) W fun e w' => e = .returned (.bool (p x)) ∧ Below w.heap.size w w') :
  Calls Try.prog 114 #[.slice A0 l0.length c0, .func (.func g) #[] cb] w fun e w' => e = .returned (.bool (l0.any p)) ∧ Below w.heap.size w w' := by
 have hc := impl_Put_132.callsP A0 c0 l0 g cb p w eg hr0 hp
 have hany : decide (0 ≤ impl_Put_132.fp p l0) = l0.any p := by
  unfold impl_Put_132.fp
  cases hf : l0.findIdx? p with
  | none =>
   have h := List.findIdx?_eq_none_iff.1 hf
   have h2 : l0.any p = false := by
    rw [List.any_eq_false]; intro x hx; rw [h x hx]
    simp
   rw [h2]
   rfl
  | some i =>
   obtain ⟨hl, hi, _⟩ := List.findIdx?_eq_some_iff_getElem.1 hf; have h2 : l0.any p = true := List.any_eq_true.2 ⟨l0[i], List.getElem_mem hl, hi⟩; rw [h2]
   simp
 have HA := qO hany; clear hany hp; generalize impl_Put_132.fp p l0 = q at hc HA
 go_enter Try.func114, Try.ntmps114
 go_wp2_with (go_at_call 132; refine hc.mono ?_; rintro e w' ⟨rfl, hb'⟩)
 go_ret
 exact ⟨by rw [← HA.out]; rfl, hb'⟩
set_option maxHeartbeats 8000000
set_option maxRecDepth 100000
def impl_isPut.f (a0_0 : Int) (a0_1 : Int) : Option (Bool) := (impl_isKey.f a0_0).bind fun t102 => (if t102 = true then ((impl_fits.f a0_0 a0_1).bind fun t103 => (some t103)) else (some false))
theorem impl_isPut.calls (a0_0 : Int) (a0_1 : Int) (r : Bool) (w : World) (h : impl_isPut.f a0_0 a0_1 = some r) :
  Calls Try.prog 84 #[.agg #[.int .i64 a0_0, .int .i64 a0_1]] w fun e w' => e = .returned (.bool r) ∧ Below w.heap.size w w' := by
 have hu58 := Try.underlying58; have HB := qO (Below.refl w.heap.size w); have H : ((impl_isKey.f a0_0).bind fun t102 => (if t102 = true then ((impl_fits.f a0_0 a0_1).bind fun t103 => (some t103)) else (some false))) = some r := h; clear h; replace H := Option.bind_eq_some_iff.mp H; obtain ⟨t102, A20, H⟩ := H; have A2 := qO A20; clear A20
 by_cases c3 : t102 = true
 ·subst c3
  rw [if_pos rfl] at H; replace H := Option.bind_eq_some_iff.mp H; obtain ⟨t103, A40, H⟩ := H; have A4 := qO A40; clear A40; obtain rfl := Option.some.inj H
  go_enter Try.func84, Try.ntmps84
  go_wp2_with (first | ((with_reducible refine gate_dst (N := 1) rfl ?_); refine qX 1 #[.int .i64 a0_0, .int .i64 a0_1] 58 ?_; intro gb101 hg w5 hbox hb; have hx_ := qHX HB hb qa0; have BK101 := qO (hbox); have GW101 := qO ((qa3 : w.heap.size ≤ gb101)); have GE101 := GW101; replace HB := qO (below_step (below_step HB.out hx_) hb); clear hx_ hb hbox hg; obtain ⟨hcz6_0, hcz6_1, hfz6_0, hfz6_1⟩ := qb2 BK101.out) | ((with_reducible refine gate_callee (f := 67) rfl ?_); refine qGL 5 Try.func67 #[.int .i64 a0_0] ?_; (with_reducible refine (impl_isKey.calls a0_0 true _ A2.out).mono ?_); rintro e w' ⟨rfl, ⟨nd, rfl⟩⟩; refine ⟨_, rfl, ?_⟩) | (go_at_call 66; (with_reducible refine (impl_fits.calls a0_0 a0_1 t103 _ A4.out).mono ?_); rintro e w' ⟨rfl, ⟨nd, rfl⟩⟩))
  go_ret
  exact ⟨qa2, qH HB.out⟩
 ·replace c3 := Bool.eq_false_iff.mpr c3
  subst c3; rw [qfn] at H; obtain rfl := Option.some.inj H
  go_enter Try.func84, Try.ntmps84
  go_wp2_with (first | ((with_reducible refine gate_dst (N := 1) rfl ?_); refine qX 1 #[.int .i64 a0_0, .int .i64 a0_1] 58 ?_; intro gb101 hg w7 hbox hb; have hx_ := qHX HB hb qa0; have BK101 := qO (hbox); have GW101 := qO ((qa3 : w.heap.size ≤ gb101)); have GE101 := GW101; replace HB := qO (below_step (below_step HB.out hx_) hb); clear hx_ hb hbox hg; obtain ⟨hcz8_0, hcz8_1, hfz8_0, hfz8_1⟩ := qb2 BK101.out) | ((with_reducible refine gate_callee (f := 67) rfl ?_); refine qGL 5 Try.func67 #[.int .i64 a0_0] ?_; (with_reducible refine (impl_isKey.calls a0_0 false _ A2.out).mono ?_); rintro e w' ⟨rfl, ⟨nd, rfl⟩⟩; refine ⟨_, rfl, ?_⟩))
  go_ret
  exact ⟨qa2, qH HB.out⟩
set_option maxHeartbeats 8000000
set_option maxRecDepth 100000
def impl_arePuts_1.f (a0_0 : Int) (a0_1 : Int) : Option (Bool) := (impl_isPut.f a0_0 a0_1).bind fun t102 => (some (!t102))
theorem impl_arePuts_1.calls (a0_0 : Int) (a0_1 : Int) (r : Bool) (w : World) (h : impl_arePuts_1.f a0_0 a0_1 = some r) :
  Calls Try.prog 115 #[.agg #[.int .i64 a0_0, .int .i64 a0_1]] w fun e w' => e = .returned (.bool r) ∧ Below w.heap.size w w' := by
 have hu58 := Try.underlying58; have HB := qO (Below.refl w.heap.size w); have H : ((impl_isPut.f a0_0 a0_1).bind fun t102 => (some (!t102))) = some r := h; clear h; replace H := Option.bind_eq_some_iff.mp H; obtain ⟨t102, A20, H⟩ := H; have A2 := qO A20; clear A20; obtain rfl := Option.some.inj H
 go_enter Try.func115, Try.ntmps115
 go_wp2_with (first | ((with_reducible refine gate_dst (N := 1) rfl ?_); refine qX 1 #[.int .i64 a0_0, .int .i64 a0_1] 58 ?_; intro gb101 hg w3 hbox hb; have hx_ := qHX HB hb qa0; have BK101 := qO (hbox); have GW101 := qO ((qa3 : w.heap.size ≤ gb101)); have GE101 := GW101; replace HB := qO (below_step (below_step HB.out hx_) hb); clear hx_ hb hbox hg; obtain ⟨hcz4_0, hcz4_1, hfz4_0, hfz4_1⟩ := qb2 BK101.out) | ((with_reducible refine gate_callee (f := 84) rfl ?_); refine qGL 4 Try.func84 #[.agg #[.int .i64 a0_0, .int .i64 a0_1]] ?_; (with_reducible refine (impl_isPut.calls a0_0 a0_1 t102 _ A2.out).mono ?_); rintro e w5 ⟨rfl, hb⟩; have hx_ := qHX HB hb qa0; refine ⟨_, rfl, ?_⟩; replace BK101 := qO (qB BK101.out hx_ hb); replace HB := qO (below_step (below_step HB.out hx_) hb); clear hx_ hb))
 go_ret
 exact ⟨qa2, qH HB.out⟩
set_option maxHeartbeats 8000000
set_option maxRecDepth 100000
def impl_arePuts.p (x : S58) : Bool := match impl_arePuts_1.f x.f0 x.f1 with | some b => b | none => false
theorem impl_arePuts.pe (x : S58) : impl_arePuts_1.f x.f0 x.f1 = some (impl_arePuts.p x) := by
 have h1 : ∀ a b c, ∃ r, impl_within.f a b c = some r := by
  intro a b c
  unfold impl_within.f
  split <;> exact ⟨_, rfl⟩
 have h2 : ∀ a, ∃ r, impl_isKey.f a = some r := by
  intro a; obtain ⟨r, h⟩ := h1 a 0 15
  exact ⟨r, by unfold impl_isKey.f; rw [h]; rfl⟩
 have h3 : ∀ a b, ∃ r, impl_fits.f a b = some r := by
  intro a b
  unfold impl_fits.f impl_IsInt.f
  split
  ·obtain ⟨r, h⟩ := h1 b 0 8
   exact ⟨r, by rw [h]; rfl⟩
  ·obtain ⟨r, h⟩ := h1 b (-2147483648) 2147483647
   exact ⟨r, by rw [h]; rfl⟩
 have h4 : ∃ r, impl_arePuts_1.f x.f0 x.f1 = some r := by
  obtain ⟨a, ha⟩ := h2 x.f0; obtain ⟨b, hb⟩ := h3 x.f0 x.f1
  unfold impl_arePuts_1.f impl_isPut.f
  rw [ha]
  cases a
  ·exact ⟨_, rfl⟩
  ·simp only [Option.bind_some, if_true]
   rw [hb]
   exact ⟨_, rfl⟩
 obtain ⟨r, h⟩ := h4
 unfold impl_arePuts.p
 rw [h]
def impl_arePuts.f (l0 : List (S58)) : Option Bool := if (l0.length : Int) ≤ 400 then some (!(l0.any impl_arePuts.p)) else some false
theorem impl_arePuts.calls (A0 : Option Addr) (c0 : Nat) (l0 : List (S58)) (r : Bool) (w : World) (hr0 : Kd.C k58 w A0 l0.length l0) (hc0 : l0.length ≤ c0) (h : impl_arePuts.f l0 = some r) :
  Calls Try.prog 75 #[.slice A0 l0.length c0] w fun e w' => e = .returned (.bool r) ∧ Below w.heap.size w w' := by
 unfold impl_arePuts.f at h
 have eg : ∀ args w, (callFunc 115 args).run Try.prog w = .ok (.enter 115 args) w := enters_of Try.func115 qa18 rfl; have hcon := impl_Put_114.callsP A0 c0 l0 115 #[] impl_arePuts.p w eg hr0 (fun W x _ hb => (impl_arePuts_1.calls x.f0 x.f1 (impl_arePuts.p x) W (impl_arePuts.pe x)).mono (by rintro e w' ⟨rfl, h2⟩; exact ⟨rfl, below_step hb h2⟩)); clear hr0 hc0 eg; generalize l0.any impl_arePuts.p = q at h hcon
 by_cases hle : (l0.length : Int) ≤ 400
 ·rw [if_pos hle] at h
  obtain rfl := Option.some.inj h; have hd : decide ((l0.length : Int) ≤ 400) = true := decide_eq_true hle; have hd2 : decide (l0.length ≤ 400) = true := decide_eq_true qa13; clear hle h
  go_enter Try.func75, Try.ntmps75
  go_wp2_with (go_at_call 114; refine hcon.mono ?_; rintro e w' ⟨rfl, hb'⟩)
  go_ret
  exact ⟨rfl, hb'⟩
 ·rw [if_neg hle] at h
  obtain rfl := Option.some.inj h; have hd : decide ((l0.length : Int) ≤ 400) = false := decide_eq_false hle; have hd2 : decide (l0.length ≤ 400) = false := decide_eq_false qa13; clear hle h hcon
  go_enter Try.func75, Try.ntmps75
  go_wp2
  go_ret
  exact ⟨rfl, Below.refl _ _⟩
set_option maxHeartbeats 8000000
set_option maxRecDepth 100000
def slices_Index_int_int.l0 : Nat → List Int → Int → Int → Int → Option (Int)
 | 0, _, _, _, _ => none
 | k + 1, x0, x1, x7, x8 => if x8 < x7 then (if 0 ≤ x8 then (if x8 < (x0.length : Int) then (if x1 = (rd x0 x8) then (some x8) else (slices_Index_int_int.l0 k x0 x1 x7 (wrap64 (x8 + 1)))) else (none)) else (none)) else (some (-1))
def slices_Index_int_int.f (k : Nat) (l0 : List Int) (a1 : Int) : Option (Int) := slices_Index_int_int.l0 k l0 a1 (l0.length : Int) 0
theorem slices_Index_int_int.calls (k : Nat) (A0 : Option Addr) (c0 : Nat) (l0 : List Int) (a1 : Int) (r : Int) (w : World) (hr0 : Kd.C (Kd.int .i64) w A0 l0.length l0) (hc0 : l0.length ≤ c0) (h : slices_Index_int_int.f k l0 a1 = some r) :
  Calls Try.prog 120 #[.slice A0 l0.length c0, .int .i64 a1] w fun e w' => e = .returned (.int .i64 r) ∧ Drawn0 w w' := by
 have HR0 := qO hr0; have HC0 := qO hc0; clear hr0 hc0; have H : (slices_Index_int_int.l0 k l0 a1 (l0.length : Int) 0) = some r := h; clear h; have H' := qO H; clear H
 go_enter Try.func120, Try.ntmps120
 go_wp2
 go_loopg [8] k (fun kq v8 w' => ∃ (x8_1 : Int), v8 = .int .i64 x8_1 ∧ Aside0 (slices_Index_int_int.l0 kq l0 a1 (l0.length : Int) x8_1 = some r) ∧ Aside0 (kq ≤ k) ∧ Drawn0 w w')
 case atStart => exact ⟨(0), qa6, H', ⟨Nat.le_refl _⟩, qa23⟩
 case round =>
  clear H'
  obtain ⟨x8_1, rfl, HA, HK1, ⟨m1, rfl⟩⟩ := hrel
  cases gk with
  | zero => exact absurd HA.out (by simp [slices_Index_int_int.l0])
  | succ k1 =>
   have H := HA.out; clear HA; simp only [slices_Index_int_int.l0] at H
   by_cases c3 : x8_1 < (l0.length : Int)
   ·rw [if_pos c3] at H
    have c3b0 := decide_eq_true c3; clear c3
    by_cases c4 : 0 ≤ x8_1
    ·rw [if_pos c4] at H
     have c4b0 := decide_eq_true c4; clear c4
     by_cases c5 : x8_1 < (l0.length : Int)
     ·rw [if_pos c5] at H
      have c5b0 := decide_eq_true c5; clear c5
      by_cases c6 : a1 = (rd l0 x8_1)
      ·rw [if_pos c6] at H
       have c6b0 := beq_iff_eq.mpr c6; have c6b1 := bne_eq_false_iff_eq.mpr c6; clear c6; obtain rfl := Option.some.inj H; have p101 : 0 ≤ (x8_1 : Int) := qT qa1; have q101 : x8_1 < (l0.length : Int) := qT qa1; obtain ⟨ad101, e101, hx101_0⟩ := Kd.at_int HR0.out x8_1 p101 q101
       cases e101
       replace p101 := eq_true p101; replace q101 := eq_true q101; go_wp2
       go_ret
       exact ⟨qa6, qa23⟩
      ·rw [if_neg c6] at H
       have c6b0 := beq_eq_false_iff_ne.mpr c6; have c6b1 := bne_iff_ne.mpr c6; have H' := qO H; clear H; have p101 : 0 ≤ (x8_1 : Int) := qT qa1; have q101 : x8_1 < (l0.length : Int) := qT qa1; obtain ⟨ad101, e101, hx101_0⟩ := Kd.at_int HR0.out x8_1 p101 q101
       cases e101
       replace p101 := eq_true p101; replace q101 := eq_true q101; go_wp2
       go_roundg k1
       case measure => have := HK1.out; omega
       case rel => exact ⟨(wrap64 (x8_1 + 1)), qa6, H', ⟨qa72⟩, qa23⟩
     ·rw [if_neg c5] at H
      exact absurd H qa51
    ·rw [if_neg c4] at H
     exact absurd H qa51
   ·rw [if_neg c3] at H
    have c3b0 := decide_eq_false c3; clear c3; obtain rfl := Option.some.inj H; go_wp2
    go_ret
    exact ⟨qa6, qa23⟩
set_option maxHeartbeats 8000000
set_option maxRecDepth 100000
def slices_Contains_int_int.f (k : Nat) (l0 : List Int) (a1 : Int) : Option (Bool) := (slices_Index_int_int.f k l0 a1).bind fun t101 => (some (decide (t101 ≥ 0)))
theorem slices_Contains_int_int.calls (k : Nat) (A0 : Option Addr) (c0 : Nat) (l0 : List Int) (a1 : Int) (r : Bool) (w : World) (hr0 : Kd.C (Kd.int .i64) w A0 l0.length l0) (hc0 : l0.length ≤ c0) (h : slices_Contains_int_int.f k l0 a1 = some r) :
  Calls Try.prog 83 #[.slice A0 l0.length c0, .int .i64 a1] w fun e w' => e = .returned (.bool r) ∧ Drawn0 w w' := by
 have HR0 := qO hr0; have HC0 := qO hc0; clear hr0 hc0; have H : ((slices_Index_int_int.f k l0 a1).bind fun t101 => (some (decide (t101 ≥ 0)))) = some r := h; clear h; replace H := Option.bind_eq_some_iff.mp H; obtain ⟨t101, A30, H⟩ := H; have A3 := qO A30; clear A30; obtain rfl := Option.some.inj H
 go_enter Try.func83, Try.ntmps83
 go_wp2_with (first | ((with_reducible refine gate_callee (f := 120) rfl ?_); refine qGL 7 Try.func120 #[.slice A0 l0.length c0, .int .i64 a1] ?_; (with_reducible refine (slices_Index_int_int.calls k _ _ l0 a1 t101 _ ?side1 ?side2 A3.out).mono ?_); (case side1 => exact qkC HR0.out); (case side2 => exact HC0.out); rintro e w' ⟨rfl, ⟨nd, rfl⟩⟩; refine ⟨_, rfl, ?_⟩))
 go_ret
 exact ⟨qa6, qa23⟩
set_option maxHeartbeats 8000000
set_option maxRecDepth 100000
mutual
def impl_TxnOK.j0 : Nat → Bool → Int → List Int → List (S58) → Option (Bool)
 | 0, _, _, _, _ => none
 | k + 1, x22, x103000, x103001, x103002 => if x22 = true then (some false) else (impl_TxnOK.l0 k x103001 (x103001.length : Int) 0 x103000 x103001 x103002)
def impl_TxnOK.l0 : Nat → List Int → Int → Int → Int → List Int → List (S58) → Option (Bool)
 | 0, _, _, _, _, _, _ => none
 | k + 1, x24, x25, x26, x103000, x103001, x103002 => if x26 < x25 then (if 0 ≤ x26 then (if x26 < (x24.length : Int) then ((impl_isKey.f (rd x24 x26)).bind fun t107 => (if t107 = true then (if x26 ≤ (x103001.length : Int) then ((slices_Contains_int_int.f k (x103001.take (x26 : Int).toNat) (rd x24 x26)).bind fun t109 => (if t109 = true then (some false) else (impl_TxnOK.l0 k x24 x25 (wrap64 (x26 + 1)) x103000 x103001 x103002))) else (none)) else (some false))) else (none)) else (none)) else (some true)
end
def impl_TxnOK.f (k : Nat) (l0_0 : List (List (S43))) (a0_1 : Int) (a1_0 : Int) (l1_1 : List Int) (l1_2 : List (S58)) : Option (Bool) := (impl_StoreOK.f k l0_0 a0_1).bind fun t103 => (if t103 = true then ((impl_Store_isHour.f l0_0 a0_1 a1_0).bind fun t104 => (if t104 = true then ((impl_arePuts.f l1_2).bind fun t105 => (impl_TxnOK.j0 k (!t105) a1_0 l1_1 l1_2)) else (impl_TxnOK.j0 k true a1_0 l1_1 l1_2))) else (impl_TxnOK.j0 k true a1_0 l1_1 l1_2))
theorem impl_TxnOK.calls (k : Nat) (A0_0 : Option Addr) (c0_0 : Nat) (l0_0 : List (List (S43))) (a0_1 : Int) (a1_0 : Int) (A1_1 : Option Addr) (c1_1 : Nat) (l1_1 : List Int) (A1_2 : Option Addr) (c1_2 : Nat) (l1_2 : List (S58)) (r : Bool) (w : World) (hr0_0 : Kd.C (Kd.slice 43 k43) w A0_0 l0_0.length l0_0) (hc0_0 : l0_0.length ≤ c0_0) (hr1_1 : Kd.C (Kd.int .i64) w A1_1 l1_1.length l1_1) (hc1_1 : l1_1.length ≤ c1_1) (hr1_2 : Kd.C k58 w A1_2 l1_2.length l1_2) (hc1_2 : l1_2.length ≤ c1_2) (h : impl_TxnOK.f k l0_0 a0_1 a1_0 l1_1 l1_2 = some r) :
  Calls Try.prog 42 #[.agg #[.slice A0_0 l0_0.length c0_0, .int .i64 a0_1], .agg #[.int .i64 a1_0, .slice A1_1 l1_1.length c1_1, .slice A1_2 l1_2.length c1_2]] w fun e w' => e = .returned (.bool r) ∧ Below w.heap.size w w' := by
 have hu28 := Try.underlying28; have hu65 := Try.underlying65; have HR0_0 := qO hr0_0; have HC0_0 := qO hc0_0; clear hr0_0 hc0_0; have HR1_1 := qO hr1_1; have HC1_1 := qO hc1_1; clear hr1_1 hc1_1; have HR1_2 := qO hr1_2; have HC1_2 := qO hc1_2; clear hr1_2 hc1_2; have HB := qO (Below.refl w.heap.size w); have H : ((impl_StoreOK.f k l0_0 a0_1).bind fun t103 => (if t103 = true then ((impl_Store_isHour.f l0_0 a0_1 a1_0).bind fun t104 => (if t104 = true then ((impl_arePuts.f l1_2).bind fun t105 => (impl_TxnOK.j0 k (!t105) a1_0 l1_1 l1_2)) else (impl_TxnOK.j0 k true a1_0 l1_1 l1_2))) else (impl_TxnOK.j0 k true a1_0 l1_1 l1_2))) = some r := h; clear h; have HC3 := qO H; clear H
 go_enter Try.func42, Try.ntmps42
 go_upto_region 1 with (first | ((with_reducible refine gate_dst (N := 2) rfl ?_); refine qX 2 #[.slice A0_0 l0_0.length c0_0, .int .i64 a0_1] 28 ?_; intro gb101 hg w4 hbox hb; have BK101 := qO (hbox); have GW101 := qO ((qa38 : w.heap.size ≤ gb101)); have GE101 := qO ((qa38 : w.heap.size ≤ gb101)); replace HB := qO (below_step (qH HB.out) hb); clear hb hbox hg) | ((with_reducible refine gate_dst (N := 3) rfl ?_); refine qX 3 #[.int .i64 a1_0, .slice A1_1 l1_1.length c1_1, .slice A1_2 l1_2.length c1_2] 65 ?_; intro gb102 hg w5 hbox hb; have BK102 := qO (hbox); have GW102 := qO ((qa38 : w.heap.size ≤ gb102)); have GE102 := qO ((qa38 : w.heap.size ≤ gb102)); have NB101_102 := qO ((qLt hg (qk BK101.out))); have NB102_101 := qO ((qGt hg (qk BK101.out))); replace BK101 := qO (blk_below (qk BK101.out) hb); replace HB := qO (below_step (qH HB.out) hb); clear hb hbox hg))
 (try simp only [Act.put, qzA, qzB, qzC])
 go_cut [22] (fun v22 wc => ∃ (kq : Nat) (x22_2 : Bool), v22 = .bool x22_2 ∧ Aside0 (impl_TxnOK.j0 kq x22_2 a1_0 l1_1 l1_2 = some r) ∧ Aside0 (kq ≤ k) ∧ Aside0 (wc.heap[gb101]? = some (.cells #[(.slice A0_0 l0_0.length c0_0), .int .i64 a0_1] 28 (0, 0))) ∧ Aside0 (wc.heap[gb102]? = some (.cells #[.int .i64 a1_0, (.slice A1_1 l1_1.length c1_1), (.slice A1_2 l1_2.length c1_2)] 65 (0, 0))) ∧ Aside0 (Below w.heap.size w wc))
 case first =>
  have H := HC3.out; clear HC3; replace H := Option.bind_eq_some_iff.mp H; obtain ⟨t103, A60, H⟩ := H; have A6 := qO A60; clear A60
  by_cases c7 : t103 = true
  ·subst c7
   rw [if_pos rfl] at H; replace H := Option.bind_eq_some_iff.mp H; obtain ⟨t104, A80, H⟩ := H; have A8 := qO A80; clear A80
   by_cases c9 : t104 = true
   ·subst c9
    rw [if_pos rfl] at H; replace H := Option.bind_eq_some_iff.mp H; obtain ⟨t105, A100, H⟩ := H; have A10 := qO A100; clear A100; have H' := qO H; clear H; have hnb11 := NB101_102.out; have hnc11 := NB102_101.out; obtain ⟨hcz12_0, hcz12_1, hfz12_0, hfz12_1⟩ := qb2 BK101.out
    go_wp2_with (first | ((with_reducible refine gate_callee (f := 22) rfl ?_); refine qGL 8 Try.func22 #[.agg #[.slice A0_0 l0_0.length c0_0, .int .i64 a0_1]] ?_; (with_reducible refine (impl_StoreOK.calls k _ _ l0_0 a0_1 true _ ?side1 ?side2 A6.out).mono ?_); (case side1 => exact qa42); (case side2 => exact HC0_0.out); rintro e w13 ⟨rfl, hb⟩; have hx_ := qHX HB hb qa0; refine ⟨_, rfl, ?_⟩; replace BK101 := qO (qB BK101.out hx_ hb); replace BK102 := qO (qB BK102.out hx_ hb); replace HB := qO (below_step (below_step HB.out hx_) hb); clear hx_ hb; obtain ⟨hcz14_0, hcz14_1, hfz14_0, hfz14_1⟩ := qb2 BK101.out; obtain ⟨hcz15_0, hcz15_1, hcz15_2, hfz15_0, hfz15_1, hfz15_2⟩ := qb3 BK102.out) | (go_at_call 57; (with_reducible refine (impl_Store_isHour.calls _ _ l0_0 a0_1 a1_0 true _ ?side1 ?side2 A8.out).mono ?_); (case side1 => exact qa42); (case side2 => exact HC0_0.out); rintro e w16 ⟨rfl, hb⟩; have hx_ := qHX HB hb qa0; replace BK101 := qO (qB BK101.out hx_ hb); replace BK102 := qO (qB BK102.out hx_ hb); replace HB := qO (below_step (below_step HB.out hx_) hb); clear hx_ hb; obtain ⟨hcz17_0, hcz17_1, hcz17_2, hfz17_0, hfz17_1, hfz17_2⟩ := qb3 BK102.out) | (go_at_call 75; (with_reducible refine (impl_arePuts.calls _ _ l1_2 t105 _ ?side1 ?side2 A10.out).mono ?_); (case side1 => exact qa66); (case side2 => exact HC1_2.out); rintro e w18 ⟨rfl, hb⟩; have hx_ := qHX HB hb qa0; replace BK101 := qO (qB BK101.out hx_ hb); replace BK102 := qO (qB BK102.out hx_ hb); replace HB := qO (below_step (below_step HB.out hx_) hb); clear hx_ hb))
    go_meet
    case rel => exact ⟨_, (!t105), qa6, H', ⟨qa79⟩, ⟨qk BK101.out⟩, ⟨qk BK102.out⟩, ⟨qH HB.out⟩⟩
   ·replace c9 := Bool.eq_false_iff.mpr c9
    subst c9; rw [qfn] at H; have H' := qO H; clear H; have hnb19 := NB101_102.out; have hnc19 := NB102_101.out; obtain ⟨hcz20_0, hcz20_1, hfz20_0, hfz20_1⟩ := qb2 BK101.out
    go_wp2_with (first | ((with_reducible refine gate_callee (f := 22) rfl ?_); refine qGL 8 Try.func22 #[.agg #[.slice A0_0 l0_0.length c0_0, .int .i64 a0_1]] ?_; (with_reducible refine (impl_StoreOK.calls k _ _ l0_0 a0_1 true _ ?side1 ?side2 A6.out).mono ?_); (case side1 => exact qa42); (case side2 => exact HC0_0.out); rintro e w21 ⟨rfl, hb⟩; have hx_ := qHX HB hb qa0; refine ⟨_, rfl, ?_⟩; replace BK101 := qO (qB BK101.out hx_ hb); replace BK102 := qO (qB BK102.out hx_ hb); replace HB := qO (below_step (below_step HB.out hx_) hb); clear hx_ hb; obtain ⟨hcz22_0, hcz22_1, hfz22_0, hfz22_1⟩ := qb2 BK101.out; obtain ⟨hcz23_0, hcz23_1, hcz23_2, hfz23_0, hfz23_1, hfz23_2⟩ := qb3 BK102.out) | (go_at_call 57; (with_reducible refine (impl_Store_isHour.calls _ _ l0_0 a0_1 a1_0 false _ ?side1 ?side2 A8.out).mono ?_); (case side1 => exact qa42); (case side2 => exact HC0_0.out); rintro e w24 ⟨rfl, hb⟩; have hx_ := qHX HB hb qa0; replace BK101 := qO (qB BK101.out hx_ hb); replace BK102 := qO (qB BK102.out hx_ hb); replace HB := qO (below_step (below_step HB.out hx_) hb); clear hx_ hb))
    go_meet
    case rel => exact ⟨_, (true), qa6, H', ⟨qa79⟩, ⟨qk BK101.out⟩, ⟨qk BK102.out⟩, ⟨qH HB.out⟩⟩
  ·replace c7 := Bool.eq_false_iff.mpr c7
   subst c7; rw [qfn] at H; have H' := qO H; clear H; have hnb25 := NB101_102.out; have hnc25 := NB102_101.out; obtain ⟨hcz26_0, hcz26_1, hfz26_0, hfz26_1⟩ := qb2 BK101.out
   go_wp2_with (first | ((with_reducible refine gate_callee (f := 22) rfl ?_); refine qGL 8 Try.func22 #[.agg #[.slice A0_0 l0_0.length c0_0, .int .i64 a0_1]] ?_; (with_reducible refine (impl_StoreOK.calls k _ _ l0_0 a0_1 false _ ?side1 ?side2 A6.out).mono ?_); (case side1 => exact qa42); (case side2 => exact HC0_0.out); rintro e w27 ⟨rfl, hb⟩; have hx_ := qHX HB hb qa0; refine ⟨_, rfl, ?_⟩; replace BK101 := qO (qB BK101.out hx_ hb); replace BK102 := qO (qB BK102.out hx_ hb); replace HB := qO (below_step (below_step HB.out hx_) hb); clear hx_ hb))
   go_meet
   case rel => exact ⟨_, (true), qa6, H', ⟨qa79⟩, ⟨qk BK101.out⟩, ⟨qk BK102.out⟩, ⟨qH HB.out⟩⟩
 case rest =>
  clear HC3
  obtain ⟨kq, x22_2, rfl, HA, HJ2, BK101, BK102, HB⟩ := hcut
  cases kq with
  | zero => exact absurd HA.out (by simp [impl_TxnOK.j0])
  | succ kj2 =>
   have H := HA.out; clear HA; simp only [impl_TxnOK.j0] at H
   by_cases c28 : x22_2 = true
   ·subst c28
    rw [if_pos rfl] at H; obtain rfl := Option.some.inj H; go_wp2
    go_ret
    exact ⟨qa2, qH HB.out⟩
   ·replace c28 := Bool.eq_false_iff.mpr c28
    subst c28; rw [qfn] at H; have H' := qO H; clear H; have hnb29 := NB102_101.out; have hnc29 := NB101_102.out; obtain ⟨hcz30_0, hcz30_1, hcz30_2, hfz30_0, hfz30_1, hfz30_2⟩ := qb3 BK102.out; go_wp2
    go_loopg [26] kj2 (fun kq v26 w' => ∃ (x26_2 : Int), v26 = .int .i64 x26_2 ∧ Aside0 (impl_TxnOK.l0 kq l1_1 (l1_1.length : Int) x26_2 a1_0 l1_1 l1_2 = some r) ∧ Aside0 (kq ≤ kj2) ∧ Aside0 (w'.heap[gb101]? = some (.cells #[(.slice A0_0 l0_0.length c0_0), .int .i64 a0_1] 28 (0, 0))) ∧ Aside0 (w'.heap[gb102]? = some (.cells #[.int .i64 a1_0, (.slice A1_1 l1_1.length c1_1), (.slice A1_2 l1_2.length c1_2)] 65 (0, 0))) ∧ Aside0 (Below w.heap.size w w'))
    case atStart => exact ⟨(0), qa6, H', ⟨Nat.le_refl _⟩, ⟨qk BK101.out⟩, ⟨qk BK102.out⟩, ⟨qH HB.out⟩⟩
    case round =>
     clear H'
     obtain ⟨x26_2, rfl, HA, HK2, BK101, BK102, HB⟩ := hrel
     cases gk with
     | zero => exact absurd HA.out (by simp [impl_TxnOK.l0])
     | succ k2 =>
      have H := HA.out; clear HA; simp only [impl_TxnOK.l0] at H
      by_cases c31 : x26_2 < (l1_1.length : Int)
      ·rw [if_pos c31] at H
       have c31b0 := decide_eq_true c31; clear c31
       by_cases c32 : 0 ≤ x26_2
       ·rw [if_pos c32] at H
        have c32b0 := decide_eq_true c32; clear c32
        by_cases c33 : x26_2 < (l1_1.length : Int)
        ·rw [if_pos c33] at H
         have c33b0 := decide_eq_true c33; clear c33; replace H := Option.bind_eq_some_iff.mp H; obtain ⟨t107, A340, H⟩ := H; have A34 := qO A340; clear A340
         by_cases c35 : t107 = true
         ·subst c35
          rw [if_pos rfl] at H; have c36b0 := eq_true (qT qa1 : 0 ≤ x26_2)
          by_cases c37 : x26_2 ≤ (l1_1.length : Int)
          ·rw [if_pos c37] at H
           have c37b0 := eq_true c37; have c37b1 := decide_eq_true c37; clear c37; replace H := Option.bind_eq_some_iff.mp H; obtain ⟨t109, A380, H⟩ := H; have A38 := qO A380; clear A380
           by_cases c39 : t109 = true
           ·subst c39
            rw [if_pos rfl] at H; obtain rfl := Option.some.inj H; have p106 : 0 ≤ (x26_2 : Int) := qT qa1; have q106 : x26_2 < (l1_1.length : Int) := qT qa1; obtain ⟨ad106, e106, hx106_0⟩ := Kd.at_int HR1_1.out x26_2 p106 q106
            cases e106
            replace hx106_0 := (HB.out.cell (qL w _ hx106_0)).trans hx106_0; replace p106 := eq_true p106; replace q106 := eq_true q106
            go_wp2_with (first | ((with_reducible refine gate_callee (f := 67) rfl ?_); refine qGL 32 Try.func67 #[.int .i64 (rd l1_1 x26_2)] ?_; (with_reducible refine (impl_isKey.calls (rd l1_1 x26_2) true _ A34.out).mono ?_); rintro e w' ⟨rfl, ⟨nd, rfl⟩⟩; refine ⟨_, rfl, ?_⟩; have hnb40 := NB102_101.out; have hnc40 := NB101_102.out; obtain ⟨hcz41_0, hcz41_1, hcz41_2, hfz41_0, hfz41_1, hfz41_2⟩ := qb3 BK102.out; obtain ⟨i042, hi042, _, hsz42, _⟩ := info_parts info3; obtain ⟨hcut42, hA42, hC42⟩ := print_take_of (P := Try.prog) (Value.int .i64) 0 60 3 .i64 Try.underlying60 hi042 hsz42 (some ad106) c1_1 l1_1 x26_2 (qT qa1) (qT qa1) HC1_1.out; have HR108 := qO (Kd.C_of_reads (h1 := fun _ => rfl) (hA42 _ (Kd.reads_of_C HR1_1.out))); have HC108 := qO hC42; clear hA42 hC42 hi042 hsz42) | (go_at_call 83; (try rw [show (x26_2 : Int).toNat = (l1_1.take (x26_2 : Int).toNat).length from (by have h_ : (x26_2 : Int) ≤ (l1_1.length : Int) := qT qa1; rw [List.length_take]; omega)]); (with_reducible refine (slices_Contains_int_int.calls k2 _ _ (l1_1.take (x26_2 : Int).toNat) (rd l1_1 x26_2) true _ ?side1 ?side2 A38.out).mono ?_); (case side1 => exact qkC (Kd.C_below HR108.out (qH HB.out))); (case side2 => exact HC108.out); rintro e w' ⟨rfl, ⟨nd, rfl⟩⟩))
            go_ret
            exact ⟨qa2, qH HB.out⟩
           ·replace c39 := Bool.eq_false_iff.mpr c39
            subst c39; rw [qfn] at H; have H' := qO H; clear H; have p106 : 0 ≤ (x26_2 : Int) := qT qa1; have q106 : x26_2 < (l1_1.length : Int) := qT qa1; obtain ⟨ad106, e106, hx106_0⟩ := Kd.at_int HR1_1.out x26_2 p106 q106
            cases e106
            replace hx106_0 := (HB.out.cell (qL w _ hx106_0)).trans hx106_0; replace p106 := eq_true p106; replace q106 := eq_true q106
            go_wp2_with (first | ((with_reducible refine gate_callee (f := 67) rfl ?_); refine qGL 32 Try.func67 #[.int .i64 (rd l1_1 x26_2)] ?_; (with_reducible refine (impl_isKey.calls (rd l1_1 x26_2) true _ A34.out).mono ?_); rintro e w' ⟨rfl, ⟨nd, rfl⟩⟩; refine ⟨_, rfl, ?_⟩; have hnb43 := NB102_101.out; have hnc43 := NB101_102.out; obtain ⟨hcz44_0, hcz44_1, hcz44_2, hfz44_0, hfz44_1, hfz44_2⟩ := qb3 BK102.out; obtain ⟨i045, hi045, _, hsz45, _⟩ := info_parts info3; obtain ⟨hcut45, hA45, hC45⟩ := print_take_of (P := Try.prog) (Value.int .i64) 0 60 3 .i64 Try.underlying60 hi045 hsz45 (some ad106) c1_1 l1_1 x26_2 (qT qa1) (qT qa1) HC1_1.out; have HR108 := qO (Kd.C_of_reads (h1 := fun _ => rfl) (hA45 _ (Kd.reads_of_C HR1_1.out))); have HC108 := qO hC45; clear hA45 hC45 hi045 hsz45) | (go_at_call 83; (try rw [show (x26_2 : Int).toNat = (l1_1.take (x26_2 : Int).toNat).length from (by have h_ : (x26_2 : Int) ≤ (l1_1.length : Int) := qT qa1; rw [List.length_take]; omega)]); (with_reducible refine (slices_Contains_int_int.calls k2 _ _ (l1_1.take (x26_2 : Int).toNat) (rd l1_1 x26_2) false _ ?side1 ?side2 A38.out).mono ?_); (case side1 => exact qkC (Kd.C_below HR108.out (qH HB.out))); (case side2 => exact HC108.out); rintro e w' ⟨rfl, ⟨nd, rfl⟩⟩))
            go_roundg k2
            case measure => have := HJ2.out; have := HK2.out; omega
            case rel => exact ⟨(wrap64 (x26_2 + 1)), qa6, H', ⟨by have := HJ2.out; have := HK2.out; omega⟩, ⟨qk BK101.out⟩, ⟨qk BK102.out⟩, ⟨qH HB.out⟩⟩
          ·rw [if_neg c37] at H
           exact absurd H qa51
         ·replace c35 := Bool.eq_false_iff.mpr c35
          subst c35; rw [qfn] at H; obtain rfl := Option.some.inj H; have p106 : 0 ≤ (x26_2 : Int) := qT qa1; have q106 : x26_2 < (l1_1.length : Int) := qT qa1; obtain ⟨ad106, e106, hx106_0⟩ := Kd.at_int HR1_1.out x26_2 p106 q106
          cases e106
          replace hx106_0 := (HB.out.cell (qL w _ hx106_0)).trans hx106_0; replace p106 := eq_true p106; replace q106 := eq_true q106
          go_wp2_with (first | ((with_reducible refine gate_callee (f := 67) rfl ?_); refine qGL 32 Try.func67 #[.int .i64 (rd l1_1 x26_2)] ?_; (with_reducible refine (impl_isKey.calls (rd l1_1 x26_2) false _ A34.out).mono ?_); rintro e w' ⟨rfl, ⟨nd, rfl⟩⟩; refine ⟨_, rfl, ?_⟩))
          go_ret
          exact ⟨qa2, qH HB.out⟩
        ·rw [if_neg c33] at H
         exact absurd H qa51
       ·rw [if_neg c32] at H
        exact absurd H qa51
      ·rw [if_neg c31] at H
       have c31b0 := decide_eq_false c31; clear c31; obtain rfl := Option.some.inj H; go_wp2
       go_ret
       exact ⟨qa2, qH HB.out⟩
set_option maxHeartbeats 8000000
set_option maxRecDepth 100000
section
open Go.Shelf
attribute [local go_sem] Oper.semAt_some
def bw.upto {α : Type} (f : Nat → α) (k : Nat) : List α := (List.range k).map f
theorem bw.upto_succ {α : Type} (f : Nat → α) (k : Nat) : bw.upto f (k + 1) = bw.upto f k ++ [f k] := by simp [bw.upto, List.range_succ]
theorem bw.upto_length {α : Type} (f : Nat → α) (k : Nat) : (bw.upto f k).length = k := by simp [bw.upto]
def bw.g (zs : List S43) (k : Nat) : Int × S43 := (((zs.length - 1 - k : Nat) : Int), zs.getD (zs.length - 1 - k) z43)
def bw.Cells (W : World) (ad : Addr) (zs : List S43) : Prop := ∀ j, j < zs.length → W.cell? (ad.add (j * 2)) = some (.int .i64 (zs.getD j z43).f0) ∧ W.cell? ⟨(ad.add (j * 2)).block, (ad.add (j * 2)).off + 1, none⟩ = some (.int .i64 (zs.getD j z43).f1)
theorem bw.one_in (F : Fence) (n : Nat) (hf : F.fn 130) (hro : F.round = none) (hn : 1 ≤ n) (l Bs n₀ : Nat) (ad : Addr) (cap : Nat) (zs : List S43) (hb : ad.block < n₀) (hBsn : Bs < n₀) (hreach : zs.length ≤ 9223372036854775807) (J Jx : List (Int × S43) → World → Prop)
    (hY : ∀ pre x W, J pre W → pre.length < zs.length → YieldAt F (n - 1) Try.prog l #[.int .i64 x.1, .agg #[.int .i64 x.2.f0, .int .i64 x.2.f1]] W fun e W' =>
      (e = .returned (.bool true) ∧ J (pre ++ [x]) W' ∧ Below n₀ W W') ∨ (e = .returned (.bool false) ∧ Jx (pre ++ [x]) W'))
    (W : World) (hBs : W.cell? ⟨Bs, 0, none⟩ = some (.slice (some ad) zs.length cap)) (hc : bw.Cells W ad zs) (h0 : J [] W) :
    CallsIn F n Try.prog 130 #[.func (.yield l) #[] #[], .pointer (some ⟨Bs, 0, none⟩)] W fun e W' => (∃ v, e = .returned v) ∧
      ((∃ ys, ys = bw.upto (bw.g zs) zs.length ∧ J ys W') ∨ (∃ pre, (∃ k, k ≤ zs.length ∧ pre = bw.upto (bw.g zs) k) ∧ Jx pre W')) := by
  refine callsIn_of_wp Try.func130 rfl hf ?_ hro; simp only [Try.ntmps130, List.size_toArray, List.length_cons, List.length_nil, Nat.reduceAdd, Nat.reduceSub, Array.replicate_succ, Array.replicate_zero, List.push_toArray, List.append_toArray, List.nil_append, List.cons_append]; have hw1 : IntKind.i64.wrap ((zs.length : Int) - 1) = (zs.length : Int) - 1 := by rw [i64_w]; unfold wrap64; omega
  gi_wp2
  gi_loopw [3] (fun i wr => ∃ (k : Nat) (m : Int), k ≤ zs.length ∧ i = .int .i64 m ∧ m = (zs.length : Int) - 1 - (k : Int) ∧ J (bw.upto (bw.g zs) k) wr ∧ Below n₀ W wr)
    (fun i _ => (intOf i + 1).toNat)
  case atStart => exact ⟨0, _, Nat.zero_le _, rfl, by first | omega | (rw [hw1]; omega), h0, Below.refl _ _⟩
  case round =>
    obtain ⟨k, m, hk, rfl, hm, hJs, hnx⟩ := hrel; have hBs' : wr.cell? ⟨Bs, 0, none⟩ = some (.slice (some ad) zs.length cap) := (hnx.cell (p := ⟨Bs, 0, none⟩) hBsn).trans hBs
    by_cases hlt : k < zs.length
    · obtain ⟨j, hj, rfl⟩ : ∃ j : Nat, j = zs.length - 1 - k ∧ m = (j : Int) := ⟨zs.length - 1 - k, rfl, qa13⟩
      obtain ⟨hx0, hx1⟩ := hc j qa13; replace hx0 := (hnx.cell (p := ad.add (j * 2)) (by rw [add_block]; exact hb)).trans hx0; replace hx1 := (hnx.cell (p := ⟨(ad.add (j * 2)).block, (ad.add (j * 2)).off + 1, none⟩) (by show (ad.add (j * 2)).block < n₀; rw [add_block]; exact hb)).trans hx1; obtain ⟨fn, tmps, assign, body, hy, hR⟩ := hY _ (bw.g zs k) wr hJs (by rw [bw.upto_length]; exact hlt); have hg : bw.g zs k = ((j : Int), zs.getD j z43) := by rw [hj]; rfl
      rw [hg] at hy hR
      dsimp only at hy
      generalize hzj : zs.getD j z43 = z at hx0 hx1 hy hR hg; have p1 : (0 : Int) ≤ (j : Int) := by omega
      have p2 : (j : Int) < (zs.length : Int) := by omega
      have p3 : j < zs.length := by omega
      have HJ := qO hj; clear hj hm
      gi_wp2
      refine hR.mono ?_; rintro e W3 (⟨rfl, hJ3, hk3⟩ | ⟨rfl, hJx3⟩)
      · gi_wp2
        go_roundw
        case rel => exact ⟨k + 1, _, qa13, rfl, qa114, by rw [bw.upto_succ, hg]; exact hJ3, hnx.trans hk3⟩
        case measure => (simp only [intOf, i64_w]; first | omega | (unfold wrap64; omega))
      · gi_wp2
        refine bodyPost_ret (results_none rfl _ _ _) rfl ?_
        exact ⟨⟨_, rfl⟩, .inr ⟨_, ⟨k + 1, qa13, by rw [bw.upto_succ, hg]⟩, hJx3⟩⟩
    · obtain rfl : k = zs.length := by omega
      obtain rfl : m = -1 := by omega
      gi_wp2
      go_end0
      exact ⟨⟨_, rfl⟩, .inl ⟨_, rfl, hJs⟩⟩
theorem bw.nil_in (F : Fence) (n : Nat) (hf : F.fn 130) (hro : F.round = none) (l Bs : Nat) (A : Option Addr) (cap : Nat) (J : List (Int × S43) → World → Prop) (W : World) (hBs : W.cell? ⟨Bs, 0, none⟩ = some (.slice A 0 cap)) (h0 : J [] W) :
    CallsIn F n Try.prog 130 #[.func (.yield l) #[] #[], .pointer (some ⟨Bs, 0, none⟩)] W fun e W' => (∃ v, e = .returned v) ∧ J [] W' := by
  refine callsIn_of_wp Try.func130 rfl hf ?_ hro; simp only [Try.ntmps130, List.size_toArray, List.length_cons, List.length_nil, Nat.reduceAdd, Nat.reduceSub, Array.replicate_succ, Array.replicate_zero, List.push_toArray, List.append_toArray, List.nil_append, List.cons_append]
  gi_wp2
  gi_loopw [3] (fun i wr => i = .int .i64 (-1) ∧ J [] wr) (fun _ _ => 0)
  case atStart => exact ⟨by first | rfl | (simp; done) | (simp [i64_w, wrap64]; done), h0⟩
  case round =>
    obtain ⟨rfl, hJs⟩ := hrel
    gi_wp2
    go_end0
    exact ⟨⟨_, rfl⟩, hJs⟩
theorem bw.make_in (F : Fence) (n : Nat) (hf : F.fn 112) (hro : F.round = none) (a : Option Addr) (len cap : Nat) (w : World) :
    CallsIn F n Try.prog 112 #[.slice a len cap] w fun e w' => e = .returned (.func (.func 130) #[] #[.pointer (some ⟨w.heap.size, 0, none⟩)]) ∧ w' = w.alloc (.cells #[.slice a len cap] 41) := by
  refine callsIn_of_wp Try.func112 rfl hf ?_ hro; simp only [Try.ntmps112, List.size_toArray, List.length_cons, List.length_nil, Nat.reduceAdd, Nat.reduceSub, Array.replicate_succ, Array.replicate_zero, List.push_toArray, List.append_toArray, List.nil_append, List.cons_append]
  gi_wp2
  go_ret
  exact ⟨rfl, rfl⟩
theorem bw.Cells_of {W : World} {A : Option Addr} {zs : List S43} (h : Kd.C k43 W A zs.length zs) (hz : 0 < zs.length) : ∃ ad, A = some ad ∧ ad.block < W.heap.size ∧ bw.Cells W ad zs := by
  obtain ⟨ad, e, h0, _⟩ := at_T43 h 0 qa13 qa13; refine ⟨ad, e, ?_, fun j hj => ?_⟩
  · have := qL W _ h0
    rwa [add_block] at this
  · obtain ⟨ad', e', h1, h2⟩ := at_T43 h (j : Int) qa13 qa13
    rw [e] at e'
    cases e'
    simp only [Int.toNat_natCast] at h1 h2
    exact ⟨h1, h2⟩
theorem bw.stops (F : Fence) (n : Nat) (hf : F.fn 130) (hro : F.round = none) (hn : 1 ≤ n) (Bs n₀ : Nat) (A : Option Addr) (cap : Nat) (zs : List S43) (hreach : zs.length ≤ 9223372036854775807) (w w1 : World) (hBs : Bs < n₀) (hn₀ : n₀ ≤ w.heap.size) (hw1 : w1.heap.size ≤ n₀) (hb1 : Below w1.heap.size w1 w)
    (hc : w.cell? ⟨Bs, 0, none⟩ = some (.slice A zs.length cap)) (hI : Kd.C k43 w1 A zs.length zs) :
    SeqStopsK F n Try.prog 130 #[.pointer (some ⟨Bs, 0, none⟩)] (fun x : Int × S43 => #[Value.int .i64 x.1, .agg #[.int .i64 x.2.f0, .int .i64 x.2.f1]]) (Below n₀) (fun ys => ys = bw.upto (bw.g zs) zs.length) (fun pre => ∃ k, k ≤ zs.length ∧ pre = bw.upto (bw.g zs) k) zs.length w := fun l J Jx W hW _ _ hY h0 => by
  have hc' := (hW.cell (p := ⟨Bs, 0, none⟩) (Nat.lt_of_lt_of_le hBs hn₀)).trans hc
  by_cases hz : 0 < zs.length
  · obtain ⟨ad, rfl, hbl, hcs⟩ := bw.Cells_of hI hz
    have hcW : bw.Cells W ad zs := fun j hj => by
      obtain ⟨h1, h2⟩ := hcs j hj; have b1 : (ad.add (j * 2)).block < w1.heap.size := by rw [add_block]; exact hbl
      exact ⟨(hW.cell (p := ad.add (j * 2)) qa13).trans ((hb1.cell b1).trans h1), (hW.cell (p := ⟨(ad.add (j * 2)).block, (ad.add (j * 2)).off + 1, none⟩) (by show (ad.add (j * 2)).block < _; omega)).trans ((hb1.cell (p := ⟨(ad.add (j * 2)).block, (ad.add (j * 2)).off + 1, none⟩) b1).trans h2)⟩
    exact bw.one_in F n hf hro hn l Bs n₀ ad cap zs qa13 hBs hreach J Jx hY W hc' hcW h0
  · have hz0 : zs.length = 0 := by omega
    rw [hz0] at hc' ⊢
    exact (bw.nil_in F n hf hro l Bs A cap J W hc' h0).mono fun e W' ⟨he, hj⟩ => ⟨he, .inl ⟨_, rfl, hj⟩⟩
def bw.val (zs : List S43) (ts : Int) : Int := match (bw.upto (bw.g zs) zs.length).find? (fun p => decide (p.2.f0 ≤ ts)) with | some p => p.2.f1 | none => 0
theorem bw.val_none {zs : List S43} {ts : Int} (h : ∀ p ∈ bw.upto (bw.g zs) zs.length, ¬ p.2.f0 ≤ ts) : bw.val zs ts = 0 := by
  unfold bw.val
  rw [List.find?_eq_none.2 (fun p hp => by simpa using h p hp)]
theorem bw.val_some {zs : List S43} {ts : Int} {k : Nat} {q : List (Int × S43)} {x : Int × S43} (hk : k ≤ zs.length) (e : bw.upto (bw.g zs) k = q ++ [x]) (h : ∀ p ∈ q, ¬ p.2.f0 ≤ ts) (hx : x.2.f0 ≤ ts) : bw.val zs ts = x.2.f1 := by
  have hpre : bw.upto (bw.g zs) zs.length = bw.upto (bw.g zs) k ++ ((List.range (zs.length - k)).map (k + ·)).map (bw.g zs) := by
    unfold bw.upto
    rw [← List.map_append, ← List.range_add]
    congr 2
    omega
  unfold bw.val
  rw [hpre, e, List.append_assoc, List.find?_append, List.find?_eq_none.2 (fun p hp => by simpa using h p hp)]
  simp [hx]
def bw.No (pre : List (Int × S43)) (ts : Int) : Prop := ∀ p ∈ pre, ¬ p.2.f0 ≤ ts
def bw.Hit (pre : List (Int × S43)) (ts : Int) : Prop := ∃ q x, pre = q ++ [x] ∧ bw.No q ts ∧ x.2.f0 ≤ ts
theorem bw.No_nil (ts : Int) : bw.No [] ts := fun p hp => by cases hp
theorem bw.No_snoc {pre : List (Int × S43)} {x : Int × S43} {ts : Int} (h : bw.No pre ts) (hx : ¬ x.2.f0 ≤ ts) : bw.No (pre ++ [x]) ts := fun p hq => by
  rcases List.mem_append.1 hq with h2 | h2
  · exact h p h2
  · rw [List.mem_singleton.1 h2]; exact hx
def bw.last (pre : List (Int × S43)) : Int := match pre.getLast? with | some p => p.2.f1 | none => 0
theorem bw.last_snoc (q : List (Int × S43)) (x : Int × S43) : bw.last (q ++ [x]) = x.2.f1 := by simp [bw.last]
theorem bw.readAt_in (F : Fence) (n : Nat) (h3 : F.fn 68) (h4 : F.fn 112) (h5 : F.fn 130) (hro : F.round = none) (hn : 6 ≤ n) (A0_0 : Option Addr) (c0_0 : Nat) (l0_0 : List (List (S43))) (a0_1 : Int) (a1 : Int) (a2 : Int) (w : World) (hr0_0 : Kd.C (Kd.slice 43 k43) w A0_0 l0_0.length l0_0) (h0 : 0 ≤ a1) (h1 : a1 < (l0_0.length : Int)) :
    CallsIn F n Try.prog 68 #[.agg #[.slice A0_0 l0_0.length c0_0, .int .i64 a0_1], .int .i64 a1, .int .i64 a2] w fun e w' => e = .returned (.int .i64 (bw.val (rd_L4 l0_0 a1) a2)) ∧ Below w.heap.size w w' := by
  have hn1 : 1 ≤ n := by omega
  have hu29 := Try.underlying28; have hu61 := Try.underlying43; obtain ⟨ad, A', c', rfl, hx, hl', hrow⟩ := at_L4 hr0_0 a1 h0 h1; have hreach : (rd_L4 l0_0 a1).length ≤ 9223372036854775807 := hrow.2.1; have hblk := qL w _ hx; have p1 := eq_true h0; have p2 := eq_true h1; generalize rd_L4 l0_0 a1 = zs at hx hl' hrow hreach ⊢; obtain ⟨W1, hW1⟩ : ∃ W1, w.alloc (.cells #[.slice (some ad) l0_0.length c0_0, .int .i64 a0_1] 28) = W1 := ⟨_, rfl⟩; obtain ⟨W2, hW2⟩ : ∃ W2, W1.alloc (.cells #[.int .i64 a2] 3) = W2 := ⟨_, rfl⟩; obtain ⟨W3, hW3⟩ : ∃ W3, W2.alloc (.cells #[.int .i64 0] 3) = W3 := ⟨_, rfl⟩; obtain ⟨W0, hW0⟩ : ∃ W0, W3.alloc (.cells #[.slice A' zs.length c'] 41) = W0 := ⟨_, rfl⟩; have s1 : W1.heap.size = w.heap.size + 1 := by rw [← hW1]; simp
  have s2 : W2.heap.size = w.heap.size + 2 := by rw [← hW2]; simp; omega
  have s3 : W3.heap.size = w.heap.size + 3 := by rw [← hW3]; simp; omega
  have s0 : W0.heap.size = w.heap.size + 4 := by rw [← hW0]; simp; omega
  have hB3 : Below w.heap.size w W3 := by rw [← hW3, ← hW2, ← hW1]; exact (((Below.refl _ w).alloc (Nat.le_refl _) _).alloc qa51 _).alloc qa122 _
  have hB0 : Below w.heap.size w W0 := by rw [← hW0]; exact hB3.alloc qa13 _
  have bT : Boxed W0 (w.heap.size + 1) 3 (.int .i64 a2) := by
    have := ((Boxed.new W1 3 (.int .i64 a2)).alloc (.cells #[.int .i64 0] 3)).alloc (.cells #[.slice A' zs.length c'] 41); rw [hW2, hW3, hW0, s1] at this; exact this
  have bR : Boxed W0 (w.heap.size + 2) 3 (.int .i64 0) := by
    have := (Boxed.new W2 3 (.int .i64 0)).alloc (.cells #[.slice A' zs.length c'] 41); rw [hW3, hW0, s2] at this; exact this
  have bS : Boxed W0 (w.heap.size + 3) 41 (.slice A' zs.length c') := by
    have := Boxed.new W3 41 (.slice A' zs.length c'); rw [hW0, s3] at this; exact this
  have hs1 : W3.cell? ⟨w.heap.size, 0, none⟩ = some (.slice (some ad) l0_0.length c0_0) := by
    have hb : W1.heap[w.heap.size]? = some (.cells #[.slice (some ad) l0_0.length c0_0, .int .i64 a0_1] 28 (0, 0)) := by rw [← hW1]; exact World.alloc_heap_new w _
    have hb3 : W3.heap[w.heap.size]? = some (.cells #[.slice (some ad) l0_0.length c0_0, .int .i64 a0_1] 28 (0, 0)) := by
      rw [← hW3, ← hW2]
      exact qkA (qkA hb _) _
    exact (blk_cell hb3 0).trans rfl
  have hx3 : W3.cell? (ad.add a1.toNat) = some (.slice A' zs.length c') := (hB3.cell hblk).trans hx; refine callsIn_of_wp_marks Try.func68 rfl h3 ?_ hro; simp only [Try.ntmps68, List.size_toArray, List.length_cons, List.length_nil, Nat.reduceAdd, Nat.reduceSub, Array.replicate_succ, Array.replicate_zero, List.push_toArray, List.append_toArray, List.nil_append, List.cons_append]
  gi_wp2_with (gi_at_call 112; refine (bw.make_in F (n - 1) h4 hro _ _ _ _).mono ?_; rintro e w' ⟨rfl, rfl⟩)
  clear hs1 hx3 hW1 hW2 hW3 hW0 hx hu29
  refine wpIn_rangeFunc_ownH hro hn1 (gf := 130) (lb := #[.pointer (some ⟨w.heap.size + 3, 0, none⟩)]) rfl h5 (enters_of Try.func130 qa18 rfl) (bw.stops F (n - 1) h5 hro qa13 (w.heap.size + 3) (w.heap.size + 4) A' c' zs hreach W0 w qa13 qa13 qa13 hB0 bS.cell hrow) belowK_t (belowK_b qa13) (Below.refl _ _) (fun _ => rfl) (fun pre W => (((bw.No pre a2 ∧ Boxed W (w.heap.size + 2) 3 (.int .i64 0)) ∧ Boxed W (w.heap.size + 1) 3 (.int .i64 a2)) ∧ Boxed W (w.heap.size + 3) 41 (.slice A' zs.length c')) ∧ Below w.heap.size w W) (fun c pre W => ((c = .ret ∧ bw.Hit pre a2) ∧ Boxed W (w.heap.size + 2) 3 (.int .i64 (bw.last pre))) ∧ Below w.heap.size w W) (OwnFrom.and (OwnFrom.and (OwnFrom.and (OwnFrom.and (ownFrom_pure _ _) (Own.from (boxed_own _ _ _) _)) (Own.from (boxed_own _ _ _) _)) (Own.from (boxed_own _ _ _) _)) (ownFrom_below (Nat.le_refl _) qa13)) (fun c => OwnFrom.and (OwnFrom.and (ownFrom_pure _ _) (Own.from (boxed_own _ _ (fun pre => .int .i64 (bw.last pre))) _)) (ownFrom_below (Nat.le_refl _) qa13)) ⟨⟨⟨⟨bw.No_nil a2, bR⟩, bT⟩, bS⟩, hB0⟩ (fun x a' W => ∃ Bx, w.heap.size + 3 < Bx ∧ W.heap[Bx]? = some (.cells #[.int .i64 x.2.f0, .int .i64 x.2.f1] 43 (0, 0)) ∧ a' = { tmps := #[.agg #[.slice (some ad) l0_0.length c0_0, .int .i64 a0_1], .int .i64 a1, .int .i64 a2, .pointer (some ⟨w.heap.size, 0, none⟩), undef, .pointer (some ⟨w.heap.size + 1, 0, none⟩), .pointer (some ⟨w.heap.size + 2, 0, none⟩), undef, .pointer (some ⟨Bx, 0, none⟩), .pointer (some ⟨w.heap.size, 0, none⟩), .slice (some ad) l0_0.length c0_0, .int .i64 a1, .pointer (some (ad.add a1.toNat)), .slice A' zs.length c', .func (.func 130) #[] #[.pointer (some ⟨w.heap.size + 3, 0, none⟩)], .int .i64 x.1, .agg #[.int .i64 x.2.f0, .int .i64 x.2.f1], undef, undef, undef, undef, undef, undef], defers := [] }) (fun x a' _ X Y row hs hg hr => by
      obtain ⟨Bx, e1, e2, e3⟩ := hs
      exact ⟨Bx, e1, (hg.block Bx (Array.getElem?_eq_some_iff.1 e2).1 (fun e' => by obtain ⟨_, o, ho, hc⟩ := hr Bx e'.symm; rw [e2] at ho; cases ho; cases hc)).trans e2, e3⟩)
    ?assign ?body ?done ?stop
  case assign =>
    rintro l pre x W K ⟨⟨⟨⟨hp, bR1⟩, bT1⟩, bS1⟩, hB1⟩ hK; have hlt := bS1.lt
    gi_wp2
    exact hK _ _ ((KeepsOthers.alloc _ _).from _) ((Below.refl _ W).alloc qa13 _) ⟨⟨⟨⟨hp, bR1.alloc _⟩, bT1.alloc _⟩, bS1.alloc _⟩, hB1.alloc hB1.size _⟩ ⟨W.heap.size, hlt, World.alloc_heap_new W _, rfl⟩
  case body =>
    rintro l pre x a' W hl ⟨r, hr⟩ ⟨⟨⟨⟨hp, bR1⟩, bT1⟩, bS1⟩, hB1⟩ ⟨Bx, hBx, bX, rfl⟩ hlt; have cT := bT1.cell; have cR := bR1.cell; have fR := bR1.frozen; have cX0 : W.cell? ⟨Bx, 0, none⟩ = some (.int .i64 x.2.f0) := (blk_cell bX 0).trans rfl; have cX1 : W.cell? ⟨Bx, 1, none⟩ = some (.int .i64 x.2.f1) := (blk_cell bX 1).trans rfl
    by_cases hcmp : x.2.f0 ≤ a2
    · have hd : decide (x.2.f0 ≤ a2) = true := decide_eq_true hcmp
      have HC := qO hcmp; clear hcmp
      gi_wp2
      exact ⟨(KeepsOthers.setCell _ _ _).from _, ⟨⟨rfl, ⟨pre, x, rfl, hp, HC.out⟩⟩, by rw [bw.last_snoc]; exact bR1.set _⟩, hB1.setCell (p := ⟨w.heap.size + 2, 0, none⟩) (by show w.heap.size ≤ w.heap.size + 2; omega) _⟩
    · have hd : decide (x.2.f0 ≤ a2) = false := decide_eq_false hcmp
      have HC := qO hcmp; clear hcmp
      gi_wp2
      exact ⟨KeepsFrom.refl _ _, Below.refl _ _, ⟨⟨⟨bw.No_snoc hp (by have := HC.out; omega), bR1⟩, bT1⟩, bS1⟩, hB1⟩
  case done =>
    rintro D ys W hD rfl ⟨⟨⟨⟨hp, bR1⟩, bT1⟩, bS1⟩, hB1⟩ hK; have cR := bR1.cell; have fR := bR1.frozen
    gi_wp2
    have hK' := (KeepsOthers.setCell W ⟨w.heap.size + 2, 0, none⟩ (.int .i64 0)).same D _ hK rfl; refine ⟨qa51, .inl ⟨_, _, rfl, run_takeDeferred hK', ?_⟩⟩; have hc5 := cell_kept (bR1.set (.int .i64 0)).cell (grownBy_putObj' _ D (.deferred none)) (fun r e => by cases e; exact ⟨_, hK', rfl⟩); refine ⟨.int .i64 0, ?_, by rw [bw.val_none hp], (hB1.setCell (p := ⟨w.heap.size + 2, 0, none⟩) (by show w.heap.size ≤ w.heap.size + 2; omega) _).trans (belowK_b (w := w) (Nat.le_refl _) _ D _ _ qa13 hK' rfl rfl)⟩
    simp [results, Try.f68, go_sem, hc5]
  case stop =>
    rintro D c pre W hD ⟨k, hk, hpre⟩ ⟨⟨⟨rfl, q, x, rfl, hq, hx2⟩, bR1⟩, hB1⟩ hK
    gi_wp2
    refine ⟨qa51, .inl ⟨_, _, rfl, run_takeDeferred hK, ?_⟩⟩; have hc5 := cell_kept bR1.cell (grownBy_putObj' _ D (.deferred none)) (fun r e => by cases e; exact ⟨_, hK, rfl⟩); refine ⟨.int .i64 (bw.last (q ++ [x])), ?_, by rw [bw.last_snoc, bw.val_some hk hpre.symm hq hx2], hB1.trans (belowK_b (w := w) (Nat.le_refl _) W D _ _ qa13 hK rfl rfl)⟩
    simp [results, Try.f68, go_sem, hc5]
def impl_Store_readAt.f (l0_0 : List (List (S43))) (a0_1 : Int) (a1 : Int) (a2 : Int) : Option (Int) := if 0 ≤ a1 then (if a1 < (l0_0.length : Int) then (some (bw.val (rd_L4 l0_0 a1) a2)) else (none)) else (none)
theorem impl_Store_readAt.calls (A0_0 : Option Addr) (c0_0 : Nat) (l0_0 : List (List (S43))) (a0_1 : Int) (a1 : Int) (a2 : Int) (r : Int) (w : World) (hr0_0 : Kd.C (Kd.slice 43 k43) w A0_0 l0_0.length l0_0) (hc0_0 : l0_0.length ≤ c0_0) (h : impl_Store_readAt.f l0_0 a0_1 a1 a2 = some r) :
    Calls Try.prog 68 #[.agg #[.slice A0_0 l0_0.length c0_0, .int .i64 a0_1], .int .i64 a1, .int .i64 a2] w fun e w' => e = .returned (.int .i64 r) ∧ Below w.heap.size w w' := by
  unfold impl_Store_readAt.f at h
  by_cases h0 : 0 ≤ a1
  · rw [if_pos h0] at h
    by_cases h1 : a1 < (l0_0.length : Int)
    · rw [if_pos h1] at h
      obtain rfl := Option.some.inj h
      exact (callsIn_wide (n := 6)).1 (bw.readAt_in Fence.wide 6 trivial trivial trivial rfl (Nat.le_refl _) A0_0 c0_0 l0_0 a0_1 a1 a2 w hr0_0 h0 h1)
    · rw [if_neg h1] at h; cases h
  · rw [if_neg h0] at h; cases h
end
set_option maxHeartbeats 8000000
set_option maxRecDepth 100000
def slices_Clone_int_int.f (l0 : List Int) : Option (List Int) := if l0.length < 17592186044416 then some l0 else none
theorem slices_Clone_int_int.calls (A0 : Option Addr) (c0 : Nat) (l0 : List Int) (r : List Int) (w : World) (hr0 : Kd.C (Kd.int .i64) w A0 l0.length l0) (hc0 : l0.length ≤ c0) (h : slices_Clone_int_int.f l0 = some r) :
  Calls Try.prog 117 #[.slice A0 l0.length c0] w fun e w' => ∃ v0_ : Value, e = .returned (v0_) ∧ Kd.R (Kd.int .i64) 3 w' w.heap.size (fun _ => True) v0_ r ∧ Below w.heap.size w w' := by
 unfold slices_Clone_int_int.f at h
 by_cases hl : l0.length < 17592186044416
 ·rw [if_pos hl] at h
  obtain rfl := Option.some.inj h; have LM := qO hl; have HR0 := qO hr0; have HB := qO (Below.refl w.heap.size w)
  cases A0 with
  | none =>
   have hz : l0.length = 0 := by
    rcases Nat.eq_zero_or_pos l0.length with h0 | h0
    ·exact h0
    ·obtain ⟨ad, e, _⟩ := hr0.2.2 h0
     cases e
   obtain rfl := List.eq_nil_of_length_eq_zero hz; have heq := fun w => Lib.run_eql_slice_nil (P := Try.prog) w 60 3 none 0 c0 0 0 Try.underlying60
   clear hr0 hc0 hl LM HR0 hz
   go_enter Try.func117, Try.ntmps117
   go_wp2
   go_ret
   exact ⟨_, rfl, Kd.R_nil _ _ _ _ _, HB.out⟩
  | some a0 =>
   have heq := fun w => Lib.run_eql_slice_nil (P := Try.prog) w 60 3 (some a0) l0.length c0 0 0 Try.underlying60
   clear hr0 hc0 hl
   go_enter Try.func117, Try.ntmps117
   go_wp2_with (first | ((with_reducible refine gate_dst (N := 5) rfl ?_); refine Kd.R_lit (Kd.int .i64) _ 3 ?hg (N := 5) ?hd (xs := ([] : List Int)) (inner := []) (ok := fun _ => True) (okp := fun _ => True) ?hr ?hp (fun _ hk => hk) trivial (Below.refl _ _) (Nat.le_refl _) qa51 ?_; (case hd => rfl); (case hg => rfl); (case hr => exact qa40); (case hp => exact qa101); intro v104 w6 ho7 hb hg_ hnew_; clear hg_ hnew_; have n0_ := qO ho7; have n1_ := qO hb; clear HB; have HO := n0_; have HB := n1_; clear n0_ n1_ hb ho7) | ((with_reducible refine gate_builtin (b := .append) (xs := #[.tmp 5, .tmp 6]) rfl ?_); at_builtin; refine Kd.R_append_rows (Kd.int .i64) (w0 := w) w.heap.size rfl (.tmp 5) (.tmp 6) 60 3 (.int .i64 0) 8 rfl Try.underlying60 info3 rfl qa30 qa13 v104 [] l0 _ _ _ (fun _ => True) (fun _ => False) rfl rfl ?aO ?aR (fun _ _ h => h) (fun _ h => h.elim) ?aF ?aB ?aS ?aL ?_; (case aR => exact qa74); (case aB => exact HB.out); (case aF => exact qa102); (case aO => exact HO.out); (case aS => exact (below_size HB.out)); (case aL => exact qa123); intro v107 w10 ho hb hg hat; have n0_ := qO hb; have n1_ := qO ho; clear HB HO; have HB := n0_; have HO := n1_; clear n0_ n1_ ho hb hg hat))
   go_ret
   exact ⟨_, rfl, by simpa using HO.out, HB.out⟩
 ·rw [if_neg hl] at h
  cases h
set_option maxHeartbeats 8000000
set_option maxRecDepth 100000
def impl_Put_118.f (l0 : List (S58)) : Option (List (S58)) := if l0.length < 8796093022208 then some l0 else none
theorem impl_Put_118.calls (A0 : Option Addr) (c0 : Nat) (l0 : List (S58)) (r : List (S58)) (w : World) (hr0 : Kd.C k58 w A0 l0.length l0) (hc0 : l0.length ≤ c0) (h : impl_Put_118.f l0 = some r) :
  Calls Try.prog 118 #[.slice A0 l0.length c0] w fun e w' => ∃ v0_ : Value, e = .returned (v0_) ∧ Kd.R k58 58 w' w.heap.size (fun _ => True) v0_ r ∧ Below w.heap.size w w' := by
 unfold impl_Put_118.f at h
 by_cases hl : l0.length < 8796093022208
 ·rw [if_pos hl] at h
  obtain rfl := Option.some.inj h; have LM := qO hl; have HR0 := qO hr0; have HB := qO (Below.refl w.heap.size w)
  cases A0 with
  | none =>
   have hz : l0.length = 0 := by
    rcases Nat.eq_zero_or_pos l0.length with h0 | h0
    ·exact h0
    ·obtain ⟨ad, e, _⟩ := hr0.2.2 h0
     cases e
   obtain rfl := List.eq_nil_of_length_eq_zero hz; have heq := fun w => Lib.run_eql_slice_nil (P := Try.prog) w 51 58 none 0 c0 0 0 Try.underlying51
   clear hr0 hc0 hl LM HR0 hz
   go_enter Try.func118, Try.ntmps118
   go_wp2
   go_ret
   exact ⟨_, rfl, Kd.R_nil _ _ _ _ _, HB.out⟩
  | some a0 =>
   have heq := fun w => Lib.run_eql_slice_nil (P := Try.prog) w 51 58 (some a0) l0.length c0 0 0 Try.underlying51
   clear hr0 hc0 hl
   go_enter Try.func118, Try.ntmps118
   go_wp2_with (first | ((with_reducible refine gate_dst (N := 5) rfl ?_); refine Kd.R_lit k58 _ 58 ?hg (N := 5) ?hd (xs := ([] : List (S58))) (inner := []) (ok := fun _ => True) (okp := fun _ => True) ?hr ?hp (fun _ hk => hk) trivial (Below.refl _ _) (Nat.le_refl _) qa51 ?_; (case hd => rfl); (case hg => rfl); (case hr => exact qa40); (case hp => exact qa101); intro v104 w6 ho7 hb hg_ hnew_; clear hg_ hnew_; have n0_ := qO ho7; have n1_ := qO hb; clear HB; have HO := n0_; have HB := n1_; clear n0_ n1_ hb ho7) | ((with_reducible refine gate_builtin (b := .append) (xs := #[.tmp 5, .tmp 6]) rfl ?_); at_builtin; refine Kd.R_append_rows k58 (w0 := w) w.heap.size rfl (.tmp 5) (.tmp 6) 51 58 (.agg #[(.int .i64 0), (.int .i64 0)]) 16 rfl Try.underlying51 info58 rfl qa30 qa13 v104 [] l0 _ _ _ (fun _ => True) (fun _ => False) rfl rfl ?aO ?aR (fun _ _ h => h) (fun _ h => h.elim) ?aF ?aB ?aS ?aL ?_; (case aR => exact qa74); (case aB => exact HB.out); (case aF => exact qa102); (case aO => exact HO.out); (case aS => exact (below_size HB.out)); (case aL => exact qa123); intro v107 w10 ho hb hg hat; have n0_ := qO hb; have n1_ := qO ho; clear HB HO; have HB := n0_; have HO := n1_; clear n0_ n1_ ho hb hg hat))
   go_ret
   exact ⟨_, rfl, by simpa using HO.out, HB.out⟩
 ·rw [if_neg hl] at h
  cases h
set_option maxHeartbeats 8000000
set_option maxRecDepth 100000
def impl_copyTxn.f (a0_0 : Int) (l0_1 : List Int) (l0_2 : List (S58)) : Option (Int × List Int × (List (S58))) := (slices_Clone_int_int.f l0_1).bind fun t103 => ((impl_Put_118.f l0_2).bind fun t106 => (some (a0_0, t103, t106)))
def impl_copyTxn.T1 : Bool × List (List Nat × List Nat) := (true, [([], []), ([0], [0]), ([], []), ([2], [2]), ([3], [3]), ([], []), ([5], [5]), ([6, 4], [6]), ([1, 4, 7], [1, 4, 7]), ([8, 7, 0, 1, 2, 3, 4, 5, 6, 7, 8], [8])])
def impl_copyTxn.B1 : List Nat := [0, 1, 0, 4, 12, 0, 32, 124, 255, 511]
theorem impl_copyTxn.tab1 : rtab .any (opsOf Try.f81 1) = impl_copyTxn.T1 := by kernel_rfl
theorem impl_copyTxn.bits1 : waitsOk impl_copyTxn.T1.2 impl_copyTxn.B1 = true := by kernel_rfl
def z81_0 := #[qf,qf,qf,qf,qf,qf,qf,qf,qf,qf]
def z81_1 := #[qt,qf,qf,qf,qf,qf,qf,qf,qf,qf]
def z81_2 := #[qt,qf,qt,qf,qf,qf,qf,qf,qf,qf]
def z81_3 := #[qt,qf,qt,qf,qf,qt,qf,qf,qf,qf]
def z81_4 := #[qt,qt,qt,qf,qf,qt,qf,qf,qf,qf]
def z81_5 := #[qt,qt,qt,qt,qf,qt,qf,qf,qf,qf]
def z81_6 := #[qt,qt,qt,qt,qf,qt,qt,qf,qf,qf]
def z81_7 := #[qt,qt,qt,qt,qt,qt,qt,qf,qf,qf]
def z81_8 := #[qt,qt,qt,qt,qt,qt,qt,qt,qf,qf]
def z81_9 := #[qt,qt,qt,qt,qt,qt,qt,qt,qt,qf]
def z81_10 := #[qt,qt,qt,qt,qt,qt,qt,qt,qt,qt]
theorem impl_copyTxn.calls (a0_0 : Int) (A0_1 : Option Addr) (c0_1 : Nat) (l0_1 : List Int) (A0_2 : Option Addr) (c0_2 : Nat) (l0_2 : List (S58)) (r1 : Int) (r2 : List Int) (r3 : List (S58)) (w : World) (hr0_1 : Kd.C (Kd.int .i64) w A0_1 l0_1.length l0_1) (hc0_1 : l0_1.length ≤ c0_1) (hr0_2 : Kd.C k58 w A0_2 l0_2.length l0_2) (hc0_2 : l0_2.length ≤ c0_2) (h : impl_copyTxn.f a0_0 l0_1 l0_2 = some (r1, r2, r3)) :
  Calls Try.prog 81 #[.agg #[.int .i64 a0_0, .slice A0_1 l0_1.length c0_1, .slice A0_2 l0_2.length c0_2]] w fun e w' => ∃ v1_ v2_ : Value, e = .returned (.agg #[.int .i64 r1, v1_, v2_]) ∧ Kd.R (Kd.int .i64) 3 w' w.heap.size (fun _ => True) v1_ r2 ∧ Kd.R k58 58 w' w.heap.size (fun _ => True) v2_ r3 ∧ Below w.heap.size w w' := by
 have hu65 := Try.underlying65; have HR0_1 := qO hr0_1; have HC0_1 := qO hc0_1; clear hr0_1 hc0_1; have HR0_2 := qO hr0_2; have HC0_2 := qO hc0_2; clear hr0_2 hc0_2; have HB := qO (Below.refl w.heap.size w); have H : ((slices_Clone_int_int.f l0_1).bind fun t103 => ((impl_Put_118.f l0_2).bind fun t106 => (some (a0_0, t103, t106)))) = some (r1, r2, r3) := h; clear h; replace H := Option.bind_eq_some_iff.mp H; obtain ⟨t103, A20, H⟩ := H; have A2 := qO A20; clear A20; replace H := Option.bind_eq_some_iff.mp H; obtain ⟨t106, A30, H⟩ := H; have A3 := qO A30; clear A30; simp only [Option.some.injEq, Prod.mk.injEq] at H; obtain ⟨rfl, rfl, rfl⟩ := H
 go_enter Try.func81, Try.ntmps81
 try go_wp2_with (first | ((with_reducible refine gate_dst (N := 1) rfl ?_); refine qX 1 #[.int .i64 a0_0, .slice A0_1 l0_1.length c0_1, .slice A0_2 l0_2.length c0_2] 65 ?_; intro gb101 hg w4 hbox hb; have hx_ := qHX HB hb qa0; have BK101 := qO (hbox); have GW101 := qO ((qa3 : w.heap.size ≤ gb101)); have GE101 := GW101; replace HB := qO (below_step (below_step HB.out hx_) hb); clear hx_ hb hbox hg) | ((with_reducible refine gate_dst (N := 2) rfl ?_); refine qX 2 #[.int .i64 0, .slice none 0 0, .slice none 0 0] 65 ?_; intro gb102 hg w5 hbox hb; have hx_ := qHX HB hb qa0; have BK102 := qO (hbox); have GW102 := qO ((qa3 : w.heap.size ≤ gb102)); have GE102 := GW102; have NB101_102 := qO ((qLt hg (qk BK101.out))); have NB102_101 := qO (Ne.symm NB101_102.out); replace BK101 := qO (qB BK101.out hx_ hb); replace HB := qO (below_step (below_step HB.out hx_) hb); clear hx_ hb hbox hg))
 replace BK101 := qO (qkD BK101.out); replace BK102 := qO (qkD BK102.out); replace HB := qO (qbD HB.out); refine start_ (n := 10) (S := fun w' => w'.cell? ⟨gb101, 0, none⟩ = some (.int .i64 a0_0) ∧ w'.cell? ⟨gb101, 1, none⟩ = some (.slice A0_1 l0_1.length c0_1) ∧ w'.cell? ⟨gb101, 2, none⟩ = some (.slice A0_2 l0_2.length c0_2)) (ds := []) z81_0 qa18 rfl rfl ⟨qc0 BK101.out, qc1 BK101.out, qc2 BK101.out⟩ (fun hHeld => ?_); refine with_tabW impl_copyTxn.tab1 impl_copyTxn.bits1 (fun HT_ HW_ => ?_); generalize w5.drew = w6 at BK101 BK102 HB hHeld ⊢; refine qP 0 3 z81_1 ?_; refine qP 2 5 z81_2 ?_; refine qP 5 8 z81_3 ?_; refine qK3 1 4 z81_4 ?_; refine qK3 3 6 z81_5 ?_; refine qK3 6 9 z81_6 ?_; refine qOn 4 (some 7) z81_7 fun K hK => ?_; refine qGo Try.func117 #[.slice A0_1 l0_1.length c0_1] ?_; (with_reducible refine (slices_Clone_int_int.calls _ _ l0_1 t103 _ ?side1 ?side2 A2.out).mono ?_); (case side1 => exact qkC (Kd.C_below HR0_1.out HB.out)); (case side2 => exact HC0_1.out); rintro e w7 ⟨v104, rfl, ho0, hb⟩; have hx_ := qHX HB hb qa0; refine ⟨_, rfl, ?_⟩; have HO105 := qO (Kd.R_lower ho0 (below_size (below_step HB.out hx_))); replace BK101 := qO (qB BK101.out hx_ hb); replace BK102 := qO (qB BK102.out hx_ hb); replace HB := qO (below_step (below_step HB.out hx_) hb); clear hx_ hb ho0; refine hK.out _ _ ⟨qc0 BK101.out, qc1 BK101.out, qc2 BK101.out⟩ (fun hHeld => ?_); clear hK K; refine qNm ?_; refine qOn 7 (some 10) z81_8 fun K hK => ?_; refine qGo Try.func118 #[.slice A0_2 l0_2.length c0_2] ?_; (with_reducible refine (impl_Put_118.calls _ _ l0_2 t106 _ ?side1 ?side2 A3.out).mono ?_); (case side1 => exact qkC (Kd.C_below HR0_2.out HB.out)); (case side2 => exact HC0_2.out); rintro e w8 ⟨v107, rfl, ho0, hb⟩; have hx_ := qHX HB hb qa0; refine ⟨_, rfl, ?_⟩; have HO108 := qO (Kd.R_lower ho0 (below_size (below_step HB.out hx_))); replace HO105 := qO (Kd.R_below (qrR HO105.out) hb); replace BK101 := qO (qB BK101.out hx_ hb); replace BK102 := qO (qB BK102.out hx_ hb); replace HB := qO (below_step (below_step HB.out hx_) hb); clear hx_ hb ho0; obtain ⟨Ao9, co9, eo9⟩ := Kd.R_slice HO108.out; (first | subst eo9 | (injection eo9 with f1_ f2_ f3_; have f4_ := f1_.symm; have f5_ := f3_.symm; clear f1_ f2_ f3_; subst f4_; subst f5_)); obtain ⟨Ao10, co10, eo10⟩ := Kd.R_slice HO105.out; (first | subst eo10 | (injection eo10 with f1_ f2_ f3_; have f4_ := f1_.symm; have f5_ := f3_.symm; clear f1_ f2_ f3_; subst f4_; subst f5_)); refine hK.out _ _ ⟨qc0 BK101.out, qc1 BK101.out, qc2 BK101.out⟩ (fun hHeld => ?_); clear hK K; refine qNm ?_; refine qP 8 11 z81_9 ?_; refine qOn 9 none z81_10 fun K hK => ?_; have hs11 := qc0 BK102.out; have hfs11 := blk_frozen BK102.out 0; have hns11_0 := NB101_102.out; have hms11_0 := NB102_101.out; have hs12 := qc1 BK102.out; have hfs12 := blk_frozen BK102.out 1; have hns12_0 := NB101_102.out; have hms12_0 := NB102_101.out; have hs13 := qc2 BK102.out; have hfs13 := blk_frozen BK102.out 2; have hns13_0 := NB101_102.out; have hms13_0 := NB102_101.out; refine skip_ (w1 := ?_) (by rfl) rfl ?_ ?_; rotate_left
 ·go_simp
  rfl
 refine hK.out _ _ ⟨((cell_far (p := ⟨gb102, _, none⟩) NB101_102.out _).trans (((cell_far (p := ⟨gb102, _, none⟩) NB101_102.out _).trans (((cell_far (p := ⟨gb102, _, none⟩) NB101_102.out _).trans (hHeld.1)))))), ((cell_far (p := ⟨gb102, _, none⟩) NB101_102.out _).trans (((cell_far (p := ⟨gb102, _, none⟩) NB101_102.out _).trans (((cell_far (p := ⟨gb102, _, none⟩) NB101_102.out _).trans (hHeld.2.1)))))), ((cell_far (p := ⟨gb102, _, none⟩) NB101_102.out _).trans (((cell_far (p := ⟨gb102, _, none⟩) NB101_102.out _).trans (((cell_far (p := ⟨gb102, _, none⟩) NB101_102.out _).trans (hHeld.2.2))))))⟩ (fun hHeld => ?_); clear hK K; refine done_ (done_of HT_.out qa18) ?_
 try go_wp2
 refine bodyPost_ret (results_cell_row rfl _ _ gb102 65 #[.int .i64 a0_0, .slice Ao10 t103.length co10, .slice Ao9 t106.length co9] (0, 0) _ rfl (qU (qU (qU BK102.out))) Try.underlying65 rfl qa18) rfl ?_
 exact ⟨_, _, qa2, qrR (qR3 HO105.out BK102.out), qrR (qR3 HO108.out BK102.out), qH HB.out⟩
end Go.Proofs.Ytfiboooflebdpaa.Q
