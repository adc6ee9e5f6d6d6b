/- Texts of the claim on FnExactReadTxn, gathered by a program of this session: what the program's functions compute (proved by walks), and the plain part. -/
import Derived.Test.YtfiboooflebdpaaProg
import Derived.Shelf.Abstract
import Derived.Lib.SliceRun
import Derived.Below
import Derived.Deep.Draws
import Derived.Deep.AppendLies
import Derived.Maps.AppendAt
import Derived.OwnWalk
import Derived.Laws.BytesArg
import Derived.Laws.MakeOwn
import Derived.Laws.OwnMore
import Derived.Deep.OwnRows
import Derived.Tactics
import Derived.Lib.ConvBytes
import Derived.Laws.Slices
import Derived.WalkKit
import Derived.KernelRfl
import Derived.RowKit3
import Derived.Deep.LoopGhost
import Derived.Deep.QuietTactic
import Derived.BigQuiet
import Derived.WideLaws
import Derived.Deep.DeepCutAuto
import Derived.Deep.CutBlock
import Derived.Deep.RegionHeld3
import Derived.Laws.Rows
import Derived.Lib.AppendStr
import Derived.ArgAppend
import Derived.Laws.IdiomCopy
import Derived.OrdersHeld
import Derived.Laws.BitsLemmas
import Derived.RowKit
import Derived.Test.YtfiboooflebdpaaKFnExactReadTxnWWords
import Derived.Test.YtfiboooflebdpaaKFnExactReadTxnWLast
import Derived.Test.YtfiboooflebdpaaKFnExactReadTxnWTab
import Derived.Test.YtfiboooflebdpaaKFnExactReadTxnWQPut
import Derived.Test.YtfiboooflebdpaaKFnExactReadTxnWApart
import Derived.Test.YtfiboooflebdpaaKFnExactReadTxnWArr
import Derived.Test.YtfiboooflebdpaaKFnExactReadTxnWZeros
import Derived.Test.YtfiboooflebdpaaKFnExactReadTxnWFoot
import Derived.Test.YtfiboooflebdpaaKFnExactReadTxnWKept
import Derived.Test.YtfiboooflebdpaaKFnExactReadTxnWShare
import Derived.Test.YtfiboooflebdpaaKFnExactReadTxnWN
import Derived.Test.YtfiboooflebdpaaKFnExactReadTxnWRepsOne
import Derived.Test.YtfiboooflebdpaaKFnExactReadTxnWNEv
import Derived.Test.YtfiboooflebdpaaKFnExactReadTxnWMore
namespace Go.Proofs.Ytfiboooflebdpaa.Q
open Go.RowKit Go.Proofs.YtfiboooflebdpaaW.PrintWords Go.Proofs.YtfiboooflebdpaaW.PrintLast Go.Proofs.YtfiboooflebdpaaW.PrintMore
attribute [local go_sem] max2_int min2_int max_two min_two max_three min_three max_four min_four
set_option linter.unusedVariables false
set_option linter.unusedSimpArgs false



def errW : Option Int → Value
 | none => .nilIface
 | some c => .iface 0 (.int .i64 c)
theorem errW_none : errW none = .nilIface := rfl
theorem errW_some (c : Int) : errW (some c) = .iface 0 (.int .i64 c) := rfl

theorem info3 : (Try.prog.info? 3).map (fun i => (i.zero, i.size, i.bytes)) = some (some (.int .i64 0), 1, 8) := by kernel_rfl
theorem info41 : (Try.prog.info? 41).map (fun i => (i.zero, i.size, i.bytes)) = some (some (.slice none 0 0), 1, 24) := by kernel_rfl
theorem info43 : (Try.prog.info? 43).map (fun i => (i.zero, i.size, i.bytes)) = some (some (.agg #[(.int .i64 0), (.int .i64 0)]), 2, 16) := by kernel_rfl
theorem info58 : (Try.prog.info? 58).map (fun i => (i.zero, i.size, i.bytes)) = some (some (.agg #[(.int .i64 0), (.int .i64 0)]), 2, 16) := by kernel_rfl
-- the values' own types
/-! #### struct type 141 -/
structure S141 where
 f0 : Int
 f1 : Int
def z141 : S141 := ⟨(0 : Int), (0 : Int)⟩
def k141 : Kd S141 := Kd.iso (Kd.pair (Kd.int .i64) (Kd.int .i64)) (fun x : S141 => (x.f0, x.f1))
theorem k141_heap : Kd.Heap k141 := Kd.heap_iso _ (Kd.heap_pair (Kd.heap_int .i64) (Kd.heap_int .i64))
theorem k141_open {w : World} {x : S141} {cs : List Value} (h : k141.K w x cs) : cs = [.int .i64 x.f0, .int .i64 x.f1] := by
 obtain ⟨_, _, rfl, rfl, rfl⟩ := h
 exact rfl
theorem k141_openM {w : World} {base : Nat} {ok : Nat → Prop} {x : S141} {cs : List Value} (h : k141.M w base ok x cs) : cs = [.int .i64 x.f0, .int .i64 x.f1] := by
 obtain ⟨_, _, rfl, rfl, rfl⟩ := h
 exact rfl
theorem k141_mk (w : World) (x : S141)  : k141.K w x [.int .i64 x.f0, .int .i64 x.f1] := ⟨[.int .i64 x.f0], [.int .i64 x.f1], rfl, rfl, rfl⟩
theorem k141_mkM (w : World) (base : Nat) (ok : Nat → Prop) (x : S141)  : k141.M w base ok x [.int .i64 x.f0, .int .i64 x.f1] := ⟨[.int .i64 x.f0], [.int .i64 x.f1], rfl, rfl, rfl⟩
theorem k141_mkF (W : World) (ok : Nat → Prop) (x : S141) : Kd.FK k141 W ok x [.int .i64 x.f0, .int .i64 x.f1] := fun W2 _ => k141_mk W2 x
def rd_T141 (xs : List S141) (i : Int) : S141 := xs.getD i.toNat z141
theorem at_T141 {w : World} {A : Option Addr} {n : Nat} {xs : List S141} (h : Kd.C k141 w A n xs) (i : Int) (h0 : 0 ≤ i) (h1 : i < n) : ∃ ad , A = some ad ∧ w.cell? (ad.add (i.toNat * 2)) = some (.int .i64 (rd_T141 xs i).f0) ∧ w.cell? ⟨(ad.add (i.toNat * 2)).block, (ad.add (i.toNat * 2)).off + 1, none⟩ = some (.int .i64 (rd_T141 xs i).f1) := by
 obtain ⟨ad, c, e, _, hK, hc0⟩ := Kd.C_get h z141 i h0 h1
 have hc : ∀ j u, c[j]? = some u → w.cell? (ad.add (i.toNat * 2 + j)) = some u := hc0
 obtain rfl := k141_open hK
 exact ⟨ad, e, hc 0 _ rfl, by rw [← add_field _ _ 1 (by omega)]; exact hc 1 _ rfl⟩

def rd_L2 (xs : List (List S141)) (i : Int) : (List S141) := xs.getD i.toNat ([] : List S141)
theorem at_L2 {w : World} {A : Option Addr} {n : Nat} {xs : List (List S141)} (h : Kd.C (Kd.slice 141 k141) w A n xs) (i : Int) (h0 : 0 ≤ i) (h1 : i < n) : ∃ ad A0 c0, A = some ad ∧ w.cell? (ad.add i.toNat) = some (.slice A0 (rd_L2 xs i).length c0) ∧ (rd_L2 xs i).length ≤ c0 ∧ k141.C w A0 (rd_L2 xs i).length (rd_L2 xs i) := by
 obtain ⟨ad, c, e, _, hK, hc0⟩ := Kd.C_get h ([] : List S141) i h0 h1
 have hc : ∀ j u, c[j]? = some u → w.cell? (ad.add (i.toNat * 1 + j)) = some u := hc0
 obtain ⟨A0, c0, rfl, l0, g0⟩ := hK
 exact ⟨ad, A0, c0, e, by have hq := hc 0 _ rfl; rwa [Nat.mul_one, Nat.add_zero] at hq, l0, g0⟩

/-! #### struct type 43 -/
structure S43 where
 f0 : Int
 f1 : Int
def z43 : S43 := ⟨(0 : Int), (0 : Int)⟩
def k43 : Kd S43 := Kd.iso (Kd.pair (Kd.int .i64) (Kd.int .i64)) (fun x : S43 => (x.f0, x.f1))
theorem k43_heap : Kd.Heap k43 := Kd.heap_iso _ (Kd.heap_pair (Kd.heap_int .i64) (Kd.heap_int .i64))
theorem k43_open {w : World} {x : S43} {cs : List Value} (h : k43.K w x cs) : cs = [.int .i64 x.f0, .int .i64 x.f1] := by
 obtain ⟨_, _, rfl, rfl, rfl⟩ := h
 exact rfl
theorem k43_openM {w : World} {base : Nat} {ok : Nat → Prop} {x : S43} {cs : List Value} (h : k43.M w base ok x cs) : cs = [.int .i64 x.f0, .int .i64 x.f1] := by
 obtain ⟨_, _, rfl, rfl, rfl⟩ := h
 exact rfl
theorem k43_mk (w : World) (x : S43)  : k43.K w x [.int .i64 x.f0, .int .i64 x.f1] := ⟨[.int .i64 x.f0], [.int .i64 x.f1], rfl, rfl, rfl⟩
theorem k43_mkM (w : World) (base : Nat) (ok : Nat → Prop) (x : S43)  : k43.M w base ok x [.int .i64 x.f0, .int .i64 x.f1] := ⟨[.int .i64 x.f0], [.int .i64 x.f1], rfl, rfl, rfl⟩
theorem k43_mkF (W : World) (ok : Nat → Prop) (x : S43) : Kd.FK k43 W ok x [.int .i64 x.f0, .int .i64 x.f1] := fun W2 _ => k43_mk W2 x
def rd_T43 (xs : List S43) (i : Int) : S43 := xs.getD i.toNat z43
theorem at_T43 {w : World} {A : Option Addr} {n : Nat} {xs : List S43} (h : Kd.C k43 w A n xs) (i : Int) (h0 : 0 ≤ i) (h1 : i < n) : ∃ ad , A = some ad ∧ w.cell? (ad.add (i.toNat * 2)) = some (.int .i64 (rd_T43 xs i).f0) ∧ w.cell? ⟨(ad.add (i.toNat * 2)).block, (ad.add (i.toNat * 2)).off + 1, none⟩ = some (.int .i64 (rd_T43 xs i).f1) := by
 obtain ⟨ad, c, e, _, hK, hc0⟩ := Kd.C_get h z43 i h0 h1
 have hc : ∀ j u, c[j]? = some u → w.cell? (ad.add (i.toNat * 2 + j)) = some u := hc0
 obtain rfl := k43_open hK
 exact ⟨ad, e, hc 0 _ rfl, by rw [← add_field _ _ 1 (by omega)]; exact hc 1 _ rfl⟩

def rd_L4 (xs : List (List S43)) (i : Int) : (List S43) := xs.getD i.toNat ([] : List S43)
theorem at_L4 {w : World} {A : Option Addr} {n : Nat} {xs : List (List S43)} (h : Kd.C (Kd.slice 43 k43) w A n xs) (i : Int) (h0 : 0 ≤ i) (h1 : i < n) : ∃ ad A0 c0, A = some ad ∧ w.cell? (ad.add i.toNat) = some (.slice A0 (rd_L4 xs i).length c0) ∧ (rd_L4 xs i).length ≤ c0 ∧ k43.C w A0 (rd_L4 xs i).length (rd_L4 xs i) := by
 obtain ⟨ad, c, e, _, hK, hc0⟩ := Kd.C_get h ([] : List S43) i h0 h1
 have hc : ∀ j u, c[j]? = some u → w.cell? (ad.add (i.toNat * 1 + j)) = some u := hc0
 obtain ⟨A0, c0, rfl, l0, g0⟩ := hK
 exact ⟨ad, A0, c0, e, by have hq := hc 0 _ rfl; rwa [Nat.mul_one, Nat.add_zero] at hq, l0, g0⟩

def rd_L5 (xs : List (List (List S43))) (i : Int) : (List (List S43)) := xs.getD i.toNat ([] : List (List S43))
theorem at_L5 {w : World} {A : Option Addr} {n : Nat} {xs : List (List (List S43))} (h : Kd.C (Kd.slice 41 (Kd.slice 43 k43)) w A n xs) (i : Int) (h0 : 0 ≤ i) (h1 : i < n) : ∃ ad A0 c0, A = some ad ∧ w.cell? (ad.add i.toNat) = some (.slice A0 (rd_L5 xs i).length c0) ∧ (rd_L5 xs i).length ≤ c0 ∧ (Kd.slice 43 k43).C w A0 (rd_L5 xs i).length (rd_L5 xs i) := by
 obtain ⟨ad, c, e, _, hK, hc0⟩ := Kd.C_get h ([] : List (List S43)) i h0 h1
 have hc : ∀ j u, c[j]? = some u → w.cell? (ad.add (i.toNat * 1 + j)) = some u := hc0
 obtain ⟨A0, c0, rfl, l0, g0⟩ := hK
 exact ⟨ad, A0, c0, e, by have hq := hc 0 _ rfl; rwa [Nat.mul_one, Nat.add_zero] at hq, l0, g0⟩

/-! #### struct type 28 -/
structure S28 where
 f0 : (List (List S43))
 f1 : Int
def z28 : S28 := ⟨([] : List (List S43)), (0 : Int)⟩
def k28 : Kd S28 := Kd.iso (Kd.pair (Kd.slice 41 (Kd.slice 43 k43)) (Kd.int .i64)) (fun x : S28 => (x.f0, x.f1))
theorem k28_heap : Kd.Heap k28 := Kd.heap_iso _ (Kd.heap_pair (Kd.heap_slice 41 (Kd.heap_slice 43 k43_heap)) (Kd.heap_int .i64))
theorem k28_open {w : World} {x : S28} {cs : List Value} (h : k28.K w x cs) : ∃ A0 c0, cs = [.slice A0 x.f0.length c0, .int .i64 x.f1] ∧ x.f0.length ≤ c0 ∧ (Kd.slice 43 k43).C w A0 x.f0.length x.f0 := by
 obtain ⟨_, _, rfl, ⟨A0, c0, rfl, l0, g0⟩, rfl⟩ := h
 exact ⟨A0, c0, rfl, l0, g0⟩
theorem k28_openM {w : World} {base : Nat} {ok : Nat → Prop} {x : S28} {cs : List Value} (h : k28.M w base ok x cs) : ∃ v0, cs = [v0, .int .i64 x.f1] ∧ (Kd.slice 43 k43).R 41 w base ok v0 x.f0 := by
 obtain ⟨_, _, rfl, ⟨v0, rfl, g0⟩, rfl⟩ := h
 exact ⟨v0, rfl, g0⟩
theorem k28_mk (w : World) (x : S28) {A0 : Option Addr} {c0 : Nat} (l0 : x.f0.length ≤ c0) (g0 : (Kd.slice 43 k43).C w A0 x.f0.length x.f0) : k28.K w x [.slice A0 x.f0.length c0, .int .i64 x.f1] := ⟨[.slice A0 x.f0.length c0], [.int .i64 x.f1], rfl, ⟨A0, c0, rfl, l0, g0⟩, rfl⟩
theorem k28_mkM (w : World) (base : Nat) (ok : Nat → Prop) (x : S28) {v0 : Value} (g0 : (Kd.slice 43 k43).R 41 w base ok v0 x.f0) : k28.M w base ok x [v0, .int .i64 x.f1] := ⟨[v0], [.int .i64 x.f1], rfl, ⟨v0, rfl, g0⟩, rfl⟩
theorem k28_openF {W : World} {ok : Nat → Prop} {x : S28} {cs : List Value} (h : Kd.FK k28 W ok x cs) : ∃ A0 c0, cs = [.slice A0 x.f0.length c0, .int .i64 x.f1] ∧ x.f0.length ≤ c0 ∧ Kd.F (Kd.slice 43 k43) W ok A0 x.f0.length x.f0 := by
 obtain ⟨A0, c0, rfl, l0, _⟩ := k28_open (Kd.FK_now h)
 exact ⟨A0, c0, rfl, l0, (fun W' hW => by obtain ⟨A0_, c0_, he, l0_, g0_⟩ := k28_open (h W' hW); injection (Option.some.inj (show some (Value.slice A0 x.f0.length c0) = some (Value.slice A0_ x.f0.length c0_) from congrArg (fun l => l[0]?) he)) with ha_ _ _; rw [ha_]; exact g0_)⟩
theorem k28_mkF (W : World) (ok : Nat → Prop) (x : S28) {A0 : Option Addr} {c0 : Nat} (l0 : x.f0.length ≤ c0) (g0 : Kd.F (Kd.slice 43 k43) W ok A0 x.f0.length x.f0) : Kd.FK k28 W ok x [.slice A0 x.f0.length c0, .int .i64 x.f1] := fun W2 hW => k28_mk W2 x l0 (g0 W2 hW)
def rd_T28 (xs : List S28) (i : Int) : S28 := xs.getD i.toNat z28
theorem at_T28 {w : World} {A : Option Addr} {n : Nat} {xs : List S28} (h : Kd.C k28 w A n xs) (i : Int) (h0 : 0 ≤ i) (h1 : i < n) : ∃ ad A0 c0, A = some ad ∧ w.cell? (ad.add (i.toNat * 2)) = some (.slice A0 (rd_T28 xs i).f0.length c0) ∧ w.cell? ⟨(ad.add (i.toNat * 2)).block, (ad.add (i.toNat * 2)).off + 1, none⟩ = some (.int .i64 (rd_T28 xs i).f1) ∧ (rd_T28 xs i).f0.length ≤ c0 ∧ (Kd.slice 43 k43).C w A0 (rd_T28 xs i).f0.length (rd_T28 xs i).f0 := by
 obtain ⟨ad, c, e, _, hK, hc0⟩ := Kd.C_get h z28 i h0 h1
 have hc : ∀ j u, c[j]? = some u → w.cell? (ad.add (i.toNat * 2 + j)) = some u := hc0
 obtain ⟨A0, c0, rfl, l0, g0⟩ := k28_open hK
 exact ⟨ad, A0, c0, e, hc 0 _ rfl, by rw [← add_field _ _ 1 (by omega)]; exact hc 1 _ rfl, l0, g0⟩

/-! #### struct type 76 -/
structure S76 where
 f0 : Int
 f1 : Int
def z76 : S76 := ⟨(0 : Int), (0 : Int)⟩
def k76 : Kd S76 := Kd.iso (Kd.pair (Kd.int .i64) (Kd.int .i64)) (fun x : S76 => (x.f0, x.f1))
theorem k76_heap : Kd.Heap k76 := Kd.heap_iso _ (Kd.heap_pair (Kd.heap_int .i64) (Kd.heap_int .i64))
theorem k76_open {w : World} {x : S76} {cs : List Value} (h : k76.K w x cs) : cs = [.int .i64 x.f0, .int .i64 x.f1] := by
 obtain ⟨_, _, rfl, rfl, rfl⟩ := h
 exact rfl
theorem k76_openM {w : World} {base : Nat} {ok : Nat → Prop} {x : S76} {cs : List Value} (h : k76.M w base ok x cs) : cs = [.int .i64 x.f0, .int .i64 x.f1] := by
 obtain ⟨_, _, rfl, rfl, rfl⟩ := h
 exact rfl
theorem k76_mk (w : World) (x : S76)  : k76.K w x [.int .i64 x.f0, .int .i64 x.f1] := ⟨[.int .i64 x.f0], [.int .i64 x.f1], rfl, rfl, rfl⟩
theorem k76_mkM (w : World) (base : Nat) (ok : Nat → Prop) (x : S76)  : k76.M w base ok x [.int .i64 x.f0, .int .i64 x.f1] := ⟨[.int .i64 x.f0], [.int .i64 x.f1], rfl, rfl, rfl⟩
theorem k76_mkF (W : World) (ok : Nat → Prop) (x : S76) : Kd.FK k76 W ok x [.int .i64 x.f0, .int .i64 x.f1] := fun W2 _ => k76_mk W2 x
def rd_T76 (xs : List S76) (i : Int) : S76 := xs.getD i.toNat z76
theorem at_T76 {w : World} {A : Option Addr} {n : Nat} {xs : List S76} (h : Kd.C k76 w A n xs) (i : Int) (h0 : 0 ≤ i) (h1 : i < n) : ∃ ad , A = some ad ∧ w.cell? (ad.add (i.toNat * 2)) = some (.int .i64 (rd_T76 xs i).f0) ∧ w.cell? ⟨(ad.add (i.toNat * 2)).block, (ad.add (i.toNat * 2)).off + 1, none⟩ = some (.int .i64 (rd_T76 xs i).f1) := by
 obtain ⟨ad, c, e, _, hK, hc0⟩ := Kd.C_get h z76 i h0 h1
 have hc : ∀ j u, c[j]? = some u → w.cell? (ad.add (i.toNat * 2 + j)) = some u := hc0
 obtain rfl := k76_open hK
 exact ⟨ad, e, hc 0 _ rfl, by rw [← add_field _ _ 1 (by omega)]; exact hc 1 _ rfl⟩

/-! #### struct type 58 -/
structure S58 where
 f0 : Int
 f1 : Int
def z58 : S58 := ⟨(0 : Int), (0 : Int)⟩
def k58 : Kd S58 := Kd.iso (Kd.pair (Kd.int .i64) (Kd.int .i64)) (fun x : S58 => (x.f0, x.f1))
theorem k58_heap : Kd.Heap k58 := Kd.heap_iso _ (Kd.heap_pair (Kd.heap_int .i64) (Kd.heap_int .i64))
theorem k58_open {w : World} {x : S58} {cs : List Value} (h : k58.K w x cs) : cs = [.int .i64 x.f0, .int .i64 x.f1] := by
 obtain ⟨_, _, rfl, rfl, rfl⟩ := h
 exact rfl
theorem k58_openM {w : World} {base : Nat} {ok : Nat → Prop} {x : S58} {cs : List Value} (h : k58.M w base ok x cs) : cs = [.int .i64 x.f0, .int .i64 x.f1] := by
 obtain ⟨_, _, rfl, rfl, rfl⟩ := h
 exact rfl
theorem k58_mk (w : World) (x : S58)  : k58.K w x [.int .i64 x.f0, .int .i64 x.f1] := ⟨[.int .i64 x.f0], [.int .i64 x.f1], rfl, rfl, rfl⟩
theorem k58_mkM (w : World) (base : Nat) (ok : Nat → Prop) (x : S58)  : k58.M w base ok x [.int .i64 x.f0, .int .i64 x.f1] := ⟨[.int .i64 x.f0], [.int .i64 x.f1], rfl, rfl, rfl⟩
theorem k58_mkF (W : World) (ok : Nat → Prop) (x : S58) : Kd.FK k58 W ok x [.int .i64 x.f0, .int .i64 x.f1] := fun W2 _ => k58_mk W2 x
def rd_T58 (xs : List S58) (i : Int) : S58 := xs.getD i.toNat z58
theorem at_T58 {w : World} {A : Option Addr} {n : Nat} {xs : List S58} (h : Kd.C k58 w A n xs) (i : Int) (h0 : 0 ≤ i) (h1 : i < n) : ∃ ad , A = some ad ∧ w.cell? (ad.add (i.toNat * 2)) = some (.int .i64 (rd_T58 xs i).f0) ∧ w.cell? ⟨(ad.add (i.toNat * 2)).block, (ad.add (i.toNat * 2)).off + 1, none⟩ = some (.int .i64 (rd_T58 xs i).f1) := by
 obtain ⟨ad, c, e, _, hK, hc0⟩ := Kd.C_get h z58 i h0 h1
 have hc : ∀ j u, c[j]? = some u → w.cell? (ad.add (i.toNat * 2 + j)) = some u := hc0
 obtain rfl := k58_open hK
 exact ⟨ad, e, hc 0 _ rfl, by rw [← add_field _ _ 1 (by omega)]; exact hc 1 _ rfl⟩

def rd_L9 (xs : List (List S58)) (i : Int) : (List S58) := xs.getD i.toNat ([] : List S58)
theorem at_L9 {w : World} {A : Option Addr} {n : Nat} {xs : List (List S58)} (h : Kd.C (Kd.slice 58 k58) w A n xs) (i : Int) (h0 : 0 ≤ i) (h1 : i < n) : ∃ ad A0 c0, A = some ad ∧ w.cell? (ad.add i.toNat) = some (.slice A0 (rd_L9 xs i).length c0) ∧ (rd_L9 xs i).length ≤ c0 ∧ k58.C w A0 (rd_L9 xs i).length (rd_L9 xs i) := by
 obtain ⟨ad, c, e, _, hK, hc0⟩ := Kd.C_get h ([] : List S58) i h0 h1
 have hc : ∀ j u, c[j]? = some u → w.cell? (ad.add (i.toNat * 1 + j)) = some u := hc0
 obtain ⟨A0, c0, rfl, l0, g0⟩ := hK
 exact ⟨ad, A0, c0, e, by have hq := hc 0 _ rfl; rwa [Nat.mul_one, Nat.add_zero] at hq, l0, g0⟩

def rd_L11 (xs : List (List Int)) (i : Int) : (List Int) := xs.getD i.toNat ([] : List Int)
theorem at_L11 {w : World} {A : Option Addr} {n : Nat} {xs : List (List Int)} (h : Kd.C (Kd.slice 3 (Kd.int .i64)) w A n xs) (i : Int) (h0 : 0 ≤ i) (h1 : i < n) : ∃ ad A0 c0, A = some ad ∧ w.cell? (ad.add i.toNat) = some (.slice A0 (rd_L11 xs i).length c0) ∧ (rd_L11 xs i).length ≤ c0 ∧ (Kd.int .i64).C w A0 (rd_L11 xs i).length (rd_L11 xs i) := by
 obtain ⟨ad, c, e, _, hK, hc0⟩ := Kd.C_get h ([] : List Int) i h0 h1
 have hc : ∀ j u, c[j]? = some u → w.cell? (ad.add (i.toNat * 1 + j)) = some u := hc0
 obtain ⟨A0, c0, rfl, l0, g0⟩ := hK
 exact ⟨ad, A0, c0, e, by have hq := hc 0 _ rfl; rwa [Nat.mul_one, Nat.add_zero] at hq, l0, g0⟩

/-! #### struct type 65 -/
structure S65 where
 f0 : Int
 f1 : (List Int)
 f2 : (List S58)
def z65 : S65 := ⟨(0 : Int), ([] : List Int), ([] : List S58)⟩
def k65 : Kd S65 := Kd.iso (Kd.pair (Kd.int .i64) (Kd.pair (Kd.slice 3 (Kd.int .i64)) (Kd.slice 58 k58))) (fun x : S65 => (x.f0, x.f1, x.f2))
theorem k65_heap : Kd.Heap k65 := Kd.heap_iso _ (Kd.heap_pair (Kd.heap_int .i64) (Kd.heap_pair (Kd.heap_slice 3 (Kd.heap_int .i64)) (Kd.heap_slice 58 k58_heap)))
theorem k65_open {w : World} {x : S65} {cs : List Value} (h : k65.K w x cs) : ∃ A1 c1 A2 c2, cs = [.int .i64 x.f0, .slice A1 x.f1.length c1, .slice A2 x.f2.length c2] ∧ x.f1.length ≤ c1 ∧ (Kd.int .i64).C w A1 x.f1.length x.f1 ∧ x.f2.length ≤ c2 ∧ k58.C w A2 x.f2.length x.f2 := by
 obtain ⟨_, _, rfl, rfl, ⟨_, _, rfl, ⟨A1, c1, rfl, l1, g1⟩, ⟨A2, c2, rfl, l2, g2⟩⟩⟩ := h
 exact ⟨A1, c1, A2, c2, rfl, l1, g1, l2, g2⟩
theorem k65_openM {w : World} {base : Nat} {ok : Nat → Prop} {x : S65} {cs : List Value} (h : k65.M w base ok x cs) : ∃ v1 v2, cs = [.int .i64 x.f0, v1, v2] ∧ (Kd.int .i64).R 3 w base ok v1 x.f1 ∧ k58.R 58 w base ok v2 x.f2 := by
 obtain ⟨_, _, rfl, rfl, ⟨_, _, rfl, ⟨v1, rfl, g1⟩, ⟨v2, rfl, g2⟩⟩⟩ := h
 exact ⟨v1, v2, rfl, g1, g2⟩
theorem k65_mk (w : World) (x : S65) {A1 : Option Addr} {c1 : Nat} (l1 : x.f1.length ≤ c1) (g1 : (Kd.int .i64).C w A1 x.f1.length x.f1) {A2 : Option Addr} {c2 : Nat} (l2 : x.f2.length ≤ c2) (g2 : k58.C w A2 x.f2.length x.f2) : k65.K w x [.int .i64 x.f0, .slice A1 x.f1.length c1, .slice A2 x.f2.length c2] := ⟨[.int .i64 x.f0], [.slice A1 x.f1.length c1, .slice A2 x.f2.length c2], rfl, rfl, ⟨[.slice A1 x.f1.length c1], [.slice A2 x.f2.length c2], rfl, ⟨A1, c1, rfl, l1, g1⟩, ⟨A2, c2, rfl, l2, g2⟩⟩⟩
theorem k65_mkM (w : World) (base : Nat) (ok : Nat → Prop) (x : S65) {v1 : Value} (g1 : (Kd.int .i64).R 3 w base ok v1 x.f1) {v2 : Value} (g2 : k58.R 58 w base ok v2 x.f2) : k65.M w base ok x [.int .i64 x.f0, v1, v2] := ⟨[.int .i64 x.f0], [v1, v2], rfl, rfl, ⟨[v1], [v2], rfl, ⟨v1, rfl, g1⟩, ⟨v2, rfl, g2⟩⟩⟩
theorem k65_openF {W : World} {ok : Nat → Prop} {x : S65} {cs : List Value} (h : Kd.FK k65 W ok x cs) : ∃ A1 c1 A2 c2, cs = [.int .i64 x.f0, .slice A1 x.f1.length c1, .slice A2 x.f2.length c2] ∧ x.f1.length ≤ c1 ∧ Kd.F (Kd.int .i64) W ok A1 x.f1.length x.f1 ∧ x.f2.length ≤ c2 ∧ Kd.F k58 W ok A2 x.f2.length x.f2 := by
 obtain ⟨A1, c1, A2, c2, rfl, l1, _, l2, _⟩ := k65_open (Kd.FK_now h)
 exact ⟨A1, c1, A2, c2, rfl, l1, (fun W' hW => by obtain ⟨A1_, c1_, A2_, c2_, he, l1_, g1_, l2_, g2_⟩ := k65_open (h W' hW); injection (Option.some.inj (show some (Value.slice A1 x.f1.length c1) = some (Value.slice A1_ x.f1.length c1_) from congrArg (fun l => l[1]?) he)) with ha_ _ _; rw [ha_]; exact g1_), l2, (fun W' hW => by obtain ⟨A1_, c1_, A2_, c2_, he, l1_, g1_, l2_, g2_⟩ := k65_open (h W' hW); injection (Option.some.inj (show some (Value.slice A2 x.f2.length c2) = some (Value.slice A2_ x.f2.length c2_) from congrArg (fun l => l[2]?) he)) with ha_ _ _; rw [ha_]; exact g2_)⟩
theorem k65_mkF (W : World) (ok : Nat → Prop) (x : S65) {A1 : Option Addr} {c1 : Nat} (l1 : x.f1.length ≤ c1) (g1 : Kd.F (Kd.int .i64) W ok A1 x.f1.length x.f1) {A2 : Option Addr} {c2 : Nat} (l2 : x.f2.length ≤ c2) (g2 : Kd.F k58 W ok A2 x.f2.length x.f2) : Kd.FK k65 W ok x [.int .i64 x.f0, .slice A1 x.f1.length c1, .slice A2 x.f2.length c2] := fun W2 hW => k65_mk W2 x l1 (g1 W2 hW) l2 (g2 W2 hW)
def rd_T65 (xs : List S65) (i : Int) : S65 := xs.getD i.toNat z65
theorem at_T65 {w : World} {A : Option Addr} {n : Nat} {xs : List S65} (h : Kd.C k65 w A n xs) (i : Int) (h0 : 0 ≤ i) (h1 : i < n) : ∃ ad A1 c1 A2 c2, A = some ad ∧ w.cell? (ad.add (i.toNat * 3)) = some (.int .i64 (rd_T65 xs i).f0) ∧ w.cell? ⟨(ad.add (i.toNat * 3)).block, (ad.add (i.toNat * 3)).off + 1, none⟩ = some (.slice A1 (rd_T65 xs i).f1.length c1) ∧ w.cell? ⟨(ad.add (i.toNat * 3)).block, (ad.add (i.toNat * 3)).off + 2, none⟩ = some (.slice A2 (rd_T65 xs i).f2.length c2) ∧ (rd_T65 xs i).f1.length ≤ c1 ∧ (Kd.int .i64).C w A1 (rd_T65 xs i).f1.length (rd_T65 xs i).f1 ∧ (rd_T65 xs i).f2.length ≤ c2 ∧ k58.C w A2 (rd_T65 xs i).f2.length (rd_T65 xs i).f2 := by
 obtain ⟨ad, c, e, _, hK, hc0⟩ := Kd.C_get h z65 i h0 h1
 have hc : ∀ j u, c[j]? = some u → w.cell? (ad.add (i.toNat * 3 + j)) = some u := hc0
 obtain ⟨A1, c1, A2, c2, rfl, l1, g1, l2, g2⟩ := k65_open hK
 exact ⟨ad, A1, c1, A2, c2, e, hc 0 _ rfl, by rw [← add_field _ _ 1 (by omega)]; exact hc 1 _ rfl, by rw [← add_field _ _ 2 (by omega)]; exact hc 2 _ rfl, l1, g1, l2, g2⟩

def rd_L13 (xs : List (List (List S141))) (i : Int) : (List (List S141)) := xs.getD i.toNat ([] : List (List S141))
theorem at_L13 {w : World} {A : Option Addr} {n : Nat} {xs : List (List (List S141))} (h : Kd.C (Kd.slice 122 (Kd.slice 141 k141)) w A n xs) (i : Int) (h0 : 0 ≤ i) (h1 : i < n) : ∃ ad A0 c0, A = some ad ∧ w.cell? (ad.add i.toNat) = some (.slice A0 (rd_L13 xs i).length c0) ∧ (rd_L13 xs i).length ≤ c0 ∧ (Kd.slice 141 k141).C w A0 (rd_L13 xs i).length (rd_L13 xs i) := by
 obtain ⟨ad, c, e, _, hK, hc0⟩ := Kd.C_get h ([] : List (List S141)) i h0 h1
 have hc : ∀ j u, c[j]? = some u → w.cell? (ad.add (i.toNat * 1 + j)) = some u := hc0
 obtain ⟨A0, c0, rfl, l0, g0⟩ := hK
 exact ⟨ad, A0, c0, e, by have hq := hc 0 _ rfl; rwa [Nat.mul_one, Nat.add_zero] at hq, l0, g0⟩

/-! #### struct type 24 -/
structure S24 where
 f0 : (List (List S141))
 f1 : Int
def z24 : S24 := ⟨([] : List (List S141)), (0 : Int)⟩
def k24 : Kd S24 := Kd.iso (Kd.pair (Kd.slice 122 (Kd.slice 141 k141)) (Kd.int .i64)) (fun x : S24 => (x.f0, x.f1))
theorem k24_heap : Kd.Heap k24 := Kd.heap_iso _ (Kd.heap_pair (Kd.heap_slice 122 (Kd.heap_slice 141 k141_heap)) (Kd.heap_int .i64))
theorem k24_open {w : World} {x : S24} {cs : List Value} (h : k24.K w x cs) : ∃ A0 c0, cs = [.slice A0 x.f0.length c0, .int .i64 x.f1] ∧ x.f0.length ≤ c0 ∧ (Kd.slice 141 k141).C w A0 x.f0.length x.f0 := by
 obtain ⟨_, _, rfl, ⟨A0, c0, rfl, l0, g0⟩, rfl⟩ := h
 exact ⟨A0, c0, rfl, l0, g0⟩
theorem k24_openM {w : World} {base : Nat} {ok : Nat → Prop} {x : S24} {cs : List Value} (h : k24.M w base ok x cs) : ∃ v0, cs = [v0, .int .i64 x.f1] ∧ (Kd.slice 141 k141).R 122 w base ok v0 x.f0 := by
 obtain ⟨_, _, rfl, ⟨v0, rfl, g0⟩, rfl⟩ := h
 exact ⟨v0, rfl, g0⟩
theorem k24_mk (w : World) (x : S24) {A0 : Option Addr} {c0 : Nat} (l0 : x.f0.length ≤ c0) (g0 : (Kd.slice 141 k141).C w A0 x.f0.length x.f0) : k24.K w x [.slice A0 x.f0.length c0, .int .i64 x.f1] := ⟨[.slice A0 x.f0.length c0], [.int .i64 x.f1], rfl, ⟨A0, c0, rfl, l0, g0⟩, rfl⟩
theorem k24_mkM (w : World) (base : Nat) (ok : Nat → Prop) (x : S24) {v0 : Value} (g0 : (Kd.slice 141 k141).R 122 w base ok v0 x.f0) : k24.M w base ok x [v0, .int .i64 x.f1] := ⟨[v0], [.int .i64 x.f1], rfl, ⟨v0, rfl, g0⟩, rfl⟩
theorem k24_openF {W : World} {ok : Nat → Prop} {x : S24} {cs : List Value} (h : Kd.FK k24 W ok x cs) : ∃ A0 c0, cs = [.slice A0 x.f0.length c0, .int .i64 x.f1] ∧ x.f0.length ≤ c0 ∧ Kd.F (Kd.slice 141 k141) W ok A0 x.f0.length x.f0 := by
 obtain ⟨A0, c0, rfl, l0, _⟩ := k24_open (Kd.FK_now h)
 exact ⟨A0, c0, rfl, l0, (fun W' hW => by obtain ⟨A0_, c0_, he, l0_, g0_⟩ := k24_open (h W' hW); injection (Option.some.inj (show some (Value.slice A0 x.f0.length c0) = some (Value.slice A0_ x.f0.length c0_) from congrArg (fun l => l[0]?) he)) with ha_ _ _; rw [ha_]; exact g0_)⟩
theorem k24_mkF (W : World) (ok : Nat → Prop) (x : S24) {A0 : Option Addr} {c0 : Nat} (l0 : x.f0.length ≤ c0) (g0 : Kd.F (Kd.slice 141 k141) W ok A0 x.f0.length x.f0) : Kd.FK k24 W ok x [.slice A0 x.f0.length c0, .int .i64 x.f1] := fun W2 hW => k24_mk W2 x l0 (g0 W2 hW)
def rd_T24 (xs : List S24) (i : Int) : S24 := xs.getD i.toNat z24
theorem at_T24 {w : World} {A : Option Addr} {n : Nat} {xs : List S24} (h : Kd.C k24 w A n xs) (i : Int) (h0 : 0 ≤ i) (h1 : i < n) : ∃ ad A0 c0, A = some ad ∧ w.cell? (ad.add (i.toNat * 2)) = some (.slice A0 (rd_T24 xs i).f0.length c0) ∧ w.cell? ⟨(ad.add (i.toNat * 2)).block, (ad.add (i.toNat * 2)).off + 1, none⟩ = some (.int .i64 (rd_T24 xs i).f1) ∧ (rd_T24 xs i).f0.length ≤ c0 ∧ (Kd.slice 141 k141).C w A0 (rd_T24 xs i).f0.length (rd_T24 xs i).f0 := by
 obtain ⟨ad, c, e, _, hK, hc0⟩ := Kd.C_get h z24 i h0 h1
 have hc : ∀ j u, c[j]? = some u → w.cell? (ad.add (i.toNat * 2 + j)) = some u := hc0
 obtain ⟨A0, c0, rfl, l0, g0⟩ := k24_open hK
 exact ⟨ad, A0, c0, e, hc 0 _ rfl, by rw [← add_field _ _ 1 (by omega)]; exact hc 1 _ rfl, l0, g0⟩

def rd_L15 (xs : List (List S76)) (i : Int) : (List S76) := xs.getD i.toNat ([] : List S76)
theorem at_L15 {w : World} {A : Option Addr} {n : Nat} {xs : List (List S76)} (h : Kd.C (Kd.slice 76 k76) w A n xs) (i : Int) (h0 : 0 ≤ i) (h1 : i < n) : ∃ ad A0 c0, A = some ad ∧ w.cell? (ad.add i.toNat) = some (.slice A0 (rd_L15 xs i).length c0) ∧ (rd_L15 xs i).length ≤ c0 ∧ k76.C w A0 (rd_L15 xs i).length (rd_L15 xs i) := by
 obtain ⟨ad, c, e, _, hK, hc0⟩ := Kd.C_get h ([] : List S76) i h0 h1
 have hc : ∀ j u, c[j]? = some u → w.cell? (ad.add (i.toNat * 1 + j)) = some u := hc0
 obtain ⟨A0, c0, rfl, l0, g0⟩ := hK
 exact ⟨ad, A0, c0, e, by have hq := hc 0 _ rfl; rwa [Nat.mul_one, Nat.add_zero] at hq, l0, g0⟩

/-! #### struct type 75 -/
structure S75 where
 f0 : Int
 f1 : (List Int)
 f2 : (List S76)
def z75 : S75 := ⟨(0 : Int), ([] : List Int), ([] : List S76)⟩
def k75 : Kd S75 := Kd.iso (Kd.pair (Kd.int .i64) (Kd.pair (Kd.slice 3 (Kd.int .i64)) (Kd.slice 76 k76))) (fun x : S75 => (x.f0, x.f1, x.f2))
theorem k75_heap : Kd.Heap k75 := Kd.heap_iso _ (Kd.heap_pair (Kd.heap_int .i64) (Kd.heap_pair (Kd.heap_slice 3 (Kd.heap_int .i64)) (Kd.heap_slice 76 k76_heap)))
theorem k75_open {w : World} {x : S75} {cs : List Value} (h : k75.K w x cs) : ∃ A1 c1 A2 c2, cs = [.int .i64 x.f0, .slice A1 x.f1.length c1, .slice A2 x.f2.length c2] ∧ x.f1.length ≤ c1 ∧ (Kd.int .i64).C w A1 x.f1.length x.f1 ∧ x.f2.length ≤ c2 ∧ k76.C w A2 x.f2.length x.f2 := by
 obtain ⟨_, _, rfl, rfl, ⟨_, _, rfl, ⟨A1, c1, rfl, l1, g1⟩, ⟨A2, c2, rfl, l2, g2⟩⟩⟩ := h
 exact ⟨A1, c1, A2, c2, rfl, l1, g1, l2, g2⟩
theorem k75_openM {w : World} {base : Nat} {ok : Nat → Prop} {x : S75} {cs : List Value} (h : k75.M w base ok x cs) : ∃ v1 v2, cs = [.int .i64 x.f0, v1, v2] ∧ (Kd.int .i64).R 3 w base ok v1 x.f1 ∧ k76.R 76 w base ok v2 x.f2 := by
 obtain ⟨_, _, rfl, rfl, ⟨_, _, rfl, ⟨v1, rfl, g1⟩, ⟨v2, rfl, g2⟩⟩⟩ := h
 exact ⟨v1, v2, rfl, g1, g2⟩
theorem k75_mk (w : World) (x : S75) {A1 : Option Addr} {c1 : Nat} (l1 : x.f1.length ≤ c1) (g1 : (Kd.int .i64).C w A1 x.f1.length x.f1) {A2 : Option Addr} {c2 : Nat} (l2 : x.f2.length ≤ c2) (g2 : k76.C w A2 x.f2.length x.f2) : k75.K w x [.int .i64 x.f0, .slice A1 x.f1.length c1, .slice A2 x.f2.length c2] := ⟨[.int .i64 x.f0], [.slice A1 x.f1.length c1, .slice A2 x.f2.length c2], rfl, rfl, ⟨[.slice A1 x.f1.length c1], [.slice A2 x.f2.length c2], rfl, ⟨A1, c1, rfl, l1, g1⟩, ⟨A2, c2, rfl, l2, g2⟩⟩⟩
theorem k75_mkM (w : World) (base : Nat) (ok : Nat → Prop) (x : S75) {v1 : Value} (g1 : (Kd.int .i64).R 3 w base ok v1 x.f1) {v2 : Value} (g2 : k76.R 76 w base ok v2 x.f2) : k75.M w base ok x [.int .i64 x.f0, v1, v2] := ⟨[.int .i64 x.f0], [v1, v2], rfl, rfl, ⟨[v1], [v2], rfl, ⟨v1, rfl, g1⟩, ⟨v2, rfl, g2⟩⟩⟩
theorem k75_openF {W : World} {ok : Nat → Prop} {x : S75} {cs : List Value} (h : Kd.FK k75 W ok x cs) : ∃ A1 c1 A2 c2, cs = [.int .i64 x.f0, .slice A1 x.f1.length c1, .slice A2 x.f2.length c2] ∧ x.f1.length ≤ c1 ∧ Kd.F (Kd.int .i64) W ok A1 x.f1.length x.f1 ∧ x.f2.length ≤ c2 ∧ Kd.F k76 W ok A2 x.f2.length x.f2 := by
 obtain ⟨A1, c1, A2, c2, rfl, l1, _, l2, _⟩ := k75_open (Kd.FK_now h)
 exact ⟨A1, c1, A2, c2, rfl, l1, (fun W' hW => by obtain ⟨A1_, c1_, A2_, c2_, he, l1_, g1_, l2_, g2_⟩ := k75_open (h W' hW); injection (Option.some.inj (show some (Value.slice A1 x.f1.length c1) = some (Value.slice A1_ x.f1.length c1_) from congrArg (fun l => l[1]?) he)) with ha_ _ _; rw [ha_]; exact g1_), l2, (fun W' hW => by obtain ⟨A1_, c1_, A2_, c2_, he, l1_, g1_, l2_, g2_⟩ := k75_open (h W' hW); injection (Option.some.inj (show some (Value.slice A2 x.f2.length c2) = some (Value.slice A2_ x.f2.length c2_) from congrArg (fun l => l[2]?) he)) with ha_ _ _; rw [ha_]; exact g2_)⟩
theorem k75_mkF (W : World) (ok : Nat → Prop) (x : S75) {A1 : Option Addr} {c1 : Nat} (l1 : x.f1.length ≤ c1) (g1 : Kd.F (Kd.int .i64) W ok A1 x.f1.length x.f1) {A2 : Option Addr} {c2 : Nat} (l2 : x.f2.length ≤ c2) (g2 : Kd.F k76 W ok A2 x.f2.length x.f2) : Kd.FK k75 W ok x [.int .i64 x.f0, .slice A1 x.f1.length c1, .slice A2 x.f2.length c2] := fun W2 hW => k75_mk W2 x l1 (g1 W2 hW) l2 (g2 W2 hW)
def rd_T75 (xs : List S75) (i : Int) : S75 := xs.getD i.toNat z75
theorem at_T75 {w : World} {A : Option Addr} {n : Nat} {xs : List S75} (h : Kd.C k75 w A n xs) (i : Int) (h0 : 0 ≤ i) (h1 : i < n) : ∃ ad A1 c1 A2 c2, A = some ad ∧ w.cell? (ad.add (i.toNat * 3)) = some (.int .i64 (rd_T75 xs i).f0) ∧ w.cell? ⟨(ad.add (i.toNat * 3)).block, (ad.add (i.toNat * 3)).off + 1, none⟩ = some (.slice A1 (rd_T75 xs i).f1.length c1) ∧ w.cell? ⟨(ad.add (i.toNat * 3)).block, (ad.add (i.toNat * 3)).off + 2, none⟩ = some (.slice A2 (rd_T75 xs i).f2.length c2) ∧ (rd_T75 xs i).f1.length ≤ c1 ∧ (Kd.int .i64).C w A1 (rd_T75 xs i).f1.length (rd_T75 xs i).f1 ∧ (rd_T75 xs i).f2.length ≤ c2 ∧ k76.C w A2 (rd_T75 xs i).f2.length (rd_T75 xs i).f2 := by
 obtain ⟨ad, c, e, _, hK, hc0⟩ := Kd.C_get h z75 i h0 h1
 have hc : ∀ j u, c[j]? = some u → w.cell? (ad.add (i.toNat * 3 + j)) = some u := hc0
 obtain ⟨A1, c1, A2, c2, rfl, l1, g1, l2, g2⟩ := k75_open hK
 exact ⟨ad, A1, c1, A2, c2, e, hc 0 _ rfl, by rw [← add_field _ _ 1 (by omega)]; exact hc 1 _ rfl, by rw [← add_field _ _ 2 (by omega)]; exact hc 2 _ rfl, l1, g1, l2, g2⟩

end Go.Proofs.Ytfiboooflebdpaa.Q
namespace Go.Proofs.Ytfiboooflebdpaa.Q
open Go.RowKit Go.Proofs.YtfiboooflebdpaaW.PrintWords
theorem qzA {α : Type} (l : List α) (i : Nat) (a : α) : l.toArray.setIfInBounds i a = (l.set i a).toArray := List.setIfInBounds_toArray l i a
theorem qzB {α : Type} {a b : α} {t : List α} : (a :: t).set 0 b = b :: t := rfl
theorem qzC {α : Type} {a b : α} {t : List α} {n : Nat} : (a :: t).set (n + 1) b = a :: t.set n b := rfl
theorem qbN {B : Nat} {w W : World} (h : Below B w W) (n : Nat) : Below B w (W.drewN n) := pw_below_drewN h n
theorem qbA {w W : World} (h : Below w.heap.size w W) (o : Obj) : Below w.heap.size w (W.alloc o) := below_alloc h o
theorem qbD {base : Nat} {w W : World} (h : Below base w W) : Below base w W.drew := below_drew1 h
theorem qbS {w W : World} {g j : Nat} {v : Value} (h : Below w.heap.size w W) (hg : w.heap.size ≤ g) : Below w.heap.size w (W.setCell ⟨g, j, none⟩ v) := below_set h hg
theorem qO {p : Prop} (h : p) : Aside0 p := ⟨h⟩
theorem qT {p : Prop} [Decidable p] (h : decide p = true) : p := of_decide_eq_true h
theorem qL (w : World) (a : Addr) {v : Value} (h : w.cell? a = some v) : a.block < w.heap.size := World.block_lt_of_cell? w a h
theorem qkN {w : World} {g : Nat} {o : Obj} (h : w.heap[g]? = some o) (n : Nat) : (w.drewN n).heap[g]? = some o := h
theorem qkD {w : World} {g : Nat} {o : Obj} (h : w.heap[g]? = some o) : w.drew.heap[g]? = some o := h
theorem qkA {w : World} {g : Nat} {o : Obj} (h : w.heap[g]? = some o) (o' : Obj) : (w.alloc o').heap[g]? = some o := blk_alloc h o'
theorem qB {Wf W wn : World} {g : Nat} {o : Obj} (h : Wf.heap[g]? = some o) (hx : Below Wf.heap.size Wf W) (hb : Below W.heap.size W wn) : wn.heap[g]? = some o := blk_below (blk_below h hx) hb
theorem qHX {B : Nat} {v Wf W wn : World} (_h : Aside0 (Below B v Wf)) (_hb : Below W.heap.size W wn) (hx : Below Wf.heap.size Wf W) : Below Wf.heap.size Wf W := hx
theorem qa0 {P : Prop} (h : P := by first | (with_reducible assumption) | assumption) : P := h
theorem qa1 {P : Prop} (h : P := by (try simp only [List.map_toArray, List.map_cons, List.map_nil]); first | done | rfl | (simp only [List.length_drop, List.length_take]; rfl)) : P := h
theorem qa2 {P : Prop} (h : P := by with_reducible repeat (first | refine qbN ?_ _ | refine qbD ?_ | refine qbA ?_ _ | exact Below.refl _ _)) : P := h
theorem qa3 {P : Prop} (h : P := by simp only [Act.put, qzA, qzB, qzC, i64_w, i32_w]; rfl) : P := h
theorem qa4 {P : Prop} (h : P := by first | rfl | (simp [errW_none, errW_some] <;> rfl) | (simp [*, errW_none, errW_some] <;> rfl)) : P := h
theorem qa5 {P : Prop} (h : P := by repeat (first | (with_reducible first | exact HB.out | apply qbA | apply qbN | apply qbD | refine qbS ?_ GE101.out | refine qbS ?_ GE102.out) | exact HB.out)) : P := h
theorem qa6 {P : Prop} (h : P := by repeat (first | (with_reducible first | exact HB.out | apply qbA | apply qbN | apply qbD | refine qbS ?_ GE101.out) | exact HB.out)) : P := h
theorem qa7 {P : Prop} (h : P := by (with_reducible repeat (first | refine qkN ?_ _ | refine qkD ?_ | refine qkA ?_ _)); exact BK101.out) : P := h
theorem qa8 {P : Prop} (h : P := by kernel_rfl) : P := h
theorem qa9 {P : Prop} (h : P := by first | rfl | (simp; done) | (simp [*]; done)) : P := h
theorem qa10 {P : Prop} (h : P := by intro w'; go_simp; with_reducible rfl) : P := h
theorem qa11 {P : Prop} (h : P := by rw [hg]; exact Nat.ne_of_lt (blk_lt (g := gb101) (o := .cells #[.slice (some ad103) l0_0.length c0_0, .int .i64 a0_1] 28 (0, 0)) (by (with_reducible repeat (first | refine qkN ?_ _ | refine qkD ?_ | refine qkA ?_ _)); exact BK101.out))) : P := h
theorem qa12 {P : Prop} (h : P := by repeat (first | (with_reducible first | exact HB.out | apply qbA | apply qbN | apply qbD) | exact HB.out)) : P := h
theorem qa13 {P : Prop} (h : P := by show Act.put _ (some _) _ = _; simp only [Act.put, qzA, qzB, qzC, i64_w, i32_w]; rfl) : P := h
theorem qa14 {P : Prop} (h : P := by rw [hg]; exact Nat.ne_of_lt (blk_lt (g := gb101) (o := .cells #[.slice A0_0 l0_0.length c0_0, .int .i64 a0_1] 28 (0, 0)) (by (with_reducible repeat (first | refine qkN ?_ _ | refine qkD ?_ | refine qkA ?_ _)); exact BK101.out))) : P := h
theorem qa15 {P : Prop} (h : P := by first | (go_simp; done) | (go_simp; rfl)) : P := h
theorem qa16 {P : Prop} (h : P := by repeat (first | (with_reducible first | exact HB.out | apply qbA | apply qbN | apply qbD | refine qbS ?_ GE101.out | refine qbS ?_ GE102.out | refine qbS ?_ GE103.out) | exact HB.out)) : P := h
theorem qa17 {P : Prop} (h : P := by rw [hg]; exact (below_size (below_step HB.out hx_))) : P := h
theorem qa18 {P : Prop} (h : P := by repeat (first | (with_reducible first | exact HK.out | apply Kept.alloc | apply Kept.drewN | apply Kept.drew | refine Kept.setCell ?_ (.inr GW101.out) _ | refine Kept.setCell ?_ (.inr GW102.out) _ | refine Kept.setCell ?_ (.inr GW103.out) _) | exact HK.out)) : P := h
theorem qa19 {P : Prop} (h : P := by rw [hg]; exact (below_size (by repeat (first | (with_reducible first | exact HB.out | apply qbA | apply qbN | apply qbD | refine qbS ?_ GE101.out) | exact HB.out)))) : P := h
theorem qa20 {P : Prop} (h : P := by repeat (first | exact Drawn0.refl _ | apply Drawn0.step)) : P := h
theorem qa21 {P : Prop} (h : P := by repeat (first | (with_reducible first | exact HX.out | apply qbA | apply qbN | apply qbD) | exact HX.out)) : P := h
theorem qa22 {P : Prop} (h : P := by (try simp only [List.map_toArray, List.map_cons, List.map_nil]); first | done | rfl) : P := h
theorem qa23 {P : Prop} (h : P := by (with_reducible repeat (first | apply Kd.R_alloc | apply Kd.R_drewN | apply Kd.R_drew)); exact HO1_1.out) : P := h
theorem qa24 {P : Prop} (h : P := by (with_reducible repeat (first | refine qkN ?_ _ | refine qkD ?_ | refine qkA ?_ _)); exact BK102.out) : P := h
theorem qa25 {P : Prop} (h : P := by (with_reducible repeat (first | apply Kd.R_alloc | apply Kd.R_drewN | apply Kd.R_drew)); exact HO1_2.out) : P := h
theorem qa26 {P : Prop} (h : P := by repeat (first | (with_reducible first | exact HK.out | apply Kept.alloc | apply Kept.drewN | apply Kept.drew) | exact HK.out)) : P := h
theorem qa27 {P : Prop} (h : P := by omega) : P := h
theorem qa28 {P : Prop} (h : P := by repeat (first | exact (Kd.C_below HR0_0.out HB.out) | with_reducible first | refine Kd.C_alloc ?_ _ | refine Kd.C_drewN ?_ _ | refine Kd.C_drew ?_)) : P := h
theorem qa29 {P : Prop} (h : P := by first | (rw [add_block]; exact hn107_0) | (show (Addr.add _ _).block ≠ _; rw [add_block]; exact hn107_0) | exact hn107_0) : P := h
theorem qa30 {P : Prop} (h : P := by first | (rw [add_block]; exact hn107_1) | (show (Addr.add _ _).block ≠ _; rw [add_block]; exact hn107_1) | exact hn107_1) : P := h
theorem qa31 {P : Prop} (h : P := by (with_reducible repeat (first | refine qkN ?_ _ | refine qkD ?_ | refine qkA ?_ _)); refine blk_put (cs := #[.int .i64 ((rd_T43 (rd_L4 l0_0 x3_2) x4_3).f0), .int .i64 0]) ?_ 1 _ rfl; (with_reducible repeat (first | refine qkN ?_ _ | refine qkD ?_ | refine qkA ?_ _)); refine blk_put (cs := #[.int .i64 0, .int .i64 0]) ?_ 0 _ rfl; (with_reducible repeat (first | refine qkN ?_ _ | refine qkD ?_ | refine qkA ?_ _)); exact BK106.out) : P := h
theorem qa32 {P : Prop} (h : P := by rw [← hq_]; exact (by repeat (first | (with_reducible first | exact HK.out | apply Kept.alloc | apply Kept.drewN | apply Kept.drew | refine Kept.setCell ?_ (.inr GW101.out) _ | refine Kept.setCell ?_ (.inr GW102.out) _ | refine Kept.setCell ?_ (.inr GW103.out) _) | exact HK.out))) : P := h
theorem qa33 {P : Prop} (h : P := by first | exact HK.out.1 | exact (show Kept w _ (fun k_ => P1_1_ k_ ∨ P1_2_ k_) from by repeat (first | (with_reducible first | exact HK.out | apply Kept.alloc | apply Kept.drewN | apply Kept.drew | refine Kept.setCell ?_ (.inr GW101.out) _ | refine Kept.setCell ?_ (.inr GW102.out) _) | exact HK.out)).1) : P := h
theorem qa34 {P : Prop} (h : P := by (with_reducible repeat (first | refine qkN ?_ _ | refine qkD ?_ | refine qkA ?_ _)); refine blk_far ?_ NB101_106.out _; (with_reducible repeat (first | refine qkN ?_ _ | refine qkD ?_ | refine qkA ?_ _)); refine blk_far ?_ NB101_106.out _; (with_reducible repeat (first | refine qkN ?_ _ | refine qkD ?_ | refine qkA ?_ _)); exact BK101.out) : P := h
theorem qa35 {P : Prop} (h : P := by rw [hg]; exact (below_size (by repeat (first | (with_reducible first | exact HB.out | apply qbA | apply qbN | apply qbD) | exact HB.out)))) : P := h
theorem qa36 {P : Prop} (h : P := by repeat (first | (with_reducible first | exact HB.out | apply qbA | apply qbN | apply qbD | refine qbS ?_ GE101.out | refine qbS ?_ GE106.out) | exact HB.out)) : P := h
theorem qa37 {P : Prop} (h : P := by first | exact HK.out.1 | exact (show Kept w _ (fun k_ => P1_1_ k_ ∨ P1_2_ k_) from by repeat (first | (with_reducible first | exact HK.out | apply Kept.alloc | apply Kept.drewN | apply Kept.drew | refine Kept.setCell ?_ (.inr GW101.out) _) | exact HK.out)).1) : P := h
theorem qa38 {P : Prop} (h : P := by rw [hg]; exact Nat.ne_of_lt (blk_lt (g := gb101) (o := .cells #[.int .i64 a0_0, .slice A0_1 l0_1.length c0_1, .slice A0_2 l0_2.length c0_2] 65 (0, 0)) (by (with_reducible repeat (first | refine qkN ?_ _ | refine qkD ?_ | refine qkA ?_ _)); exact BK101.out))) : P := h
theorem qa39 {P : Prop} (h : P := by repeat (first | (with_reducible first | exact HK.out | apply Kept.alloc | apply Kept.drewN | apply Kept.drew | refine Kept.setCell ?_ (.inr GW101.out) _) | exact HK.out)) : P := h
theorem qa40 {P : Prop} (h : P := by repeat (first | exact (Kd.C_below HR0_1.out HB.out) | with_reducible first | refine Kd.C_alloc ?_ _ | refine Kd.C_drewN ?_ _ | refine Kd.C_drew ?_)) : P := h
theorem qa41 {P : Prop} (h : P := by rw [← hq_]; exact (by repeat (first | (with_reducible first | exact HB.out | apply qbA | apply qbN | apply qbD | refine qbS ?_ GE101.out | refine qbS ?_ GE102.out | refine qbS ?_ GE103.out) | exact HB.out))) : P := h
theorem qa42 {P : Prop} (h : P := by exact Kd.C_kept_now HR0_0.out (by repeat (first | (with_reducible first | exact HK.out | apply Kept.alloc | apply Kept.drewN | apply Kept.drew | refine Kept.setCell ?_ (.inr GW101.out) _ | refine Kept.setCell ?_ (.inr GW102.out) _ | refine Kept.setCell ?_ (.inr GW103.out) _) | exact HK.out))) : P := h
theorem qa43 {P : Prop} (h : P := by rw [hg]; exact Nat.ne_of_gt (blk_lt (g := gb101) (o := .cells #[.slice (some ad103) l0_0.length c0_0, .int .i64 a0_1] 28 (0, 0)) (by (with_reducible repeat (first | refine qkN ?_ _ | refine qkD ?_ | refine qkA ?_ _)); exact BK101.out))) : P := h
theorem qa44 {P : Prop} (h : P := by first | exact HK.out.1 | exact (show Kept w _ (fun k_ => P1_1_ k_ ∨ P1_2_ k_) from by repeat (first | (with_reducible first | exact HK.out | apply Kept.alloc | apply Kept.drewN | apply Kept.drew | refine Kept.setCell ?_ (.inr GW101.out) _ | refine Kept.setCell ?_ (.inr GW102.out) _ | refine Kept.setCell ?_ (.inr GW103.out) _) | exact HK.out)).1) : P := h
theorem qa45 {P : Prop} (h : P := by first | exact HK.out.1 | exact (show Kept w _ (fun k_ => P1_1_ k_ ∨ P1_2_ k_) from by repeat (first | (with_reducible first | exact HK.out | apply Kept.alloc | apply Kept.drewN | apply Kept.drew) | exact HK.out)).1) : P := h
theorem qa46 {P : Prop} (h : P := by (with_reducible repeat (first | refine qkN ?_ _ | refine qkD ?_ | refine qkA ?_ _)); refine blk_put (cs := #[.int .i64 a0_0, .int .i64 0]) ?_ 1 _ rfl; (with_reducible repeat (first | refine qkN ?_ _ | refine qkD ?_ | refine qkA ?_ _)); refine blk_put (cs := #[.int .i64 0, .int .i64 0]) ?_ 0 _ rfl; (with_reducible repeat (first | refine qkN ?_ _ | refine qkD ?_ | refine qkA ?_ _)); refine blk_far ?_ NB102_103.out _; (with_reducible repeat (first | refine qkN ?_ _ | refine qkD ?_ | refine qkA ?_ _)); refine blk_far ?_ NB102_103.out _; (with_reducible repeat (first | refine qkN ?_ _ | refine qkD ?_ | refine qkA ?_ _)); exact BK102.out) : P := h
theorem qa47 {P : Prop} (h : P := by repeat (first | (with_reducible first | exact HK.out | apply Kept.alloc | apply Kept.drewN | apply Kept.drew | refine Kept.setCell ?_ (.inr GW101.out) _ | refine Kept.setCell ?_ (.inr GW102.out) _) | exact HK.out)) : P := h
theorem qa48 {P : Prop} (h : P := by have := qL _ _ hx107_0; first | rwa [add_block] at this | exact this) : P := h
theorem qa49 {P : Prop} (h : P := by (with_reducible repeat (first | refine qkN ?_ _ | refine qkD ?_ | refine qkA ?_ _)); refine blk_put (cs := #[.int .i64 0, .slice none 0 0, .slice none 0 0]) ?_ 2 _ rfl; (with_reducible repeat (first | refine qkN ?_ _ | refine qkD ?_ | refine qkA ?_ _)); refine blk_put (cs := #[.int .i64 0, .slice none 0 0, .slice none 0 0]) ?_ 1 _ rfl; (with_reducible repeat (first | refine qkN ?_ _ | refine qkD ?_ | refine qkA ?_ _)); refine blk_put (cs := #[.int .i64 0, .slice none 0 0, .slice none 0 0]) ?_ 0 _ rfl; (with_reducible repeat (first | refine qkN ?_ _ | refine qkD ?_ | refine qkA ?_ _)); exact BK103.out) : P := h
theorem qa50 {P : Prop} (h : P := by rw [hg]; exact (below_size (by repeat (first | (with_reducible first | exact HB.out | apply qbA | apply qbN | apply qbD | refine qbS ?_ GE101.out | refine qbS ?_ GE102.out) | exact HB.out)))) : P := h
theorem qa51 {P : Prop} (h : P := by repeat (first | exact (Kd.C_below HR0_2.out (by repeat (first | (with_reducible first | exact HB.out | apply qbA | apply qbN | apply qbD | refine qbS ?_ GE101.out) | exact HB.out))) | with_reducible first | refine Kd.C_alloc ?_ _ | refine Kd.C_drewN ?_ _ | refine Kd.C_drew ?_)) : P := h
theorem qa52 {P : Prop} (h : P := by exact (fun k_ hk => ⟨(.inr (Nat.le_trans (by first | exact HK.out.1 | exact (show Kept w _ (fun k_ => P1_1_ k_ ∨ P1_2_ k_) from by repeat (first | (with_reducible first | exact HK.out | apply Kept.alloc | apply Kept.drewN | apply Kept.drew | refine Kept.setCell ?_ (.inr GW101.out) _ | refine Kept.setCell ?_ (.inr GW102.out) _ | refine Kept.setCell ?_ (.inr GW103.out) _) | exact HK.out)).1) hk)), Kd.fresh' (Kd.R_lt (by (with_reducible repeat (first | apply Kd.R_alloc | apply Kd.R_drewN | apply Kd.R_drew)); exact HO1_1.out)) k_ hk⟩)) : P := h
theorem qa53 {P : Prop} (h : P := by rw [hh_]; exact hk_.2.2.1) : P := h
theorem qa54 {P : Prop} (h : P := by (with_reducible repeat (first | apply Kd.R_alloc | apply Kd.R_drewN | apply Kd.R_drew)); exact HO_3.out) : P := h
theorem qa55 {P : Prop} (h : P := by (with_reducible repeat (first | apply Kd.R_alloc | apply Kd.R_drewN | apply Kd.R_drew)); exact HO_0.out) : P := h
theorem qa56 {P : Prop} (h : P := by rintro w' ⟨s0, s1, s2, s3, s4⟩; go_simp; with_reducible rfl) : P := h
theorem qa57 {P : Prop} (h : P := by (with_reducible repeat (first | refine qkN ?_ _ | refine qkD ?_ | refine qkA ?_ _)); exact BK103.out) : P := h
theorem qa58 {P : Prop} (h : P := by repeat (first | (with_reducible first | exact HB.out | apply qbA | apply qbN | apply qbD | refine qbS ?_ GE101.out | refine qbS ?_ GE105.out) | exact HB.out)) : P := h
theorem qa59 {P : Prop} (h : P := by rintro w' ⟨s0, s1, s2, s3⟩; go_simp; with_reducible rfl) : P := h
theorem qa60 {P : Prop} (h : P := by repeat (first | exact (Kd.C_below HR1_2.out (by repeat (first | (with_reducible first | exact HB.out | apply qbA | apply qbN | apply qbD | refine qbS ?_ GE101.out | refine qbS ?_ GE102.out) | exact HB.out))) | with_reducible first | refine Kd.C_alloc ?_ _ | refine Kd.C_drewN ?_ _ | refine Kd.C_drew ?_)) : P := h
theorem qa61 {P : Prop} (h : P := by rw [← hq_]; exact (by (with_reducible repeat (first | apply Kd.R_alloc | apply Kd.R_drewN | apply Kd.R_drew)); exact HO1_1.out)) : P := h
theorem qa62 {P : Prop} (h : P := by rw [← hq_]; exact (by (with_reducible repeat (first | apply Kd.R_alloc | apply Kd.R_drewN | apply Kd.R_drew)); exact HO1_2.out)) : P := h
theorem qa63 {P : Prop} (h : P := by rw [← hq_]; exact (by (with_reducible repeat (first | refine qkN ?_ _ | refine qkD ?_ | refine qkA ?_ _)); exact BK101.out)) : P := h
theorem qa64 {P : Prop} (h : P := by rw [← hq_]; exact (by (with_reducible repeat (first | refine qkN ?_ _ | refine qkD ?_ | refine qkA ?_ _)); exact BK102.out)) : P := h
theorem qa65 {P : Prop} (h : P := by rw [← hq_]; exact (by (with_reducible repeat (first | refine qkN ?_ _ | refine qkD ?_ | refine qkA ?_ _)); exact BK103.out)) : P := h
theorem qa66 {P : Prop} (h : P := by repeat (first | (with_reducible first | exact HB.out | apply qbA | apply qbN | apply qbD | refine qbS ?_ GE101.out | refine qbS ?_ GE102.out | refine qbS ?_ GE103.out | refine qbS ?_ GE114.out) | exact HB.out)) : P := h
theorem qa67 {P : Prop} (h : P := by (with_reducible repeat (first | apply Kd.R_alloc | apply Kd.R_drewN | apply Kd.R_drew)); exact (Kd.R_mono (Kd.R_far (p := ⟨gb114, 2, none⟩) (Kd.R_far (p := ⟨gb114, 1, none⟩) (Kd.R_far (p := ⟨gb114, 0, none⟩) (Kd.R_types HO109.out BK114.out (by decide)) (fun _ hk => hk.2) (.int .i64 t106)) (fun _ hk => hk.2) (.slice Ao29 t107.length co29)) (fun _ hk => hk.2) (.slice Ao30 t110.length co30)) (fun _ h_ => h_.1))) : P := h
theorem qa68 {P : Prop} (h : P := by (with_reducible repeat (first | apply Kd.R_alloc | apply Kd.R_drewN | apply Kd.R_drew)); exact (Kd.R_mono (Kd.R_far (p := ⟨gb114, 2, none⟩) (Kd.R_far (p := ⟨gb114, 1, none⟩) (Kd.R_far (p := ⟨gb114, 0, none⟩) (Kd.R_types HO112.out BK114.out (by decide)) (fun _ hk => hk.2) (.int .i64 t106)) (fun _ hk => hk.2) (.slice Ao29 t107.length co29)) (fun _ hk => hk.2) (.slice Ao30 t110.length co30)) (fun _ h_ => h_.1))) : P := h
theorem qa69 {P : Prop} (h : P := by rintro w' ⟨s0, s1, s2, s3, s4, s5, s6⟩; go_simp; with_reducible rfl) : P := h
theorem qa70 {P : Prop} (h : P := by repeat (first | exact (Kd.R_reads' HO1_2.out).2.2 | with_reducible first | refine Kd.C_alloc ?_ _ | refine Kd.C_drewN ?_ _ | refine Kd.C_drew ?_)) : P := h
theorem qa71 {P : Prop} (h : P := by repeat (first | exact (Kd.R_reads' HO1_1.out).2.2 | with_reducible first | refine Kd.C_alloc ?_ _ | refine Kd.C_drewN ?_ _ | refine Kd.C_drew ?_)) : P := h
theorem qa72 {P : Prop} (h : P := by (try simp only [List.map_toArray, List.map_cons, List.map_nil]); first | done | (rw [show (l1_1.take (x5_2 : Int).toNat).length = x5_2.toNat from (by rw [List.length_take]; have h_ : (x5_2 : Int) ≤ (l1_1.length : Int) := qT (by first | (with_reducible assumption) | assumption); omega)] <;> rfl) | rfl | (simp only [List.length_drop, List.length_take]; rfl)) : P := h
theorem qa73 {P : Prop} (h : P := by (with_reducible repeat (first | refine qkN ?_ _ | refine qkD ?_ | refine qkA ?_ _)); refine blk_far ?_ NB101_105.out _; (with_reducible repeat (first | refine qkN ?_ _ | refine qkD ?_ | refine qkA ?_ _)); refine blk_far ?_ NB101_105.out _; (with_reducible repeat (first | refine qkN ?_ _ | refine qkD ?_ | refine qkA ?_ _)); exact BK101.out) : P := h
theorem qa74 {P : Prop} (h : P := by rw [hl_]; exact hk_.2.1) : P := h
theorem qa75 {P : Prop} (h : P := by rw [hg]; exact Nat.ne_of_lt (blk_lt (g := gb101) (o := .cells #[.int .i64 a0_0, .int .i64 a0_1] 43 (0, 0)) (by (with_reducible repeat (first | refine qkN ?_ _ | refine qkD ?_ | refine qkA ?_ _)); exact BK101.out))) : P := h
theorem qa76 {P : Prop} (h : P := by rw [hg]; exact Nat.ne_of_lt (blk_lt (g := gb101) (o := .cells #[.int .i64 a0_0, .int .i64 a0_1] 58 (0, 0)) (by (with_reducible repeat (first | refine qkN ?_ _ | refine qkD ?_ | refine qkA ?_ _)); exact BK101.out))) : P := h
theorem qa77 {P : Prop} (h : P := by repeat (first | (with_reducible first | exact HK.out | apply Kept.alloc | apply Kept.drewN | apply Kept.drew | refine Kept.setCell ?_ (.inr GW101.out) _ | refine Kept.setCell ?_ (.inr GW102.out) _ | refine Kept.setCell ?_ (.inr GW103.out) _ | refine Kept.setCell ?_ (.inr GW114.out) _) | exact HK.out)) : P := h
theorem qa78 {P : Prop} (h : P := by repeat (first | exact (Kd.C_below HR0_2.out (by repeat (first | (with_reducible first | exact HB.out | apply qbA | apply qbN | apply qbD | refine qbS ?_ GE101.out | refine qbS ?_ GE102.out) | exact HB.out))) | with_reducible first | refine Kd.C_alloc ?_ _ | refine Kd.C_drewN ?_ _ | refine Kd.C_drew ?_)) : P := h
theorem qa79 {P : Prop} (h : P := by repeat (first | exact (Kd.C_below HR108.out (by repeat (first | (with_reducible first | exact HB.out | apply qbA | apply qbN | apply qbD | refine qbS ?_ GE101.out | refine qbS ?_ GE102.out) | exact HB.out))) | with_reducible first | refine Kd.C_alloc ?_ _ | refine Kd.C_drewN ?_ _ | refine Kd.C_drew ?_)) : P := h
theorem qa80 {P : Prop} (h : P := by repeat (first | exact (Kd.C_below HR107.out (by repeat (first | (with_reducible first | exact HB.out | apply qbA | apply qbN | apply qbD | refine qbS ?_ GE101.out | refine qbS ?_ GE102.out) | exact HB.out))) | with_reducible first | refine Kd.C_alloc ?_ _ | refine Kd.C_drewN ?_ _ | refine Kd.C_drew ?_)) : P := h
theorem qa81 {P : Prop} (h : P := by exact Kd.C_below HR0_0.out (below_step HB.out (by repeat (first | (with_reducible first | exact HX.out | apply qbA | apply qbN | apply qbD) | exact HX.out)))) : P := h
theorem qa82 {P : Prop} (h : P := by decide) : P := h
theorem qa83 {P : Prop} (h : P := by first | exact Kd.R_nil _ _ _ _ _ | exact Kd.N_nil _ _ _ _ _ | exact Kd.V_nil _ _ _ _ _ | exact Kd.Q_nil _ _ _ _ _ | exact Kd.S_nil _ _ _ _ _) : P := h
theorem qa84 {P : Prop} (h : P := by repeat (first | exact (Kd.C_below HR1_1.out HB.out) | with_reducible first | refine Kd.C_alloc ?_ _ | refine Kd.C_drewN ?_ _ | refine Kd.C_drew ?_)) : P := h
theorem qa85 {P : Prop} (h : P := by rw [hg]; exact Nat.ne_of_lt (blk_lt (g := gb101) (o := .cells #[.int .i64 a0_0, .slice A0_1 l0_1.length c0_1, .slice A0_2 l0_2.length c0_2] 75 (0, 0)) (by (with_reducible repeat (first | refine qkN ?_ _ | refine qkD ?_ | refine qkA ?_ _)); exact BK101.out))) : P := h
theorem qa86 {P : Prop} (h : P := by rw [hg]; exact Nat.ne_of_lt (blk_lt (g := gb102) (o := .cells #[.int .i64 a1_0, .slice Ao11 l1_1.length co11, .slice Ao12 l1_2.length co12] 65 (0, 0)) (by (with_reducible repeat (first | refine qkN ?_ _ | refine qkD ?_ | refine qkA ?_ _)); exact BK102.out))) : P := h
theorem qa87 {P : Prop} (h : P := by first | rfl | (simp [errW_none, errW_some] <;> rfl) | (simp only [← hji19]; first | rfl | (simp [errW_none, errW_some] <;> rfl)) | (simp [*, errW_none, errW_some] <;> rfl)) : P := h
theorem qa88 {P : Prop} (h : P := by repeat (first | exact HR101_0.out | with_reducible first | refine Kd.C_alloc ?_ _ | refine Kd.C_drewN ?_ _ | refine Kd.C_drew ?_)) : P := h
theorem qa89 {P : Prop} (h : P := by have := HK1.out; omega) : P := h
theorem qa90 {P : Prop} (h : P := by rw [hg]; exact Nat.ne_of_lt (blk_lt (g := gb101) (o := .cells #[.slice A0_0 l0_0.length c0_0, .int .i64 a0_1] 24 (0, 0)) (by (with_reducible repeat (first | refine qkN ?_ _ | refine qkD ?_ | refine qkA ?_ _)); exact BK101.out))) : P := h
theorem qa91 {P : Prop} (h : P := by rw [hg]; exact Nat.ne_of_gt (blk_lt (g := gb101) (o := .cells #[.slice A0_0 l0_0.length c0_0, .int .i64 a0_1] 28 (0, 0)) (by (with_reducible repeat (first | refine qkN ?_ _ | refine qkD ?_ | refine qkA ?_ _)); exact BK101.out))) : P := h
theorem qa92 {P : Prop} (h : P := by (with_reducible repeat (first | refine qkN ?_ _ | refine qkD ?_ | refine qkA ?_ _)); refine blk_far ?_ NB101_103.out _; (with_reducible repeat (first | refine qkN ?_ _ | refine qkD ?_ | refine qkA ?_ _)); exact BK101.out) : P := h
theorem qa93 {P : Prop} (h : P := by (with_reducible repeat (first | refine qkN ?_ _ | refine qkD ?_ | refine qkA ?_ _)); refine blk_far ?_ NB102_103.out _; (with_reducible repeat (first | refine qkN ?_ _ | refine qkD ?_ | refine qkA ?_ _)); exact BK102.out) : P := h
theorem qa94 {P : Prop} (h : P := by exact Kd.C_below (Kd.R_reads' HO167.out).2.2 (by repeat (first | (with_reducible first | exact HX.out | apply qbA | apply qbN | apply qbD) | exact HX.out))) : P := h
theorem qa95 {P : Prop} (h : P := by exact Kd.C_below (Kd.R_reads' HO168.out).2.2 (by repeat (first | (with_reducible first | exact HX.out | apply qbA | apply qbN | apply qbD) | exact HX.out))) : P := h
theorem qa96 {P : Prop} (h : P := by rw [hg]; exact Nat.ne_of_lt (blk_lt (g := gb101) (o := .cells #[.int .i64 a0_0, .int .i64 a0_1] 141 (0, 0)) (by (with_reducible repeat (first | refine qkN ?_ _ | refine qkD ?_ | refine qkA ?_ _)); exact BK101.out))) : P := h
theorem qa97 {P : Prop} (h : P := by rw [hg]; exact Nat.ne_of_lt (blk_lt (g := gb101) (o := .cells #[.int .i64 a0_0, .int .i64 a0_1] 76 (0, 0)) (by (with_reducible repeat (first | refine qkN ?_ _ | refine qkD ?_ | refine qkA ?_ _)); exact BK101.out))) : P := h
theorem qa98 {P : Prop} (h : P := by repeat (first | exact (Kd.C_below HR1_0.out HB.out) | with_reducible first | refine Kd.C_alloc ?_ _ | refine Kd.C_drewN ?_ _ | refine Kd.C_drew ?_)) : P := h
theorem qa99 {P : Prop} (h : P := by rw [hg]; exact (below_size (by repeat (first | (with_reducible first | exact HX.out | apply qbA | apply qbN | apply qbD) | exact HX.out)))) : P := h
theorem qa100 {P : Prop} (h : P := by exact (below_size (by repeat (first | (with_reducible first | exact HB.out | apply qbA | apply qbN | apply qbD | refine qbS ?_ GE101.out | refine qbS ?_ GE102.out | refine qbS ?_ GE103.out) | exact HB.out)))) : P := h
theorem qa101 {P : Prop} (h : P := by exact below_step HB.out (by repeat (first | (with_reducible first | exact HX.out | apply qbA | apply qbN | apply qbD) | exact HX.out))) : P := h
theorem qa102 {P : Prop} (h : P := by exact (by repeat (first | (with_reducible first | exact HB.out | apply qbA | apply qbN | apply qbD | refine qbS ?_ GE101.out | refine qbS ?_ GE102.out | refine qbS ?_ GE103.out) | exact HB.out))) : P := h
theorem qa103 {P : Prop} (h : P := by rw [hh_]; exact blk_lt hbox) : P := h
theorem qa104 {P : Prop} (h : P := by exact (below_size (by repeat (first | (with_reducible first | exact HB.out | apply qbA | apply qbN | apply qbD | refine qbS ?_ GE101.out | refine qbS ?_ GE102.out) | exact HB.out)))) : P := h
theorem qa105 {P : Prop} (h : P := by have := HJ1.out; have := HK2.out; have := HK3.out; omega) : P := h
theorem qa106 {P : Prop} (h : P := by exact (by repeat (first | (with_reducible first | exact HB.out | apply qbA | apply qbN | apply qbD | refine qbS ?_ GE101.out | refine qbS ?_ GE102.out) | exact HB.out))) : P := h
theorem qa107 {P : Prop} (h : P := by (with_reducible repeat (first | apply Kd.R_alloc | apply Kd.R_drewN | apply Kd.R_drew)); exact HO103.out) : P := h
theorem qa108 {P : Prop} (h : P := by (with_reducible repeat (first | apply Kd.S_alloc | apply Kd.S_drewN | apply Kd.S_drew)); exact HO_3.out) : P := h
theorem qa109 {P : Prop} (h : P := by simp) : P := h
theorem qa110 {P : Prop} (h : P := by (with_reducible repeat (first | apply Kd.R_alloc | apply Kd.R_drewN | apply Kd.R_drew)); exact HO0.out) : P := h
theorem qa111 {P : Prop} (h : P := by first | omega | exact Nat.le_refl _) : P := h
theorem qa112 {P : Prop} (h : P := by exact Kd.C_below HR1_1.out (below_step HB.out HX.out)) : P := h
theorem qa113 {P : Prop} (h : P := by exact Kd.C_below HR1_2.out (below_step HB.out HX.out)) : P := h
theorem qa114 {P : Prop} (h : P := by exact Kd.C_below HR1_1.out (below_step HB.out (by repeat (first | (with_reducible first | exact HX.out | apply qbA | apply qbN | apply qbD) | exact HX.out)))) : P := h
theorem qa115 {P : Prop} (h : P := by exact Kd.C_below HR1_2.out (below_step HB.out (by repeat (first | (with_reducible first | exact HX.out | apply qbA | apply qbN | apply qbD) | exact HX.out)))) : P := h
theorem qa116 {P : Prop} (h : P := by exact Kd.C_below (Kd.R_reads' HO104.out).2.2 (by repeat (first | (with_reducible first | exact HX.out | apply qbA | apply qbN | apply qbD) | exact HX.out))) : P := h
theorem qa117 {P : Prop} (h : P := by exact Kd.C_below (Kd.R_reads' HO106.out).2.2 (by repeat (first | (with_reducible first | exact HX.out | apply qbA | apply qbN | apply qbD) | exact HX.out))) : P := h
theorem qa118 {P : Prop} (h : P := by repeat (first | exact (Kd.C_below HR101_0.out HB.out) | with_reducible first | refine Kd.C_alloc ?_ _ | refine Kd.C_drewN ?_ _ | refine Kd.C_drew ?_)) : P := h
theorem qa119 {P : Prop} (h : P := by repeat (first | exact (Kd.C_below HR102_0.out HB.out) | with_reducible first | refine Kd.C_alloc ?_ _ | refine Kd.C_drewN ?_ _ | refine Kd.C_drew ?_)) : P := h
theorem qa120 {P : Prop} (h : P := by repeat (first | exact (Kd.C_below HR1_2.out HB.out) | with_reducible first | refine Kd.C_alloc ?_ _ | refine Kd.C_drewN ?_ _ | refine Kd.C_drew ?_)) : P := h
theorem qa121 {P : Prop} (h : P := by repeat (first | exact (Kd.C_below HR0_2.out HB.out) | with_reducible first | refine Kd.C_alloc ?_ _ | refine Kd.C_drewN ?_ _ | refine Kd.C_drew ?_)) : P := h
theorem qa122 {P : Prop} (h : P := by repeat (first | exact (Kd.C_below HR0.out HB.out) | with_reducible first | refine Kd.C_alloc ?_ _ | refine Kd.C_drewN ?_ _ | refine Kd.C_drew ?_)) : P := h
theorem qa123 {P : Prop} (h : P := by have z_ := Kd.R_reads' HO167.out; have y_ := z_.1; have x_ := z_.2.1; omega) : P := h
theorem qa124 {P : Prop} (h : P := by have z_ := Kd.R_reads' HO168.out; have y_ := z_.1; have x_ := z_.2.1; omega) : P := h
theorem qa125 {P : Prop} (h : P := by (try simp only [List.map_toArray, List.map_cons, List.map_nil]); first | done | rfl | (simp only [LEN240.out, LEN241.out]; rfl)) : P := h
theorem qa126 {P : Prop} (h : P := by exact Kd.C_below HR0_0.out (below_step HB.out HX.out)) : P := h
theorem qa127 {P : Prop} (h : P := by rw [hl_]; exact z_) : P := h
theorem qa128 {P : Prop} (h : P := by (with_reducible repeat (first | apply Kd.R_alloc | apply Kd.R_drewN | apply Kd.R_drew)); exact HO0_1.out) : P := h
theorem qa129 {P : Prop} (h : P := by (with_reducible repeat (first | apply Kd.R_alloc | apply Kd.R_drewN | apply Kd.R_drew)); exact HO0_2.out) : P := h
theorem qa130 {P : Prop} (h : P := by have z_ := Kd.R_reads' HO104.out; have y_ := z_.1; have x_ := z_.2.1; omega) : P := h
theorem qa131 {P : Prop} (h : P := by have z_ := Kd.R_reads' HO106.out; have y_ := z_.1; have x_ := z_.2.1; omega) : P := h
theorem qa132 {P : Prop} (h : P := by have z_ := Kd.S_reads' HO252.out; have y_ := z_.1; have x_ := z_.2.1; omega) : P := h
theorem qa133 {P : Prop} (h : P := by have z_ := Kd.S_reads' HO23.out; have y_ := z_.1; have x_ := z_.2.1; omega) : P := h
theorem qa134 {P : Prop} (h : P := by rw [hw]; exact qbS (HB.out) GB5.out) : P := h
theorem qa135 {P : Prop} (h : P := by injection e104) : P := h
theorem qa136 {P : Prop} (h : P := by rintro w' ⟨s0, s1⟩; go_simp; with_reducible rfl) : P := h
theorem qa137 {P : Prop} (h : P := by exact (Kd.R_reads' HO1_2.out).2.1) : P := h
theorem qa138 {P : Prop} (h : P := by injection e107) : P := h
theorem qa139 {P : Prop} (h : P := by rintro w' ⟨s0, s1, s2⟩; go_simp; with_reducible rfl) : P := h
theorem qa140 {P : Prop} (h : P := by exact Kd.C_below (Kd.S_reads' HO252.out).2.2 HX.out) : P := h
theorem qa141 {P : Prop} (h : P := by injection e103) : P := h
theorem qa142 {P : Prop} (h : P := by exact (Kd.R_reads' HO1_1.out).2.1) : P := h
theorem qa143 {P : Prop} (h : P := by simp; omega) : P := h
theorem qa144 {P : Prop} (h : P := by cases h) : P := h
end Go.Proofs.Ytfiboooflebdpaa.Q
namespace Go.Proofs.Ytfiboooflebdpaa.Q
open Go.RowKit Go.Proofs.YtfiboooflebdpaaW.PrintWords Go.Proofs.YtfiboooflebdpaaW.PrintLast Go.Proofs.YtfiboooflebdpaaW.PrintMore
attribute [local go_sem] max2_int min2_int max_two min_two max_three min_three max_four min_four
set_option linter.unusedVariables false
set_option linter.unusedSimpArgs false

def laws_szVersionS.f (l0 : List (S141)) (a1 : Int) : Option (Int) := if (wrap64 (a1 - (l0.length : Int))) < 0 then (some (-1)) else (some (wrap64 (a1 - (l0.length : Int))))
set_option maxHeartbeats 8000000 in
set_option maxRecDepth 100000 in
theorem laws_szVersionS.calls (A0 : Option Addr) (c0 : Nat) (l0 : List (S141)) (a1 : Int) (r : Int) (w : World) (hr0 : Kd.C k141 w A0 l0.length l0) (hc0 : l0.length ≤ c0) (h : laws_szVersionS.f l0 a1 = some r) :
  Calls Try.prog 100 #[.slice A0 l0.length c0, .int .i64 a1] w fun e w' => e = .returned (.int .i64 r) ∧ Drawn0 w w' := by
 have HR0 := qO hr0; have HC0 := qO hc0; clear hr0 hc0; have H : (if (wrap64 (a1 - (l0.length : Int))) < 0 then (some (-1)) else (some (wrap64 (a1 - (l0.length : Int))))) = some r := h; clear h
 by_cases c3 : (wrap64 (a1 - (l0.length : Int))) < 0
 ·rw [if_pos c3] at H
  have c3b0 : decide ((wrap64 (a1 - (l0.length : Int))) < 0) = true := decide_eq_true c3; clear c3; obtain rfl := Option.some.inj H
  go_enter Try.func100, Try.ntmps100
  go_wp2
  go_ret
  exact ⟨qa9, qa20⟩
 ·rw [if_neg c3] at H
  have c3b0 : decide ((wrap64 (a1 - (l0.length : Int))) < 0) = false := decide_eq_false c3; clear c3; obtain rfl := Option.some.inj H
  go_enter Try.func100, Try.ntmps100
  go_wp2
  go_ret
  exact ⟨qa9, qa20⟩


def laws_szVersionSS.l0 : Nat → List (List (S141)) → Int → Int → Option (Int)
 | 0, _, _, _ => none
 | k + 1, x0, x1, x5 => if x5 < (x0.length : Int) then (if 0 ≤ x5 then ((laws_szVersionS.f (rd_L2 x0 x5) x1).bind fun t102 => (if t102 < 0 then (some (-1)) else (laws_szVersionSS.l0 k x0 t102 (wrap64 (x5 + 1))))) else (none)) else (some x1)
def laws_szVersionSS.f (k : Nat) (l0 : List (List (S141))) (a1 : Int) : Option (Int) := if (wrap64 (a1 - (l0.length : Int))) < 0 then (some (-1)) else (laws_szVersionSS.l0 k l0 (wrap64 (a1 - (l0.length : Int))) 0)
set_option maxHeartbeats 8000000 in
set_option maxRecDepth 100000 in
theorem laws_szVersionSS.calls (k : Nat) (A0 : Option Addr) (c0 : Nat) (l0 : List (List (S141))) (a1 : Int) (r : Int) (w : World) (hr0 : Kd.C (Kd.slice 141 k141) w A0 l0.length l0) (hc0 : l0.length ≤ c0) (h : laws_szVersionSS.f k l0 a1 = some r) :
  Calls Try.prog 53 #[.slice A0 l0.length c0, .int .i64 a1] w fun e w' => e = .returned (.int .i64 r) ∧ Drawn0 w w' := by
 have HR0 := qO hr0; have HC0 := qO hc0; clear hr0 hc0; have H : (if (wrap64 (a1 - (l0.length : Int))) < 0 then (some (-1)) else (laws_szVersionSS.l0 k l0 (wrap64 (a1 - (l0.length : Int))) 0)) = some r := h; clear h
 by_cases c3 : (wrap64 (a1 - (l0.length : Int))) < 0
 ·rw [if_pos c3] at H
  have c3b0 : decide ((wrap64 (a1 - (l0.length : Int))) < 0) = true := decide_eq_true c3; clear c3; obtain rfl := Option.some.inj H
  go_enter Try.func53, Try.ntmps53
  go_wp2
  go_ret
  exact ⟨qa9, qa20⟩
 ·rw [if_neg c3] at H
  have c3b0 : decide ((wrap64 (a1 - (l0.length : Int))) < 0) = false := decide_eq_false c3; clear c3; have H' := qO H; clear H
  go_enter Try.func53, Try.ntmps53
  go_wp2
  go_loopg [1, 5] k (fun kq v1 v5 w' => ∃ (x1_1 : Int) (x5_1 : Int), v1 = .int .i64 x1_1 ∧ v5 = .int .i64 x5_1 ∧ Aside0 (laws_szVersionSS.l0 kq l0 x1_1 x5_1 = some r) ∧ Aside0 (kq ≤ k) ∧ Drawn0 w w')
  case atStart => exact ⟨(wrap64 (a1 - (l0.length : Int))), (0), qa9, qa9, H', ⟨Nat.le_refl _⟩, qa20⟩
  case round =>
   clear H'
   try clear p2
   try clear c3
   try clear c3b0
   obtain ⟨x1_1, x5_1, rfl, rfl, HA, HK1, ⟨m1, rfl⟩⟩ := hrel
   cases gk with
   | zero => exact absurd HA.out (by simp [laws_szVersionSS.l0])
   | succ k1 =>
    have H := HA.out; clear HA; simp only [laws_szVersionSS.l0] at H
    by_cases c4 : x5_1 < (l0.length : Int)
    ·rw [if_pos c4] at H
     have c4b0 : decide (x5_1 < (l0.length : Int)) = true := decide_eq_true c4; clear c4
     by_cases c5 : 0 ≤ x5_1
     ·rw [if_pos c5] at H
      have c5b0 : decide (0 ≤ x5_1) = true := decide_eq_true c5; clear c5; replace H := Option.bind_eq_some_iff.mp H; obtain ⟨t102, A60, H⟩ := H; replace H : (if t102 < 0 then (some (-1)) else (laws_szVersionSS.l0 k1 l0 t102 (wrap64 (x5_1 + 1)))) = some r := H; have A6 := qO A60; clear A60
      by_cases c7 : t102 < 0
      ·rw [if_pos c7] at H
       have c7b0 : decide (t102 < 0) = true := decide_eq_true c7; clear c7; obtain rfl := Option.some.inj H; have p101 : 0 ≤ (x5_1 : Int) := qT qa0; have q101 : x5_1 < (l0.length : Int) := qT qa0; obtain ⟨ad101, A101_0, c101_0, e101, hx101_0, hl101_0, hi101_0⟩ := at_L2 HR0.out x5_1 p101 q101
       cases e101
       have HR101_0 := qO hi101_0; have HC101_0 := qO hl101_0; clear hi101_0 hl101_0; replace p101 := eq_true p101; replace q101 := eq_true q101
       go_wp2_with (first | ((with_reducible refine gate_callee (f := 100) rfl ?_); refine goesL_ (some 23) rfl rfl Try.func100 qa8 rfl #[.slice A101_0 (rd_L2 l0 x5_1).length c101_0, .int .i64 x1_1] rfl qa1 ?_; (with_reducible refine (laws_szVersionS.calls _ _ (rd_L2 l0 x5_1) x1_1 t102 _ ?side1 ?side2 A6.out).mono ?_); (case side1 => exact qa88); (case side2 => exact HC101_0.out); rintro e w' ⟨rfl, ⟨nd, rfl⟩⟩; refine ⟨_, rfl, ?_⟩))
       go_ret
       exact ⟨qa9, qa20⟩
      ·rw [if_neg c7] at H
       have c7b0 : decide (t102 < 0) = false := decide_eq_false c7; clear c7; have H' := qO H; clear H; have p101 : 0 ≤ (x5_1 : Int) := qT qa0; have q101 : x5_1 < (l0.length : Int) := qT qa0; obtain ⟨ad101, A101_0, c101_0, e101, hx101_0, hl101_0, hi101_0⟩ := at_L2 HR0.out x5_1 p101 q101
       cases e101
       have HR101_0 := qO hi101_0; have HC101_0 := qO hl101_0; clear hi101_0 hl101_0; replace p101 := eq_true p101; replace q101 := eq_true q101
       go_wp2_with (first | ((with_reducible refine gate_callee (f := 100) rfl ?_); refine goesL_ (some 23) rfl rfl Try.func100 qa8 rfl #[.slice A101_0 (rd_L2 l0 x5_1).length c101_0, .int .i64 x1_1] rfl qa1 ?_; (with_reducible refine (laws_szVersionS.calls _ _ (rd_L2 l0 x5_1) x1_1 t102 _ ?side1 ?side2 A6.out).mono ?_); (case side1 => exact qa88); (case side2 => exact HC101_0.out); rintro e w' ⟨rfl, ⟨nd, rfl⟩⟩; refine ⟨_, rfl, ?_⟩))
       go_roundg k1
       case measure => have := HK1.out; omega
       case rel => exact ⟨(t102), (wrap64 (x5_1 + 1)), qa9, qa9, H', ⟨qa89⟩, qa20⟩
     ·rw [if_neg c5] at H
      exact absurd H qa109
    ·rw [if_neg c4] at H
     have c4b0 : decide (x5_1 < (l0.length : Int)) = false := decide_eq_false c4; clear c4; obtain rfl := Option.some.inj H; go_wp2
     go_ret
     exact ⟨qa9, qa20⟩


def laws_szStore.f (k : Nat) (l0_0 : List (List (S141))) (a0_1 : Int) (a1 : Int) : Option (Int) := (laws_szVersionSS.f k l0_0 a1).bind fun t102 => (if t102 < 0 then (some (-1)) else (some t102))
set_option maxHeartbeats 8000000 in
set_option maxRecDepth 100000 in
theorem laws_szStore.calls (k : Nat) (A0_0 : Option Addr) (c0_0 : Nat) (l0_0 : List (List (S141))) (a0_1 : Int) (a1 : Int) (r : Int) (w : World) (hr0_0 : Kd.C (Kd.slice 141 k141) w A0_0 l0_0.length l0_0) (hc0_0 : l0_0.length ≤ c0_0) (h : laws_szStore.f k l0_0 a0_1 a1 = some r) :
  Calls Try.prog 11 #[.agg #[.slice A0_0 l0_0.length c0_0, .int .i64 a0_1], .int .i64 a1] w fun e w' => e = .returned (.int .i64 r) ∧ Below w.heap.size w w' := by
 have hu24 := Try.underlying24; have HR0_0 := qO hr0_0; have HC0_0 := qO hc0_0; clear hr0_0 hc0_0; have HB := qO (Below.refl w.heap.size w); have H : ((laws_szVersionSS.f k l0_0 a1).bind fun t102 => (if t102 < 0 then (some (-1)) else (some t102))) = some r := h; clear h; replace H := Option.bind_eq_some_iff.mp H; obtain ⟨t102, A30, H⟩ := H; replace H : (if t102 < 0 then (some (-1)) else (some t102)) = some r := H; have A3 := qO A30; clear A30
 by_cases c4 : t102 < 0
 ·rw [if_pos c4] at H
  have c4b0 : decide (t102 < 0) = true := decide_eq_true c4; clear c4; obtain rfl := Option.some.inj H
  go_enter Try.func11, Try.ntmps11
  go_wp2_with (first | ((with_reducible refine gate_dst (N := 2) rfl ?_); refine box_event ?hg (N := 2) ?hd (cs := #[.slice A0_0 l0_0.length c0_0, .int .i64 a0_1]) (t := 24) ?hr ?_; (case hd => rfl); (case hg => rfl); (case hr => exact qa15); intro gb101 hg w5 hbox hb; have hx_ := qHX HB hb qa2; have n0_ := qO (below_step (below_step HB.out hx_) hb); have n1_ := qO (hbox); have n2_ := qO ((qa17 : w.heap.size ≤ gb101)); have n3_ := n2_; clear HB; have HB := n0_; have BK101 := n1_; have GW101 := n2_; have GE101 := n3_; clear n0_ n1_ n2_ n3_; clear hx_; clear hb hbox hg; have hcz6_0 : w5.cell? ⟨gb101, 0, none⟩ = some (.slice A0_0 l0_0.length c0_0) := (blk_cell BK101.out 0).trans rfl; have hcz6_1 : w5.cell? ⟨gb101, 1, none⟩ = some (.int .i64 a0_1) := (blk_cell BK101.out 1).trans rfl; have hfz6_0 := blk_frozen BK101.out 0; have hfz6_1 := blk_frozen BK101.out 1) | ((with_reducible refine gate_callee (f := 53) rfl ?_); refine goesL_ (some 8) rfl rfl Try.func53 qa8 rfl #[.slice A0_0 l0_0.length c0_0, .int .i64 a1] rfl qa1 ?_; (with_reducible refine (laws_szVersionSS.calls k _ _ l0_0 a1 t102 _ ?side1 ?side2 A3.out).mono ?_); (case side1 => exact qa28); (case side2 => exact HC0_0.out); rintro e w' ⟨rfl, ⟨nd, rfl⟩⟩; refine ⟨_, rfl, ?_⟩))
  go_ret
  exact ⟨qa4, qa6⟩
 ·rw [if_neg c4] at H
  have c4b0 : decide (t102 < 0) = false := decide_eq_false c4; clear c4; obtain rfl := Option.some.inj H
  go_enter Try.func11, Try.ntmps11
  go_wp2_with (first | ((with_reducible refine gate_dst (N := 2) rfl ?_); refine box_event ?hg (N := 2) ?hd (cs := #[.slice A0_0 l0_0.length c0_0, .int .i64 a0_1]) (t := 24) ?hr ?_; (case hd => rfl); (case hg => rfl); (case hr => exact qa15); intro gb101 hg w7 hbox hb; have hx_ := qHX HB hb qa2; have n0_ := qO (below_step (below_step HB.out hx_) hb); have n1_ := qO (hbox); have n2_ := qO ((qa17 : w.heap.size ≤ gb101)); have n3_ := n2_; clear HB; have HB := n0_; have BK101 := n1_; have GW101 := n2_; have GE101 := n3_; clear n0_ n1_ n2_ n3_; clear hx_; clear hb hbox hg; have hcz8_0 : w7.cell? ⟨gb101, 0, none⟩ = some (.slice A0_0 l0_0.length c0_0) := (blk_cell BK101.out 0).trans rfl; have hcz8_1 : w7.cell? ⟨gb101, 1, none⟩ = some (.int .i64 a0_1) := (blk_cell BK101.out 1).trans rfl; have hfz8_0 := blk_frozen BK101.out 0; have hfz8_1 := blk_frozen BK101.out 1) | ((with_reducible refine gate_callee (f := 53) rfl ?_); refine goesL_ (some 8) rfl rfl Try.func53 qa8 rfl #[.slice A0_0 l0_0.length c0_0, .int .i64 a1] rfl qa1 ?_; (with_reducible refine (laws_szVersionSS.calls k _ _ l0_0 a1 t102 _ ?side1 ?side2 A3.out).mono ?_); (case side1 => exact qa28); (case side2 => exact HC0_0.out); rintro e w' ⟨rfl, ⟨nd, rfl⟩⟩; refine ⟨_, rfl, ?_⟩))
  go_ret
  exact ⟨qa4, qa6⟩


def laws_toVersion.f (a0_0 : Int) (a0_1 : Int) : Option (Int × Int) := some (a0_0, a0_1)
set_option maxHeartbeats 8000000 in
set_option maxRecDepth 100000 in
theorem laws_toVersion.calls (a0_0 : Int) (a0_1 : Int) (r1 : Int) (r2 : Int) (w : World) (h : laws_toVersion.f a0_0 a0_1 = some (r1, r2)) :
  Calls Try.prog 127 #[.agg #[.int .i64 a0_0, .int .i64 a0_1]] w fun e w' => e = .returned (.agg #[.int .i64 r1, .int .i64 r2]) ∧ Below w.heap.size w w' := by
 have hu141 := Try.underlying141; have hu43 := Try.underlying43; have HB := qO (Below.refl w.heap.size w); have H : (some (a0_0, a0_1)) = some (r1, r2) := h; clear h; simp only [Option.some.injEq, Prod.mk.injEq] at H; obtain ⟨rfl, rfl⟩ := H
 go_enter Try.func127, Try.ntmps127
 go_wp2_with (first | ((with_reducible refine gate_dst (N := 1) rfl ?_); refine box_event ?hg (N := 1) ?hd (cs := #[.int .i64 a0_0, .int .i64 a0_1]) (t := 141) ?hr ?_; (case hd => rfl); (case hg => rfl); (case hr => exact qa15); intro gb101 hg w2 hbox hb; have hx_ := qHX HB hb qa2; have n0_ := qO (below_step (below_step HB.out hx_) hb); have n1_ := qO (hbox); have n2_ := qO ((qa17 : w.heap.size ≤ gb101)); have n3_ := n2_; clear HB; have HB := n0_; have BK101 := n1_; have GW101 := n2_; have GE101 := n3_; clear n0_ n1_ n2_ n3_; clear hx_; clear hb hbox hg) | ((with_reducible refine gate_dst (N := 2) rfl ?_); refine box_event ?hg (N := 2) ?hd (cs := #[.int .i64 0, .int .i64 0]) (t := 43) ?hr ?_; (case hd => rfl); (case hg => rfl); (case hr => exact qa15); intro gb102 hg w3 hbox hb; have hx_ := qHX HB hb qa2; have n0_ := qO (qB BK101.out hx_ hb); have n1_ := qO (below_step (below_step HB.out hx_) hb); have n2_ := qO (hbox); have n3_ := qO ((qa17 : w.heap.size ≤ gb102)); have n4_ := n3_; have n5_ := qO ((qa96 : gb101 ≠ gb102)); have n6_ := qO (Ne.symm n5_.out); clear BK101; clear HB; have BK101 := n0_; have HB := n1_; have BK102 := n2_; have GW102 := n3_; have GE102 := n4_; have NB101_102 := n5_; have NB102_101 := n6_; clear n0_ n1_ n2_ n3_ n4_ n5_ n6_; clear hx_; clear hb hbox hg) | ((with_reducible refine gate_dst (N := 3) rfl ?_); refine box_event ?hg (N := 3) ?hd (cs := #[.int .i64 0, .int .i64 0]) (t := 43) ?hr ?_; (case hd => rfl); (case hg => rfl); (case hr => exact qa15); intro gb103 hg w4 hbox hb; have hx_ := qHX HB hb qa2; have n0_ := qO (qB BK101.out hx_ hb); have n1_ := qO (qB BK102.out hx_ hb); have n2_ := qO (below_step (below_step HB.out hx_) hb); have n3_ := qO (hbox); have n4_ := qO ((qa17 : w.heap.size ≤ gb103)); have n5_ := n4_; have n6_ := qO ((qa96 : gb101 ≠ gb103)); have n7_ := qO (Ne.symm n6_.out); have n8_ := qO ((by rw [hg]; exact Nat.ne_of_lt (blk_lt (g := gb102) (o := .cells #[.int .i64 0, .int .i64 0] 43 (0, 0)) (by (with_reducible repeat (first | refine qkN ?_ _ | refine qkD ?_ | refine qkA ?_ _)); exact BK102.out)) : gb102 ≠ gb103)); have n9_ := qO (Ne.symm n8_.out); clear BK101; clear BK102; clear HB; have BK101 := n0_; have BK102 := n1_; have HB := n2_; have BK103 := n3_; have GW103 := n4_; have GE103 := n5_; have NB101_103 := n6_; have NB103_101 := n7_; have NB102_103 := n8_; have NB103_102 := n9_; clear n0_ n1_ n2_ n3_ n4_ n5_ n6_ n7_ n8_ n9_; clear hx_; clear hb hbox hg; have hnb5 := NB101_102.out; have hnc5 := NB102_101.out; have hnb6 := NB101_103.out; have hnc6 := NB103_101.out; have hcz7_0 : w4.cell? ⟨gb101, 0, none⟩ = some (.int .i64 a0_0) := (blk_cell BK101.out 0).trans rfl; have hcz7_1 : w4.cell? ⟨gb101, 1, none⟩ = some (.int .i64 a0_1) := (blk_cell BK101.out 1).trans rfl; have hfz7_0 := blk_frozen BK101.out 0; have hfz7_1 := blk_frozen BK101.out 1; have hnb8 := NB103_102.out; have hnc8 := NB102_103.out; have hcz9_0 : w4.cell? ⟨gb103, 0, none⟩ = some (.int .i64 0) := (blk_cell BK103.out 0).trans rfl; have hcz9_1 : w4.cell? ⟨gb103, 1, none⟩ = some (.int .i64 0) := (blk_cell BK103.out 1).trans rfl; have hfz9_0 := blk_frozen BK103.out 0; have hfz9_1 := blk_frozen BK103.out 1; have hcz10_0 : w4.cell? ⟨gb102, 0, none⟩ = some (.int .i64 0) := (blk_cell BK102.out 0).trans rfl; have hcz10_1 : w4.cell? ⟨gb102, 1, none⟩ = some (.int .i64 0) := (blk_cell BK102.out 1).trans rfl; have hfz10_0 := blk_frozen BK102.out 0; have hfz10_1 := blk_frozen BK102.out 1))
 refine bodyPost_ret (results_cell_row rfl _ _ gb102 43 #[.int .i64 a0_0, .int .i64 a0_1] (0, 0) _ rfl qa46 Try.underlying43 rfl qa8) rfl ?_
 exact ⟨qa4, qa16⟩


def laws_toVersionS.l0 : Nat → List (S141) → List (S43) → Int → Option ((List (S43)))
 | 0, _, _, _ => none
 | k + 1, x0, x3, x4 => if x4 < (x0.length : Int) then (if 0 ≤ x4 then ((laws_toVersion.f ((rd_T141 x0 x4).f0) ((rd_T141 x0 x4).f1)).bind fun bt105 => (if x4 < (x3.length : Int) then (laws_toVersionS.l0 k x0 (x3.set (x4 : Int).toNat (⟨bt105.1, bt105.2⟩ : S43)) (wrap64 (x4 + 1))) else (none))) else (none)) else (some x3)
def laws_toVersionS.f (k : Nat) (l0 : List (S141)) : Option ((List (S43))) := if 0 ≤ (l0.length : Int) then (if ((l0.length : Int) : Int).toNat ≤ 17592186044416 then (laws_toVersionS.l0 k l0 (List.replicate ((l0.length : Int) : Int).toNat z43) 0) else (none)) else (none)
set_option maxHeartbeats 8000000 in
set_option maxRecDepth 100000 in
theorem laws_toVersionS.calls (k : Nat) (A0 : Option Addr) (c0 : Nat) (l0 : List (S141)) (r : List (S43)) (w : World) (hr0 : Kd.C k141 w A0 l0.length l0) (hc0 : l0.length ≤ c0) (h : laws_toVersionS.f k l0 = some r) :
  Calls Try.prog 101 #[.slice A0 l0.length c0] w fun e w' => ∃ v0_ : Value, e = .returned (v0_) ∧ Kd.R k43 43 w' w.heap.size (fun _ => True) v0_ r ∧ Below w.heap.size w w' := by
 have hu141 := Try.underlying141; have hu43 := Try.underlying43; have HR0 := qO hr0; have HC0 := qO hc0; clear hr0 hc0; have HB := qO (Below.refl w.heap.size w); have H : (if 0 ≤ (l0.length : Int) then (if ((l0.length : Int) : Int).toNat ≤ 17592186044416 then (laws_toVersionS.l0 k l0 (List.replicate ((l0.length : Int) : Int).toNat z43) 0) else (none)) else (none)) = some r := h; clear h
 by_cases c2 : 0 ≤ (l0.length : Int)
 ·rw [if_pos c2] at H
  have c2b0 := eq_true c2; have c2b1 : decide (0 ≤ (l0.length : Int)) = true := decide_eq_true c2; clear c2
  by_cases c3 : ((l0.length : Int) : Int).toNat ≤ 17592186044416
  ·rw [if_pos c3] at H
   have c3b0 := eq_true c3; have c3b1 : decide (((l0.length : Int) : Int).toNat ≤ 17592186044416) = true := decide_eq_true c3; clear c3; obtain ⟨y101, hy101⟩ : ∃ y_ : List (S43), y_ = (List.replicate ((l0.length : Int) : Int).toNat z43) := ⟨_, rfl⟩; replace H : (laws_toVersionS.l0 k l0 y101 0) = some r := by first | (rw [hy101]; with_reducible exact H) | (have H2_ := (Option.bind_some _ _).symm.trans H; rw [hy101]; with_reducible exact H2_) | (have H2_ := (Option.bind_some _ _).symm.trans H; with_reducible exact H2_) | with_reducible exact H | (rw [hy101]; exact H) | exact H
   have Ny101 := qO hy101; clear hy101; have H' := qO H; clear H
   go_enter Try.func101, Try.ntmps101
   go_wp2_with (first | ((with_reducible refine gate_dst (N := 7) rfl ?_); refine Kd.R_make k43 _ 43 rfl (N := 7) rfl 41 _ _ rfl (l0.length : Int) rfl rfl Try.underlying41 (.agg #[(.int .i64 0), (.int .i64 0)]) 16 info43 rfl qa82 qa27 z43 (ok := fun _ => True) (okp := fun _ => True) (k43_mkM _ _ _ z43 ) (fun _ hk => hk) trivial (qT qa0) (Nat.le_trans (Nat.mul_le_mul_right _ (qT qa0 : (l0.length : Int).toNat ≤ 17592186044416)) qa27) (Below.refl _ _) (Nat.le_refl _) ?_; intro v102 w4 ho5 hb hg_ hnew_; clear hg_ hnew_; (first | rw [← Ny101.out] at ho5 | (simp only [Int.reduceToNat] at ho5; rw [← Ny101.out] at ho5)); have n0_ := qO (Kd.R_lower ho5 (below_size qa12)); have n1_ := qO (below_step qa12 hb); clear HB; have HO103 := n0_; have HB := n1_; clear n0_ n1_; clear hb ho5))
   go_loopg [4] k (fun kq v4 w' => ∃ (x3_1 : List (S43)) (x4_1 : Int), v4 = .int .i64 x4_1 ∧ Aside0 (laws_toVersionS.l0 kq l0 x3_1 x4_1 = some r) ∧ Aside0 (kq ≤ k) ∧ Aside0 (Kd.R k43 43 w' w.heap.size (fun _ => True) v102 x3_1) ∧ Aside0 (Below w.heap.size w w'))
   case atStart => exact ⟨(y101), (0), qa9, H', ⟨Nat.le_refl _⟩, ⟨qa107⟩, ⟨qa12⟩⟩
   case round =>
    clear H'
    try clear c1
    try clear c2
    try clear c2b0
    try clear c2b1
    try clear p2
    try clear c3
    try clear c3b0
    try clear c3b1
    obtain ⟨x3_1, x4_1, rfl, HA, HK1, HO_3, HB⟩ := hrel
    cases gk with
    | zero => exact absurd HA.out (by simp [laws_toVersionS.l0])
    | succ k1 =>
     have H := HA.out; clear HA; simp only [laws_toVersionS.l0] at H
     by_cases c6 : x4_1 < (l0.length : Int)
     ·rw [if_pos c6] at H
      have c6b0 : decide (x4_1 < (l0.length : Int)) = true := decide_eq_true c6; clear c6
      by_cases c7 : 0 ≤ x4_1
      ·rw [if_pos c7] at H
       have c7b0 : decide (0 ≤ x4_1) = true := decide_eq_true c7; clear c7; replace H := Option.bind_eq_some_iff.mp H; obtain ⟨⟨t105, t106⟩, A80, H⟩ := H; replace H : (if x4_1 < (x3_1.length : Int) then (laws_toVersionS.l0 k1 l0 (x3_1.set (x4_1 : Int).toNat (⟨t105, t106⟩ : S43)) (wrap64 (x4_1 + 1))) else (none)) = some r := H; have A8 := qO A80; clear A80
       by_cases c9 : x4_1 < (x3_1.length : Int)
       ·rw [if_pos c9] at H
        have c9b0 : decide (x4_1 < (x3_1.length : Int)) = true := decide_eq_true c9; clear c9; obtain ⟨y107, hy107⟩ : ∃ y_ : List (S43), y_ = (x3_1.set (x4_1 : Int).toNat (⟨t105, t106⟩ : S43)) := ⟨_, rfl⟩; replace H : (laws_toVersionS.l0 k1 l0 y107 (wrap64 (x4_1 + 1))) = some r := by first | (rw [hy107]; with_reducible exact H) | (have H2_ := (Option.bind_some _ _).symm.trans H; rw [hy107]; with_reducible exact H2_) | (have H2_ := (Option.bind_some _ _).symm.trans H; with_reducible exact H2_) | with_reducible exact H | (rw [hy107]; exact H) | exact H
        have Ny107 := qO hy107; clear hy107; have H' := qO H; clear H; have p104 : 0 ≤ (x4_1 : Int) := qT qa0; have q104 : x4_1 < (l0.length : Int) := qT qa0; obtain ⟨ad104, e104, hx104_0, hx104_1⟩ := at_T141 HR0.out x4_1 p104 q104
        cases e104
        replace hx104_0 := (HB.out.cell (qL w _ hx104_0)).trans hx104_0; replace hx104_1 := (HB.out.cell (qL w _ hx104_1)).trans hx104_1; replace p104 := eq_true p104; replace q104 := eq_true q104
        go_wp2_with (first | ((with_reducible refine gate_callee (f := 127) rfl ?_); refine goesL_ (some 20) rfl rfl Try.func127 qa8 rfl #[.agg #[.int .i64 ((rd_T141 l0 x4_1).f0), .int .i64 ((rd_T141 l0 x4_1).f1)]] rfl qa1 ?_; (with_reducible refine (laws_toVersion.calls ((rd_T141 l0 x4_1).f0) ((rd_T141 l0 x4_1).f1) t105 t106 _ A8.out).mono ?_); rintro e w11 ⟨rfl, hb⟩; have hx_ := qHX HB hb qa2; refine ⟨_, rfl, ?_⟩; have n0_ := qO (Kd.R_below qa54 hb); have n1_ := qO (below_step (below_step HB.out hx_) hb); clear HO_3; clear HB; have HO_3 := n0_; have HB := n1_; clear n0_ n1_; clear hx_; (try clear hb); (try clear hb2); (try clear hk); (try clear hi); have p10 : 0 ≤ (x4_1 : Int) := qT qa0; have q10 : (x4_1 : Int) < ((x3_1.length : Int) : Int) := qT qa0; obtain ⟨go10, co10, eo10, gb10, gl10, cl10, HG10⟩ := Kd.R_form HO_3.out qa27; (first | cases eo10 | (injection eo10 with ea_ en_ ec_; (first | subst ea_ | (injection ea_ with ea_; subst ea_)); subst ec_; clear en_)); have GB10 := qO gb10; have GG10 := qO HG10; clear gb10 gl10 HG10; obtain ⟨ce10, hcl10, hM10, hcc10, hfr10⟩ := Kd.R_elem HO_3.out z43 (x4_1 : Int) p10 q10; obtain rfl := k43_openM hM10; have hx10_0 : w11.cell? ⟨go10, (x4_1 : Int).toNat * 2, none⟩ = some (.int .i64 ((rd_T43 x3_1 x4_1).f0)) := hcc10 0 _ rfl; have hx10_1 : w11.cell? ⟨go10, (x4_1 : Int).toNat * 2 + 1, none⟩ = some (.int .i64 ((rd_T43 x3_1 x4_1).f1)) := hcc10 1 _ rfl; have hf10_0 : w11.frozen? ⟨go10, (x4_1 : Int).toNat * 2, none⟩ = false := hfr10 0; have hf10_1 : w11.frozen? ⟨go10, (x4_1 : Int).toNat * 2 + 1, none⟩ = false := hfr10 1; clear hcl10 hcc10 hfr10; (try clear hM10); replace p10 := eq_true p10; replace q10 := eq_true q10; have HX12 := qO (show Kd.R k43 43 w11 w.heap.size (fun _ => True) (.slice (some ⟨go10, 0, none⟩) x3_1.length co10) x3_1 from qa54); obtain ⟨ce12, hcl12, hM12, hcc12, hfr12⟩ := Kd.R_elem HX12.out z43 (x4_1 : Int) (qT qa0) (by have h_ : (x4_1 : Int) < ((x3_1.length : Int) : Int) := qT qa0; first | exact h_ | (have e_ := (Kd.R_reads' HO_3.out).1; omega) | simpa using h_); obtain rfl := k43_openM hM12; have HP12 := Kd.R_seg HX12.out (x4_1 : Int) (qT qa0) (by have h_ : (x4_1 : Int) < ((x3_1.length : Int) : Int) := qT qa0; first | exact h_ | (have e_ := (Kd.R_reads' HO_3.out).1; omega) | simpa using h_) (seg := [.int .i64 t105, .int .i64 t106]) (j := 0) hcl12 hcc12 (show 2 ≤ 2 from by decide) (x' := (⟨t105, t106⟩ : S43)) (k43_mkM _ _ _ (⟨t105, t106⟩ : S43) ) (fun _ hk => hk); have hx12_0 := hcc12 0 _ rfl; (try simp only [show (k43).sz = 2 from rfl, Nat.mul_one, Nat.add_zero] at hx12_0); have hf12_0 := hfr12 0; (try simp only [show (k43).sz = 2 from rfl, Nat.mul_one, Nat.add_zero] at hf12_0); have hx12_1 := hcc12 1 _ rfl; (try simp only [show (k43).sz = 2 from rfl, Nat.mul_one, Nat.add_zero] at hx12_1); have hf12_1 := hfr12 1; (try simp only [show (k43).sz = 2 from rfl, Nat.mul_one, Nat.add_zero] at hf12_1); clear hcl12 hcc12 hfr12; (try clear hM12)) | ((with_reducible refine gate_store (t := 43) (p := 21) rfl ?_); refine store_event (t := 43) (p := 21) (v := ?vo_w13) (w1 := ((w11.setCell ⟨go10, (x4_1 : Int).toNat * 2, none⟩ (.int .i64 t105)).setCell ⟨go10, (x4_1 : Int).toNat * 2 + 1, none⟩ (.int .i64 t106))) ?hg ?ho ?hn ?hr ?_; (case ho => rfl); (case hg => rfl); (case hn => rfl); (case hr => exact qa15); intro w13 hw; have hg : w11.grownBy w13 (some go10) := (by rw [hw]; exact HP12.2); have hp_ : Kd.R k43 43 w13 w.heap.size (fun _ => True) (.slice (some ⟨go10, 0, none⟩) x3_1.length co10) y107 := (by rw [hw, Ny107.out]; exact HP12.1); clear HP12; have n0_ := qO (hp_); have n1_ := qO ((by rw [hw]; exact qbS (qbS (HB.out) GB10.out) GB10.out : Below w.heap.size w w13)); clear HO_3; clear HB; have HO_3 := n0_; have HB := n1_; clear n0_ n1_; clear hg hw hp_))
        go_roundg k1
        case measure => have := HK1.out; omega
        case rel => exact ⟨(y107), (wrap64 (x4_1 + 1)), qa9, H', ⟨qa89⟩, ⟨qa54⟩, ⟨qa12⟩⟩
       ·rw [if_neg c9] at H
        exact absurd H qa109
      ·rw [if_neg c7] at H
       exact absurd H qa109
     ·rw [if_neg c6] at H
      have c6b0 : decide (x4_1 < (l0.length : Int)) = false := decide_eq_false c6; clear c6; obtain rfl := Option.some.inj H; go_wp2
      go_ret
      exact ⟨_, qa4, qa54, qa12⟩
  ·rw [if_neg c3] at H
   exact absurd H qa109
 ·rw [if_neg c2] at H
  exact absurd H qa109


def laws_toVersionSS.l0 : Nat → List (List (S141)) → List (List (S43)) → Int → Option ((List (List (S43))))
 | 0, _, _, _ => none
 | k + 1, x0, x3, x4 => if x4 < (x0.length : Int) then (if 0 ≤ x4 then ((laws_toVersionS.f k (rd_L2 x0 x4)).bind fun t105 => (if x4 < (x3.length : Int) then (laws_toVersionSS.l0 k x0 (x3.set (x4 : Int).toNat t105) (wrap64 (x4 + 1))) else (none))) else (none)) else (some x3)
def laws_toVersionSS.f (k : Nat) (l0 : List (List (S141))) : Option ((List (List (S43)))) := if 0 ≤ (l0.length : Int) then (if ((l0.length : Int) : Int).toNat ≤ 11728124029610 then (laws_toVersionSS.l0 k l0 (List.replicate ((l0.length : Int) : Int).toNat []) 0) else (none)) else (none)
set_option maxHeartbeats 8000000 in
set_option maxRecDepth 100000 in
theorem laws_toVersionSS.calls (k : Nat) (A0 : Option Addr) (c0 : Nat) (l0 : List (List (S141))) (r : List (List (S43))) (w : World) (hr0 : Kd.C (Kd.slice 141 k141) w A0 l0.length l0) (hc0 : l0.length ≤ c0) (h : laws_toVersionSS.f k l0 = some r) :
  Calls Try.prog 56 #[.slice A0 l0.length c0] w fun e w' => ∃ v0_ : Value, e = .returned (v0_) ∧ Kd.S (Kd.slice 43 k43) 41 w' w.heap.size (fun _ => True) v0_ r ∧ Below w.heap.size w w' := by
 have HR0 := qO hr0; have HC0 := qO hc0; clear hr0 hc0; have HB := qO (Below.refl w.heap.size w); have H : (if 0 ≤ (l0.length : Int) then (if ((l0.length : Int) : Int).toNat ≤ 11728124029610 then (laws_toVersionSS.l0 k l0 (List.replicate ((l0.length : Int) : Int).toNat []) 0) else (none)) else (none)) = some r := h; clear h
 by_cases c2 : 0 ≤ (l0.length : Int)
 ·rw [if_pos c2] at H
  have c2b0 := eq_true c2; have c2b1 : decide (0 ≤ (l0.length : Int)) = true := decide_eq_true c2; clear c2
  by_cases c3 : ((l0.length : Int) : Int).toNat ≤ 11728124029610
  ·rw [if_pos c3] at H
   have c3b0 := eq_true c3; have c3b1 : decide (((l0.length : Int) : Int).toNat ≤ 11728124029610) = true := decide_eq_true c3; clear c3; obtain ⟨y101, hy101⟩ : ∃ y_ : List (List (S43)), y_ = (List.replicate ((l0.length : Int) : Int).toNat []) := ⟨_, rfl⟩; replace H : (laws_toVersionSS.l0 k l0 y101 0) = some r := by first | (rw [hy101]; with_reducible exact H) | (have H2_ := (Option.bind_some _ _).symm.trans H; rw [hy101]; with_reducible exact H2_) | (have H2_ := (Option.bind_some _ _).symm.trans H; with_reducible exact H2_) | with_reducible exact H | (rw [hy101]; exact H) | exact H
   have Ny101 := qO hy101; clear hy101; have H' := qO H; clear H
   go_enter Try.func56, Try.ntmps56
   go_wp2_with (first | ((with_reducible refine gate_dst (N := 7) rfl ?_); refine Kd.S_make (Kd.slice 43 k43) _ 41 rfl (N := 7) rfl 26 _ _ rfl (l0.length : Int) rfl rfl Try.underlying26 (.slice none 0 0) 24 info41 rfl qa82 qa27 [] (ok := fun _ => True) (okp := fun _ => True) ⟨_, rfl, Kd.R_nil _ _ _ _ _⟩ (fun _ hk => hk) trivial (qT qa0) (Nat.le_trans (Nat.mul_le_mul_right _ (qT qa0 : (l0.length : Int).toNat ≤ 11728124029610)) qa27) (Below.refl _ _) (Nat.le_refl _) ?_; intro v102 w4 ho5 hb hg_ hnew_; clear hg_ hnew_; (first | rw [← Ny101.out] at ho5 | (simp only [Int.reduceToNat] at ho5; rw [← Ny101.out] at ho5)); have n0_ := qO (Kd.S_lower ho5 (below_size qa12)); have n1_ := qO (below_step qa12 hb); clear HB; have HO103 := n0_; have HB := n1_; clear n0_ n1_; clear hb ho5))
   go_loopg [4] k (fun kq v4 w' => ∃ (x3_1 : List (List (S43))) (x4_1 : Int), v4 = .int .i64 x4_1 ∧ Aside0 (laws_toVersionSS.l0 kq l0 x3_1 x4_1 = some r) ∧ Aside0 (kq ≤ k) ∧ Aside0 (Kd.S (Kd.slice 43 k43) 41 w' w.heap.size (fun _ => True) v102 x3_1) ∧ Aside0 (Below w.heap.size w w'))
   case atStart => exact ⟨(y101), (0), qa9, H', ⟨Nat.le_refl _⟩, ⟨by (with_reducible repeat (first | apply Kd.S_alloc | apply Kd.S_drewN | apply Kd.S_drew)); exact HO103.out⟩, ⟨qa12⟩⟩
   case round =>
    clear H'
    try clear c2
    try clear c2b0
    try clear c2b1
    try clear p2
    try clear c3
    try clear c3b0
    try clear c3b1
    try clear c5
    obtain ⟨x3_1, x4_1, rfl, HA, HK1, HO_3, HB⟩ := hrel
    cases gk with
    | zero => exact absurd HA.out (by simp [laws_toVersionSS.l0])
    | succ k1 =>
     have H := HA.out; clear HA; simp only [laws_toVersionSS.l0] at H
     by_cases c6 : x4_1 < (l0.length : Int)
     ·rw [if_pos c6] at H
      have c6b0 : decide (x4_1 < (l0.length : Int)) = true := decide_eq_true c6; clear c6
      by_cases c7 : 0 ≤ x4_1
      ·rw [if_pos c7] at H
       have c7b0 : decide (0 ≤ x4_1) = true := decide_eq_true c7; clear c7; replace H := Option.bind_eq_some_iff.mp H; obtain ⟨t105, A80, H⟩ := H; replace H : (if x4_1 < (x3_1.length : Int) then (laws_toVersionSS.l0 k1 l0 (x3_1.set (x4_1 : Int).toNat t105) (wrap64 (x4_1 + 1))) else (none)) = some r := H; have A8 := qO A80; clear A80
       by_cases c9 : x4_1 < (x3_1.length : Int)
       ·rw [if_pos c9] at H
        have c9b0 : decide (x4_1 < (x3_1.length : Int)) = true := decide_eq_true c9; clear c9; obtain ⟨y108, hy108⟩ : ∃ y_ : List (List (S43)), y_ = (x3_1.set (x4_1 : Int).toNat t105) := ⟨_, rfl⟩; replace H : (laws_toVersionSS.l0 k1 l0 y108 (wrap64 (x4_1 + 1))) = some r := by first | (rw [hy108]; with_reducible exact H) | (have H2_ := (Option.bind_some _ _).symm.trans H; rw [hy108]; with_reducible exact H2_) | (have H2_ := (Option.bind_some _ _).symm.trans H; with_reducible exact H2_) | with_reducible exact H | (rw [hy108]; exact H) | exact H
        have Ny108 := qO hy108; clear hy108; have H' := qO H; clear H; have p104 : 0 ≤ (x4_1 : Int) := qT qa0; have q104 : x4_1 < (l0.length : Int) := qT qa0; obtain ⟨ad104, A104_0, c104_0, e104, hx104_0, hl104_0, hi104_0⟩ := at_L2 HR0.out x4_1 p104 q104
        cases e104
        replace hx104_0 := (HB.out.cell (qL w _ hx104_0)).trans hx104_0; have HR104_0 := qO hi104_0; have HC104_0 := qO hl104_0; clear hi104_0 hl104_0; replace p104 := eq_true p104; replace q104 := eq_true q104
        go_wp2_with (first | ((with_reducible refine gate_callee (f := 101) rfl ?_); refine goesL_ (some 20) rfl rfl Try.func101 qa8 rfl #[.slice A104_0 (rd_L2 l0 x4_1).length c104_0] rfl qa1 ?_; (with_reducible refine (laws_toVersionS.calls k1 _ _ (rd_L2 l0 x4_1) t105 _ ?side1 ?side2 A8.out).mono ?_); (case side1 => repeat (first | exact (Kd.C_below HR104_0.out HB.out) | with_reducible first | refine Kd.C_alloc ?_ _ | refine Kd.C_drewN ?_ _ | refine Kd.C_drew ?_)); (case side2 => exact HC104_0.out); rintro e w11 ⟨v106, rfl, ho0, hb⟩; have hx_ := qHX HB hb qa2; refine ⟨_, rfl, ?_⟩; have n0_ := qO (Kd.S_elder' qa108 (Kd.R_base ho0) hb); have n1_ := qO (Kd.R_lower ho0 (below_size (below_step HB.out hx_))); have n2_ := qO (below_step (below_step HB.out hx_) hb); clear HO_3; clear HB; have HO_3 := n0_; have HO107 := n1_; have HB := n2_; clear n0_ n1_ n2_; clear hx_; (try clear hb); (try clear hb2); (try clear hk); (try clear hi); (try clear ho0); have p10 : 0 ≤ (x4_1 : Int) := qT qa0; have q10 : (x4_1 : Int) < ((x3_1.length : Int) : Int) := qT qa0; obtain ⟨go10, co10, eo10, gb10, gl10, cl10, HG10⟩ := Kd.S_form HO_3.out qa27; (first | cases eo10 | (injection eo10 with ea_ en_ ec_; (first | subst ea_ | (injection ea_ with ea_; subst ea_)); subst ec_; clear en_)); have GB10 := qO gb10; have GG10 := qO HG10; clear gb10 gl10 HG10; obtain ⟨_, ce10, hcl10, hM10, hcc10, hfr10, _, _⟩ := Kd.S_elem HO_3.out [] (x4_1 : Int) p10 q10; obtain ⟨ve10_0, rfl, ge10_0⟩ := hM10; have hx10_0 := hcc10 0 _ rfl; have hf10_0 := hfr10 0; (try simp only [show ((Kd.slice 43 k43)).sz = 1 from rfl, Nat.mul_one, Nat.add_zero] at hx10_0); (try simp only [show ((Kd.slice 43 k43)).sz = 1 from rfl, Nat.mul_one, Nat.add_zero] at hf10_0); clear hcl10 hcc10 hfr10; (try clear hM10); replace p10 := eq_true p10; replace q10 := eq_true q10; have n_ := qO (Kd.S_mono (ok' := (fun k_ => some k_ ≠ (v106 : Value).ownBlock)) HO_3.out (fun k_ hk => hk.2)); clear HO_3; have HO_3 := n_; clear n_; have HX12 := qO (show Kd.S (Kd.slice 43 k43) 41 w11 w.heap.size (fun k_ => ((fun _ => True)) k_ ∧ ¬ ((fun k_ => some k_ = (v106 : Value).ownBlock)) k_) (.slice (some ⟨go10, 0, none⟩) x3_1.length co10) x3_1 from (by (with_reducible repeat (first | apply Kd.S_alloc | apply Kd.S_drewN | apply Kd.S_drew)); exact Kd.S_mono HO_3.out (fun k_ hk => ⟨trivial, fun e_ => hk e_⟩))); obtain ⟨oki12, ce12, hcl12, hM12, hcc12, hfr12, hoki12, hH12⟩ := Kd.S_elem HX12.out [] (x4_1 : Int) (qT qa0) (by have h_ : (x4_1 : Int) < ((x3_1.length : Int) : Int) := qT qa0; first | exact h_ | (have e_ := (Kd.S_reads' HO_3.out).1; omega) | simpa using h_); obtain ⟨ve12_0, rfl, ge12_0⟩ := hM12; have HP12 := Kd.S_seg hH12 (qT qa0) (by have h_ : (x4_1 : Int) < ((x3_1.length : Int) : Int) := qT qa0; first | exact h_ | (have e_ := (Kd.S_reads' HO_3.out).1; omega) | simpa using h_) (seg := [v106]) (j := 0) (show 1 ≤ 1 from by decide) (x' := t105) (Kd.M_row (Kd.R_mono (Kd.R_tight rfl (Kd.R_mono (ok' := fun k_ => ((fun _ => True)) k_ ∧ k_ ≠ go10) (Kd.R_apart' (HO107.out) (Kd.S_typed HO_3.out) qa82) (fun k_ hk => ⟨trivial, fun e_ => (hk.2) (by rw [e_]; rfl)⟩))) (fun _ h_ => Or.inr (h_)))) (fun _ hk => hk) (fun k_ hk_ => ((Kd.R_mono (ok' := fun k_ => ((fun _ => True)) k_ ∧ k_ ≠ go10) (Kd.R_apart' (HO107.out) (Kd.S_typed HO_3.out) qa82) (fun k_ hk => ⟨trivial, fun e_ => (hk.2) (by rw [e_]; rfl)⟩))).1 k_ hk_.symm); have hx12_0 := hcc12 0 _ rfl; (try simp only [show ((Kd.slice 43 k43)).sz = 1 from rfl, Nat.mul_one, Nat.add_zero] at hx12_0); have hf12_0 := hfr12 0; (try simp only [show ((Kd.slice 43 k43)).sz = 1 from rfl, Nat.mul_one, Nat.add_zero] at hf12_0); clear hcl12 hcc12 hfr12; (try clear hM12); clear hoki12 hH12; (try simp only [show ((Kd.slice 43 k43)).sz = 1 from rfl, Nat.mul_one, Nat.add_zero] at HP12)) | ((with_reducible refine gate_store (t := 41) (p := 21) rfl ?_); refine store_event (t := 41) (p := 21) (v := ?vo_w13) (w1 := (w11.setCell ⟨go10, (x4_1 : Int).toNat, none⟩ (v106))) ?hg ?ho ?hn ?hr ?_; (case ho => rfl); (case hg => rfl); (case hn => rfl); (case hr => obtain ⟨Av0_, cv0_, ev0_⟩ := Kd.R_slice HO107.out; rw [ev0_]; first | (go_simp; done) | (go_simp; rfl)); intro w13 hw; have hg : w11.grownBy w13 (some go10) := (by rw [hw]; exact HP12.2); have hp_ : Kd.S (Kd.slice 43 k43) 41 w13 w.heap.size (fun _ => True) (.slice (some ⟨go10, 0, none⟩) x3_1.length co10) y108 := (by rw [hw, Ny108.out]; exact HP12.1); clear HP12; have n0_ := qO (hp_); have n1_ := qO ((by rw [hw]; exact qbS (HB.out) GB10.out : Below w.heap.size w w13)); clear HO_3; clear HB; clear HO107; have HO_3 := n0_; have HB := n1_; clear n0_ n1_; clear hg hw hp_))
        go_roundg k1
        case measure => have := HK1.out; omega
        case rel => exact ⟨(y108), (wrap64 (x4_1 + 1)), qa9, H', ⟨qa89⟩, ⟨qa108⟩, ⟨qa12⟩⟩
       ·rw [if_neg c9] at H
        exact absurd H qa109
      ·rw [if_neg c7] at H
       exact absurd H qa109
     ·rw [if_neg c6] at H
      have c6b0 : decide (x4_1 < (l0.length : Int)) = false := decide_eq_false c6; clear c6; obtain rfl := Option.some.inj H; go_wp2
      go_ret
      exact ⟨_, qa4, qa108, qa12⟩
  ·rw [if_neg c3] at H
   exact absurd H qa109
 ·rw [if_neg c2] at H
  exact absurd H qa109


def laws_toStore.f (k : Nat) (l0_0 : List (List (S141))) (a0_1 : Int) : Option ((List (List (S43))) × Int) := (laws_toVersionSS.f k l0_0).bind fun t104 => (some (t104, a0_1))
set_option maxHeartbeats 8000000 in
set_option maxRecDepth 100000 in
theorem laws_toStore.calls (k : Nat) (A0_0 : Option Addr) (c0_0 : Nat) (l0_0 : List (List (S141))) (a0_1 : Int) (r1 : List (List (S43))) (r2 : Int) (w : World) (hr0_0 : Kd.C (Kd.slice 141 k141) w A0_0 l0_0.length l0_0) (hc0_0 : l0_0.length ≤ c0_0) (h : laws_toStore.f k l0_0 a0_1 = some (r1, r2)) :
  Calls Try.prog 13 #[.agg #[.slice A0_0 l0_0.length c0_0, .int .i64 a0_1]] w fun e w' => ∃ v0_ : Value, e = .returned (.agg #[v0_, .int .i64 r2]) ∧ Kd.S (Kd.slice 43 k43) 41 w' w.heap.size (fun _ => True) v0_ r1 ∧ Below w.heap.size w w' := by
 have hu24 := Try.underlying24; have hu28 := Try.underlying28; have HR0_0 := qO hr0_0; have HC0_0 := qO hc0_0; clear hr0_0 hc0_0; have HB := qO (Below.refl w.heap.size w); have H : ((laws_toVersionSS.f k l0_0).bind fun t104 => (some (t104, a0_1))) = some (r1, r2) := h; clear h; replace H := Option.bind_eq_some_iff.mp H; obtain ⟨t104, A20, H⟩ := H; replace H : (some (t104, a0_1)) = some (r1, r2) := H; have A2 := qO A20; clear A20; simp only [Option.some.injEq, Prod.mk.injEq] at H; obtain ⟨rfl, rfl⟩ := H
 go_enter Try.func13, Try.ntmps13
 go_wp2_with (first | ((with_reducible refine gate_dst (N := 1) rfl ?_); refine box_event ?hg (N := 1) ?hd (cs := #[.slice A0_0 l0_0.length c0_0, .int .i64 a0_1]) (t := 24) ?hr ?_; (case hd => rfl); (case hg => rfl); (case hr => exact qa15); intro gb101 hg w3 hbox hb; have hx_ := qHX HB hb qa2; have n0_ := qO (below_step (below_step HB.out hx_) hb); have n1_ := qO (hbox); have n2_ := qO ((qa17 : w.heap.size ≤ gb101)); have n3_ := n2_; clear HB; have HB := n0_; have BK101 := n1_; have GW101 := n2_; have GE101 := n3_; clear n0_ n1_ n2_ n3_; clear hx_; clear hb hbox hg) | ((with_reducible refine gate_dst (N := 2) rfl ?_); refine box_event ?hg (N := 2) ?hd (cs := #[.slice none 0 0, .int .i64 0]) (t := 28) ?hr ?_; (case hd => rfl); (case hg => rfl); (case hr => exact qa15); intro gb102 hg w4 hbox hb; have hx_ := qHX HB hb qa2; have n0_ := qO (qB BK101.out hx_ hb); have n1_ := qO (below_step (below_step HB.out hx_) hb); have n2_ := qO (hbox); have n3_ := qO ((qa17 : w.heap.size ≤ gb102)); have n4_ := n3_; have n5_ := qO ((qa90 : gb101 ≠ gb102)); have n6_ := qO (Ne.symm n5_.out); clear BK101; clear HB; have BK101 := n0_; have HB := n1_; have BK102 := n2_; have GW102 := n3_; have GE102 := n4_; have NB101_102 := n5_; have NB102_101 := n6_; clear n0_ n1_ n2_ n3_ n4_ n5_ n6_; clear hx_; clear hb hbox hg) | ((with_reducible refine gate_dst (N := 3) rfl ?_); refine box_event ?hg (N := 3) ?hd (cs := #[.slice none 0 0, .int .i64 0]) (t := 28) ?hr ?_; (case hd => rfl); (case hg => rfl); (case hr => exact qa15); intro gb103 hg w5 hbox hb; have hx_ := qHX HB hb qa2; have n0_ := qO (qB BK101.out hx_ hb); have n1_ := qO (qB BK102.out hx_ hb); have n2_ := qO (below_step (below_step HB.out hx_) hb); have n3_ := qO (hbox); have n4_ := qO ((qa17 : w.heap.size ≤ gb103)); have n5_ := n4_; have n6_ := qO ((qa90 : gb101 ≠ gb103)); have n7_ := qO (Ne.symm n6_.out); have n8_ := qO ((by rw [hg]; exact Nat.ne_of_lt (blk_lt (g := gb102) (o := .cells #[.slice none 0 0, .int .i64 0] 28 (0, 0)) (by (with_reducible repeat (first | refine qkN ?_ _ | refine qkD ?_ | refine qkA ?_ _)); exact BK102.out)) : gb102 ≠ gb103)); have n9_ := qO (Ne.symm n8_.out); clear BK101; clear BK102; clear HB; have BK101 := n0_; have BK102 := n1_; have HB := n2_; have BK103 := n3_; have GW103 := n4_; have GE103 := n5_; have NB101_103 := n6_; have NB103_101 := n7_; have NB102_103 := n8_; have NB103_102 := n9_; clear n0_ n1_ n2_ n3_ n4_ n5_ n6_ n7_ n8_ n9_; clear hx_; clear hb hbox hg; have hnb6 := NB101_102.out; have hnc6 := NB102_101.out; have hnb7 := NB101_103.out; have hnc7 := NB103_101.out; have hcz8_0 : w5.cell? ⟨gb101, 0, none⟩ = some (.slice A0_0 l0_0.length c0_0) := (blk_cell BK101.out 0).trans rfl; have hcz8_1 : w5.cell? ⟨gb101, 1, none⟩ = some (.int .i64 a0_1) := (blk_cell BK101.out 1).trans rfl; have hfz8_0 := blk_frozen BK101.out 0; have hfz8_1 := blk_frozen BK101.out 1) | ((with_reducible refine gate_callee (f := 56) rfl ?_); refine goesL_ (some 6) rfl rfl Try.func56 qa8 rfl #[.slice A0_0 l0_0.length c0_0] rfl qa1 ?_; (with_reducible refine (laws_toVersionSS.calls k _ _ l0_0 t104 _ ?side1 ?side2 A2.out).mono ?_); (case side1 => exact qa28); (case side2 => exact HC0_0.out); rintro e w9 ⟨v105, rfl, ho0, hb⟩; have hx_ := qHX HB hb qa2; refine ⟨_, rfl, ?_⟩; have n0_ := qO (Kd.S_lower ho0 (below_size (below_step HB.out hx_))); have n1_ := qO (qB BK101.out hx_ hb); have n2_ := qO (qB BK102.out hx_ hb); have n3_ := qO (qB BK103.out hx_ hb); have n4_ := qO (below_step (below_step HB.out hx_) hb); clear BK101; clear BK102; clear BK103; clear HB; have HO106 := n0_; have BK101 := n1_; have BK102 := n2_; have BK103 := n3_; have HB := n4_; clear n0_ n1_ n2_ n3_ n4_; clear hx_; (try clear hb); (try clear hb2); (try clear hk); (try clear hi); (try clear ho0); obtain ⟨Ao10, co10, eo10⟩ := Kd.S_slice HO106.out; subst eo10; have hnb11 := NB103_102.out; have hnc11 := NB102_103.out; have hcz12_0 : w9.cell? ⟨gb103, 0, none⟩ = some (.slice none 0 0) := (blk_cell BK103.out 0).trans rfl; have hcz12_1 : w9.cell? ⟨gb103, 1, none⟩ = some (.int .i64 0) := (blk_cell BK103.out 1).trans rfl; have hfz12_0 := blk_frozen BK103.out 0; have hfz12_1 := blk_frozen BK103.out 1; have hcz13_0 : w9.cell? ⟨gb101, 0, none⟩ = some (.slice A0_0 l0_0.length c0_0) := (blk_cell BK101.out 0).trans rfl; have hcz13_1 : w9.cell? ⟨gb101, 1, none⟩ = some (.int .i64 a0_1) := (blk_cell BK101.out 1).trans rfl; have hfz13_0 := blk_frozen BK101.out 0; have hfz13_1 := blk_frozen BK101.out 1; have hcz14_0 : w9.cell? ⟨gb102, 0, none⟩ = some (.slice none 0 0) := (blk_cell BK102.out 0).trans rfl; have hcz14_1 : w9.cell? ⟨gb102, 1, none⟩ = some (.int .i64 0) := (blk_cell BK102.out 1).trans rfl; have hfz14_0 := blk_frozen BK102.out 0; have hfz14_1 := blk_frozen BK102.out 1))
 refine bodyPost_ret (results_cell_row rfl _ _ gb102 28 #[.slice Ao10 t104.length co10, .int .i64 a0_1] (0, 0) _ rfl (by (with_reducible repeat (first | refine qkN ?_ _ | refine qkD ?_ | refine qkA ?_ _)); refine blk_put (cs := #[.slice Ao10 t104.length co10, .int .i64 0]) ?_ 1 _ rfl; (with_reducible repeat (first | refine qkN ?_ _ | refine qkD ?_ | refine qkA ?_ _)); refine blk_put (cs := #[.slice none 0 0, .int .i64 0]) ?_ 0 _ rfl; (with_reducible repeat (first | refine qkN ?_ _ | refine qkD ?_ | refine qkA ?_ _)); refine blk_far ?_ NB102_103.out _; (with_reducible repeat (first | refine qkN ?_ _ | refine qkD ?_ | refine qkA ?_ _)); refine blk_far ?_ NB102_103.out _; (with_reducible repeat (first | refine qkN ?_ _ | refine qkD ?_ | refine qkA ?_ _)); exact BK102.out) Try.underlying28 rfl qa8) rfl ?_
 exact ⟨_, qa4, by (with_reducible repeat (first | apply Kd.S_alloc | apply Kd.S_drewN | apply Kd.S_drew)); exact Kd.S_mono (Kd.S_far (p := ⟨gb102, 1, none⟩) (Kd.S_far (p := ⟨gb102, 0, none⟩) (Kd.S_far (p := ⟨gb103, 1, none⟩) (Kd.S_far (p := ⟨gb103, 0, none⟩) (Kd.S_types (Kd.S_types HO106.out BK103.out (by decide)) BK102.out (by decide)) (fun _ hk => hk.1.2) (.slice Ao10 t104.length co10)) (fun _ hk => hk.1.2) (.int .i64 a0_1)) (fun _ hk => hk.2) (.slice Ao10 t104.length co10)) (fun _ hk => hk.2) (.int .i64 a0_1)) (fun _ hk => trivial), qa16⟩


def laws_eqVersion.f (a0_0 : Int) (a0_1 : Int) (a1_0 : Int) (a1_1 : Int) : Option (Bool) := if a0_0 = a1_0 then (if a0_1 = a1_1 then (some true) else (some false)) else (some false)
set_option maxHeartbeats 8000000 in
set_option maxRecDepth 100000 in
theorem laws_eqVersion.calls (a0_0 : Int) (a0_1 : Int) (a1_0 : Int) (a1_1 : Int) (r : Bool) (w : World) (h : laws_eqVersion.f a0_0 a0_1 a1_0 a1_1 = some r) :
  Calls Try.prog 128 #[.agg #[.int .i64 a0_0, .int .i64 a0_1], .agg #[.int .i64 a1_0, .int .i64 a1_1]] w fun e w' => e = .returned (.bool r) ∧ Below w.heap.size w w' := by
 have hu43 := Try.underlying43; have HB := qO (Below.refl w.heap.size w); have H : (if a0_0 = a1_0 then (if a0_1 = a1_1 then (some true) else (some false)) else (some false)) = some r := h; clear h
 by_cases c3 : a0_0 = a1_0
 ·rw [if_pos c3] at H
  have c3b0 : (a0_0 == a1_0) = true := beq_iff_eq.mpr c3; have c3b1 : (a0_0 != a1_0) = false := bne_eq_false_iff_eq.mpr c3; clear c3
  by_cases c4 : a0_1 = a1_1
  ·rw [if_pos c4] at H
   have c4b0 : (a0_1 == a1_1) = true := beq_iff_eq.mpr c4; have c4b1 : (a0_1 != a1_1) = false := bne_eq_false_iff_eq.mpr c4; clear c4; obtain rfl := Option.some.inj H
   go_enter Try.func128, Try.ntmps128
   go_wp2_with (first | ((with_reducible refine gate_dst (N := 2) rfl ?_); refine box_event ?hg (N := 2) ?hd (cs := #[.int .i64 a0_0, .int .i64 a0_1]) (t := 43) ?hr ?_; (case hd => rfl); (case hg => rfl); (case hr => exact qa15); intro gb101 hg w5 hbox hb; have hx_ := qHX HB hb qa2; have n0_ := qO (below_step (below_step HB.out hx_) hb); have n1_ := qO (hbox); have n2_ := qO ((qa17 : w.heap.size ≤ gb101)); have n3_ := n2_; clear HB; have HB := n0_; have BK101 := n1_; have GW101 := n2_; have GE101 := n3_; clear n0_ n1_ n2_ n3_; clear hx_; clear hb hbox hg) | ((with_reducible refine gate_dst (N := 3) rfl ?_); refine box_event ?hg (N := 3) ?hd (cs := #[.int .i64 a1_0, .int .i64 a1_1]) (t := 43) ?hr ?_; (case hd => rfl); (case hg => rfl); (case hr => exact qa15); intro gb102 hg w6 hbox hb; have hx_ := qHX HB hb qa2; have n0_ := qO (qB BK101.out hx_ hb); have n1_ := qO (below_step (below_step HB.out hx_) hb); have n2_ := qO (hbox); have n3_ := qO ((qa17 : w.heap.size ≤ gb102)); have n4_ := n3_; have n5_ := qO ((qa75 : gb101 ≠ gb102)); have n6_ := qO (Ne.symm n5_.out); clear BK101; clear HB; have BK101 := n0_; have HB := n1_; have BK102 := n2_; have GW102 := n3_; have GE102 := n4_; have NB101_102 := n5_; have NB102_101 := n6_; clear n0_ n1_ n2_ n3_ n4_ n5_ n6_; clear hx_; clear hb hbox hg; have hnb7 := NB101_102.out; have hnc7 := NB102_101.out; have hcz8_0 : w6.cell? ⟨gb101, 0, none⟩ = some (.int .i64 a0_0) := (blk_cell BK101.out 0).trans rfl; have hcz8_1 : w6.cell? ⟨gb101, 1, none⟩ = some (.int .i64 a0_1) := (blk_cell BK101.out 1).trans rfl; have hfz8_0 := blk_frozen BK101.out 0; have hfz8_1 := blk_frozen BK101.out 1; have hcz9_0 : w6.cell? ⟨gb102, 0, none⟩ = some (.int .i64 a1_0) := (blk_cell BK102.out 0).trans rfl; have hcz9_1 : w6.cell? ⟨gb102, 1, none⟩ = some (.int .i64 a1_1) := (blk_cell BK102.out 1).trans rfl; have hfz9_0 := blk_frozen BK102.out 0; have hfz9_1 := blk_frozen BK102.out 1))
   go_ret
   exact ⟨qa4, qa5⟩
  ·rw [if_neg c4] at H
   have c4b0 : (a0_1 == a1_1) = false := beq_eq_false_iff_ne.mpr c4; have c4b1 : (a0_1 != a1_1) = true := bne_iff_ne.mpr c4; obtain rfl := Option.some.inj H
   go_enter Try.func128, Try.ntmps128
   go_wp2_with (first | ((with_reducible refine gate_dst (N := 2) rfl ?_); refine box_event ?hg (N := 2) ?hd (cs := #[.int .i64 a0_0, .int .i64 a0_1]) (t := 43) ?hr ?_; (case hd => rfl); (case hg => rfl); (case hr => exact qa15); intro gb101 hg w10 hbox hb; have hx_ := qHX HB hb qa2; have n0_ := qO (below_step (below_step HB.out hx_) hb); have n1_ := qO (hbox); have n2_ := qO ((qa17 : w.heap.size ≤ gb101)); have n3_ := n2_; clear HB; have HB := n0_; have BK101 := n1_; have GW101 := n2_; have GE101 := n3_; clear n0_ n1_ n2_ n3_; clear hx_; clear hb hbox hg) | ((with_reducible refine gate_dst (N := 3) rfl ?_); refine box_event ?hg (N := 3) ?hd (cs := #[.int .i64 a1_0, .int .i64 a1_1]) (t := 43) ?hr ?_; (case hd => rfl); (case hg => rfl); (case hr => exact qa15); intro gb102 hg w11 hbox hb; have hx_ := qHX HB hb qa2; have n0_ := qO (qB BK101.out hx_ hb); have n1_ := qO (below_step (below_step HB.out hx_) hb); have n2_ := qO (hbox); have n3_ := qO ((qa17 : w.heap.size ≤ gb102)); have n4_ := n3_; have n5_ := qO ((qa75 : gb101 ≠ gb102)); have n6_ := qO (Ne.symm n5_.out); clear BK101; clear HB; have BK101 := n0_; have HB := n1_; have BK102 := n2_; have GW102 := n3_; have GE102 := n4_; have NB101_102 := n5_; have NB102_101 := n6_; clear n0_ n1_ n2_ n3_ n4_ n5_ n6_; clear hx_; clear hb hbox hg; have hnb12 := NB101_102.out; have hnc12 := NB102_101.out; have hcz13_0 : w11.cell? ⟨gb101, 0, none⟩ = some (.int .i64 a0_0) := (blk_cell BK101.out 0).trans rfl; have hcz13_1 : w11.cell? ⟨gb101, 1, none⟩ = some (.int .i64 a0_1) := (blk_cell BK101.out 1).trans rfl; have hfz13_0 := blk_frozen BK101.out 0; have hfz13_1 := blk_frozen BK101.out 1; have hcz14_0 : w11.cell? ⟨gb102, 0, none⟩ = some (.int .i64 a1_0) := (blk_cell BK102.out 0).trans rfl; have hcz14_1 : w11.cell? ⟨gb102, 1, none⟩ = some (.int .i64 a1_1) := (blk_cell BK102.out 1).trans rfl; have hfz14_0 := blk_frozen BK102.out 0; have hfz14_1 := blk_frozen BK102.out 1))
   go_ret
   exact ⟨qa4, qa5⟩
 ·rw [if_neg c3] at H
  have c3b0 : (a0_0 == a1_0) = false := beq_eq_false_iff_ne.mpr c3; have c3b1 : (a0_0 != a1_0) = true := bne_iff_ne.mpr c3; obtain rfl := Option.some.inj H
  go_enter Try.func128, Try.ntmps128
  go_wp2_with (first | ((with_reducible refine gate_dst (N := 2) rfl ?_); refine box_event ?hg (N := 2) ?hd (cs := #[.int .i64 a0_0, .int .i64 a0_1]) (t := 43) ?hr ?_; (case hd => rfl); (case hg => rfl); (case hr => exact qa15); intro gb101 hg w15 hbox hb; have hx_ := qHX HB hb qa2; have n0_ := qO (below_step (below_step HB.out hx_) hb); have n1_ := qO (hbox); have n2_ := qO ((qa17 : w.heap.size ≤ gb101)); have n3_ := n2_; clear HB; have HB := n0_; have BK101 := n1_; have GW101 := n2_; have GE101 := n3_; clear n0_ n1_ n2_ n3_; clear hx_; clear hb hbox hg) | ((with_reducible refine gate_dst (N := 3) rfl ?_); refine box_event ?hg (N := 3) ?hd (cs := #[.int .i64 a1_0, .int .i64 a1_1]) (t := 43) ?hr ?_; (case hd => rfl); (case hg => rfl); (case hr => exact qa15); intro gb102 hg w16 hbox hb; have hx_ := qHX HB hb qa2; have n0_ := qO (qB BK101.out hx_ hb); have n1_ := qO (below_step (below_step HB.out hx_) hb); have n2_ := qO (hbox); have n3_ := qO ((qa17 : w.heap.size ≤ gb102)); have n4_ := n3_; have n5_ := qO ((qa75 : gb101 ≠ gb102)); have n6_ := qO (Ne.symm n5_.out); clear BK101; clear HB; have BK101 := n0_; have HB := n1_; have BK102 := n2_; have GW102 := n3_; have GE102 := n4_; have NB101_102 := n5_; have NB102_101 := n6_; clear n0_ n1_ n2_ n3_ n4_ n5_ n6_; clear hx_; clear hb hbox hg; have hnb17 := NB101_102.out; have hnc17 := NB102_101.out; have hcz18_0 : w16.cell? ⟨gb101, 0, none⟩ = some (.int .i64 a0_0) := (blk_cell BK101.out 0).trans rfl; have hcz18_1 : w16.cell? ⟨gb101, 1, none⟩ = some (.int .i64 a0_1) := (blk_cell BK101.out 1).trans rfl; have hfz18_0 := blk_frozen BK101.out 0; have hfz18_1 := blk_frozen BK101.out 1; have hcz19_0 : w16.cell? ⟨gb102, 0, none⟩ = some (.int .i64 a1_0) := (blk_cell BK102.out 0).trans rfl; have hcz19_1 : w16.cell? ⟨gb102, 1, none⟩ = some (.int .i64 a1_1) := (blk_cell BK102.out 1).trans rfl; have hfz19_0 := blk_frozen BK102.out 0; have hfz19_1 := blk_frozen BK102.out 1))
  go_ret
  exact ⟨qa4, qa5⟩


def laws_eqVersionS.l0 : Nat → List (S43) → List (S43) → Int → Option (Bool)
 | 0, _, _, _ => none
 | k + 1, x0, x1, x5 => if x5 < (x0.length : Int) then (if 0 ≤ x5 then (if x5 < (x1.length : Int) then ((laws_eqVersion.f ((rd_T43 x0 x5).f0) ((rd_T43 x0 x5).f1) ((rd_T43 x1 x5).f0) ((rd_T43 x1 x5).f1)).bind fun t103 => (if t103 = true then (laws_eqVersionS.l0 k x0 x1 (wrap64 (x5 + 1))) else (some false))) else (none)) else (none)) else (some true)
def laws_eqVersionS.f (k : Nat) (l0 : List (S43)) (l1 : List (S43)) : Option (Bool) := if (l0.length : Int) = (l1.length : Int) then (laws_eqVersionS.l0 k l0 l1 0) else (some false)
def laws_eqVersionS.T6 : Bool × List (List Nat × List Nat) := (true, [([], []), ([], []), ([0, 1], [0, 1]), ([2], [2]), ([], []), ([], []), ([4, 5], [4, 5]), ([6], [6]), ([3, 7], [3, 7]), ([8], [8])])
def laws_eqVersionS.B6 : List Nat := [0, 0, 3, 7, 0, 0, 48, 112, 255, 511]
theorem laws_eqVersionS.tab6 : rtab .any (opsOf Try.f104 6) = laws_eqVersionS.T6 := by kernel_rfl
theorem laws_eqVersionS.bits6 : waitsOk laws_eqVersionS.T6.2 laws_eqVersionS.B6 = true := by kernel_rfl
def laws_eqVersionS.y0 : Array Bool := #[false, false, false, false, false, false, false, false, false, false]
def laws_eqVersionS.y1 : Array Bool := #[true, false, false, false, false, false, false, false, false, false]
def laws_eqVersionS.y2 : Array Bool := #[true, true, false, false, false, false, false, false, false, false]
def laws_eqVersionS.y3 : Array Bool := #[true, true, true, false, false, false, false, false, false, false]
def laws_eqVersionS.y4 : Array Bool := #[true, true, true, false, true, false, false, false, false, false]
def laws_eqVersionS.y5 : Array Bool := #[true, true, true, false, true, true, false, false, false, false]
def laws_eqVersionS.y6 : Array Bool := #[true, true, true, false, true, true, true, false, false, false]
def laws_eqVersionS.y7 : Array Bool := #[true, true, true, true, true, true, true, false, false, false]
def laws_eqVersionS.y8 : Array Bool := #[true, true, true, true, true, true, true, true, false, false]
def laws_eqVersionS.y9 : Array Bool := #[true, true, true, true, true, true, true, true, true, false]
def laws_eqVersionS.y10 : Array Bool := #[true, true, true, true, true, true, true, true, true, true]
set_option maxHeartbeats 8000000 in
set_option maxRecDepth 100000 in
theorem laws_eqVersionS.calls (k : Nat) (A0 : Option Addr) (c0 : Nat) (l0 : List (S43)) (A1 : Option Addr) (c1 : Nat) (l1 : List (S43)) (r : Bool) (w : World) (hr0 : Kd.C k43 w A0 l0.length l0) (hc0 : l0.length ≤ c0) (hr1 : Kd.C k43 w A1 l1.length l1) (hc1 : l1.length ≤ c1) (h : laws_eqVersionS.f k l0 l1 = some r) :
  Calls Try.prog 104 #[.slice A0 l0.length c0, .slice A1 l1.length c1] w fun e w' => e = .returned (.bool r) ∧ Below w.heap.size w w' := by
 have hu43 := Try.underlying43; have HR0 := qO hr0; have HC0 := qO hc0; clear hr0 hc0; have HR1 := qO hr1; have HC1 := qO hc1; clear hr1 hc1; have HB := qO (Below.refl w.heap.size w); have H : (if (l0.length : Int) = (l1.length : Int) then (laws_eqVersionS.l0 k l0 l1 0) else (some false)) = some r := h; clear h
 by_cases c3 : (l0.length : Int) = (l1.length : Int)
 ·rw [if_pos c3] at H
  have c3b0 : ((l0.length : Int) == (l1.length : Int)) = true := beq_iff_eq.mpr c3; have c3b1 : ((l0.length : Int) != (l1.length : Int)) = false := bne_eq_false_iff_eq.mpr c3; have c3b2 : (l0.length == l1.length) = true := by first | simpa using c3 | (simp at c3 ⊢; omega)
  clear c3; have H' := qO H; clear H
  go_enter Try.func104, Try.ntmps104
  go_wp2
  go_loopg [5] k (fun kq v5 w' => ∃ (x5_1 : Int), v5 = .int .i64 x5_1 ∧ Aside0 (laws_eqVersionS.l0 kq l0 l1 x5_1 = some r) ∧ Aside0 (kq ≤ k) ∧ Aside0 (Below w.heap.size w w'))
  case atStart => exact ⟨(0), qa9, H', ⟨Nat.le_refl _⟩, ⟨qa12⟩⟩
  case round =>
   clear H'
   try clear c1
   try clear p2
   try clear c3
   try clear c3b0
   try clear c3b1
   try clear c3b2
   obtain ⟨x5_1, rfl, HA, HK1, HB⟩ := hrel
   cases gk with
   | zero => exact absurd HA.out (by simp [laws_eqVersionS.l0])
   | succ k1 =>
    have H := HA.out; clear HA; simp only [laws_eqVersionS.l0] at H
    by_cases c4 : x5_1 < (l0.length : Int)
    ·rw [if_pos c4] at H
     have c4b0 : decide (x5_1 < (l0.length : Int)) = true := decide_eq_true c4; clear c4
     by_cases c5 : 0 ≤ x5_1
     ·rw [if_pos c5] at H
      have c5b0 : decide (0 ≤ x5_1) = true := decide_eq_true c5; clear c5
      by_cases c6 : x5_1 < (l1.length : Int)
      ·rw [if_pos c6] at H
       have c6b0 : decide (x5_1 < (l1.length : Int)) = true := decide_eq_true c6; clear c6; replace H := Option.bind_eq_some_iff.mp H; obtain ⟨t103, A70, H⟩ := H; replace H : (if t103 = true then (laws_eqVersionS.l0 k1 l0 l1 (wrap64 (x5_1 + 1))) else (some false)) = some r := H; have A7 := qO A70; clear A70
       by_cases c8 : t103 = true
       ·subst c8
        have H1 : (laws_eqVersionS.l0 k1 l0 l1 (wrap64 (x5_1 + 1))) = some r := by rw [if_pos rfl] at H; exact H
        clear H; have H := H1; clear H1; have H' := qO H; clear H
        try go_wp2
        have n0_ := qO (qbD HB.out); clear HB; have HB := n0_; clear n0_; have p101 : 0 ≤ (x5_1 : Int) := qT qa0; have q101 : x5_1 < (l0.length : Int) := qT qa0; obtain ⟨ad101, e101, hx101_0, hx101_1⟩ := at_T43 HR0.out x5_1 p101 q101; have hw101_1 := hx101_1; have hw101_0 := hx101_0
        cases e101
        replace hx101_0 := (HB.out.cell (qL w _ hx101_0)).trans hx101_0; replace hx101_1 := (HB.out.cell (qL w _ hx101_1)).trans hx101_1; replace p101 := eq_true p101; replace q101 := eq_true q101; have p102 : 0 ≤ (x5_1 : Int) := qT qa0; have q102 : x5_1 < (l1.length : Int) := qT qa0; obtain ⟨ad102, e102, hx102_0, hx102_1⟩ := at_T43 HR1.out x5_1 p102 q102; have hw102_1 := hx102_1; have hw102_0 := hx102_0
        cases e102
        replace hx102_0 := (HB.out.cell (qL w _ hx102_0)).trans hx102_0; replace hx102_1 := (HB.out.cell (qL w _ hx102_1)).trans hx102_1; replace p102 := eq_true p102; replace q102 := eq_true q102; refine start_ (n := 10) (S := fun w' => w'.cell? (ad101.add ((x5_1).toNat * 2)) = some (.int .i64 ((rd_T43 l0 x5_1).f0)) ∧ w'.cell? ⟨(ad101.add ((x5_1).toNat * 2)).block, (ad101.add ((x5_1).toNat * 2)).off + 1, none⟩ = some (.int .i64 ((rd_T43 l0 x5_1).f1)) ∧ w'.cell? (ad102.add ((x5_1).toNat * 2)) = some (.int .i64 ((rd_T43 l1 x5_1).f0)) ∧ w'.cell? ⟨(ad102.add ((x5_1).toNat * 2)).block, (ad102.add ((x5_1).toNat * 2)).off + 1, none⟩ = some (.int .i64 ((rd_T43 l1 x5_1).f1))) (ds := []) laws_eqVersionS.y0 qa8 rfl rfl ⟨((HB.out.cell (qL w _ hw101_0)).trans hw101_0), ((HB.out.cell (qL w _ hw101_1)).trans hw101_1), ((HB.out.cell (qL w _ hw102_0)).trans hw102_0), ((HB.out.cell (qL w _ hw102_1)).trans hw102_1)⟩ (fun hHeld => ?_); refine with_tabW laws_eqVersionS.tab6 laws_eqVersionS.bits6 (fun HT_ HW_ => ?_); generalize wr.drew = w9 at HB hx101_0 hx101_1 hx102_0 hx102_1 hHeld ⊢; refine pure_ (i := 0) (N := some 17) (v := ?_) (a' := ?_) laws_eqVersionS.y1 rfl rfl (any_of HT_.out qa8) (fun _ _ _ h => h) (Or.inl ⟨by rfl, ?_⟩) ?_ ?_; rotate_left; exact qa10; rotate_left; exact qa3; refine pure_ (i := 1) (N := some 18) (v := ?_) (a' := ?_) laws_eqVersionS.y2 rfl rfl (any_of HT_.out qa8) (fun _ _ _ h => h) (Or.inl ⟨by rfl, ?_⟩) ?_ ?_; rotate_left; exact qa10; rotate_left; exact qa3; refine pure_ (i := 2) (N := some 19) (v := ?_) (a' := ?_) laws_eqVersionS.y3 rfl rfl (any_of HT_.out qa8) (fun _ _ _ h => h) (Or.inl ⟨by rfl, ?_⟩) ?_ ?_; rotate_left; exact qa10; rotate_left; exact qa3; refine pure_ (i := 4) (N := some 21) (v := ?_) (a' := ?_) laws_eqVersionS.y4 rfl rfl (any_of HT_.out qa8) (fun _ _ _ h => h) (Or.inl ⟨by rfl, ?_⟩) ?_ ?_; rotate_left; exact qa10; rotate_left; exact qa3; refine pure_ (i := 5) (N := some 22) (v := ?_) (a' := ?_) laws_eqVersionS.y5 rfl rfl (any_of HT_.out qa8) (fun _ _ _ h => h) (Or.inl ⟨by rfl, ?_⟩) ?_ ?_; rotate_left; exact qa10; rotate_left; exact qa3; refine pure_ (i := 6) (N := some 23) (v := ?_) (a' := ?_) laws_eqVersionS.y6 rfl rfl (any_of HT_.out qa8) (fun _ _ _ h => h) (Or.inl ⟨by rfl, ?_⟩) ?_ ?_; rotate_left; exact qa10; rotate_left; exact qa3; refine take_ (i := 3) (N := some 20) (v := ?_) (a' := ?_) laws_eqVersionS.y7 rfl rfl (take_ofW HT_.out HW_.out qa8) (fun _ _ _ h => h) (Or.inl ⟨by rfl, ?_⟩) hHeld ?_ ?_; rotate_left; exact qa59; rotate_left; exact qa3; refine take_ (i := 7) (N := some 24) (v := ?_) (a' := ?_) laws_eqVersionS.y8 rfl rfl (take_ofW HT_.out HW_.out qa8) (fun _ _ _ h => h) (Or.inl ⟨by rfl, ?_⟩) hHeld ?_ ?_; rotate_left; exact qa59; rotate_left; exact qa3; refine one_ (i := 8) (N := some 25) laws_eqVersionS.y9 rfl rfl (one_of HT_.out qa8) qa82 (fun K hK => ?_); refine goes_ Try.func128 qa8 rfl #[.agg #[.int .i64 ((rd_T43 l0 x5_1).f0), .int .i64 ((rd_T43 l0 x5_1).f1)], .agg #[.int .i64 ((rd_T43 l1 x5_1).f0), .int .i64 ((rd_T43 l1 x5_1).f1)]] (by rfl) rfl rfl qa1 ?_; (with_reducible refine (laws_eqVersion.calls ((rd_T43 l0 x5_1).f0) ((rd_T43 l0 x5_1).f1) ((rd_T43 l1 x5_1).f0) ((rd_T43 l1 x5_1).f1) true _ A7.out).mono ?_); rintro e w10 ⟨rfl, hb⟩; have hx_ := qHX HB hb qa2; refine ⟨_, rfl, ?_⟩; have n0_ := qO (below_step (below_step HB.out hx_) hb); clear HB; have HB := n0_; clear n0_; clear hx_; (try clear hb); (try clear hb2); (try clear hk); (try clear hi); refine hK.out _ _ ⟨((HB.out.cell (qL w _ hw101_0)).trans hw101_0), ((HB.out.cell (qL w _ hw101_1)).trans hw101_1), ((HB.out.cell (qL w _ hw102_0)).trans hw102_0), ((HB.out.cell (qL w _ hw102_1)).trans hw102_1)⟩ (fun hHeld => ?_); clear hK K; refine norm_ (a' := ?_) ?_ ?_; rotate_left
        ·exact qa13
        refine pure_ (i := 9) (N := some 26) (v := ?_) (a' := ?_) laws_eqVersionS.y10 rfl rfl (any_of HT_.out qa8) (fun _ _ _ h => h) (Or.inl ⟨by rfl, ?_⟩) ?_ ?_; rotate_left; exact qa10; rotate_left; exact qa3; refine done_ (done_of HT_.out qa8) ?_
        try go_wp2
        go_roundg k1
        case measure => have := HK1.out; omega
        case rel => exact ⟨(wrap64 (x5_1 + 1)), qa9, H', ⟨qa89⟩, ⟨qa12⟩⟩
       ·replace c8 := Bool.eq_false_iff.mpr c8
        subst c8; have H1 : (some false) = some r := by rw [if_neg (show ¬ (false = true) by decide)] at H; exact H
        clear H; have H := H1; clear H1; obtain rfl := Option.some.inj H
        try go_wp2
        have n0_ := qO (qbD HB.out); clear HB; have HB := n0_; clear n0_; have p101 : 0 ≤ (x5_1 : Int) := qT qa0; have q101 : x5_1 < (l0.length : Int) := qT qa0; obtain ⟨ad101, e101, hx101_0, hx101_1⟩ := at_T43 HR0.out x5_1 p101 q101; have hw101_1 := hx101_1; have hw101_0 := hx101_0
        cases e101
        replace hx101_0 := (HB.out.cell (qL w _ hx101_0)).trans hx101_0; replace hx101_1 := (HB.out.cell (qL w _ hx101_1)).trans hx101_1; replace p101 := eq_true p101; replace q101 := eq_true q101; have p102 : 0 ≤ (x5_1 : Int) := qT qa0; have q102 : x5_1 < (l1.length : Int) := qT qa0; obtain ⟨ad102, e102, hx102_0, hx102_1⟩ := at_T43 HR1.out x5_1 p102 q102; have hw102_1 := hx102_1; have hw102_0 := hx102_0
        cases e102
        replace hx102_0 := (HB.out.cell (qL w _ hx102_0)).trans hx102_0; replace hx102_1 := (HB.out.cell (qL w _ hx102_1)).trans hx102_1; replace p102 := eq_true p102; replace q102 := eq_true q102; refine start_ (n := 10) (S := fun w' => w'.cell? (ad101.add ((x5_1).toNat * 2)) = some (.int .i64 ((rd_T43 l0 x5_1).f0)) ∧ w'.cell? ⟨(ad101.add ((x5_1).toNat * 2)).block, (ad101.add ((x5_1).toNat * 2)).off + 1, none⟩ = some (.int .i64 ((rd_T43 l0 x5_1).f1)) ∧ w'.cell? (ad102.add ((x5_1).toNat * 2)) = some (.int .i64 ((rd_T43 l1 x5_1).f0)) ∧ w'.cell? ⟨(ad102.add ((x5_1).toNat * 2)).block, (ad102.add ((x5_1).toNat * 2)).off + 1, none⟩ = some (.int .i64 ((rd_T43 l1 x5_1).f1))) (ds := []) laws_eqVersionS.y0 qa8 rfl rfl ⟨((HB.out.cell (qL w _ hw101_0)).trans hw101_0), ((HB.out.cell (qL w _ hw101_1)).trans hw101_1), ((HB.out.cell (qL w _ hw102_0)).trans hw102_0), ((HB.out.cell (qL w _ hw102_1)).trans hw102_1)⟩ (fun hHeld => ?_); refine with_tabW laws_eqVersionS.tab6 laws_eqVersionS.bits6 (fun HT_ HW_ => ?_); generalize wr.drew = w11 at HB hx101_0 hx101_1 hx102_0 hx102_1 hHeld ⊢; refine pure_ (i := 0) (N := some 17) (v := ?_) (a' := ?_) laws_eqVersionS.y1 rfl rfl (any_of HT_.out qa8) (fun _ _ _ h => h) (Or.inl ⟨by rfl, ?_⟩) ?_ ?_; rotate_left; exact qa10; rotate_left; exact qa3; refine pure_ (i := 1) (N := some 18) (v := ?_) (a' := ?_) laws_eqVersionS.y2 rfl rfl (any_of HT_.out qa8) (fun _ _ _ h => h) (Or.inl ⟨by rfl, ?_⟩) ?_ ?_; rotate_left; exact qa10; rotate_left; exact qa3; refine pure_ (i := 2) (N := some 19) (v := ?_) (a' := ?_) laws_eqVersionS.y3 rfl rfl (any_of HT_.out qa8) (fun _ _ _ h => h) (Or.inl ⟨by rfl, ?_⟩) ?_ ?_; rotate_left; exact qa10; rotate_left; exact qa3; refine pure_ (i := 4) (N := some 21) (v := ?_) (a' := ?_) laws_eqVersionS.y4 rfl rfl (any_of HT_.out qa8) (fun _ _ _ h => h) (Or.inl ⟨by rfl, ?_⟩) ?_ ?_; rotate_left; exact qa10; rotate_left; exact qa3; refine pure_ (i := 5) (N := some 22) (v := ?_) (a' := ?_) laws_eqVersionS.y5 rfl rfl (any_of HT_.out qa8) (fun _ _ _ h => h) (Or.inl ⟨by rfl, ?_⟩) ?_ ?_; rotate_left; exact qa10; rotate_left; exact qa3; refine pure_ (i := 6) (N := some 23) (v := ?_) (a' := ?_) laws_eqVersionS.y6 rfl rfl (any_of HT_.out qa8) (fun _ _ _ h => h) (Or.inl ⟨by rfl, ?_⟩) ?_ ?_; rotate_left; exact qa10; rotate_left; exact qa3; refine take_ (i := 3) (N := some 20) (v := ?_) (a' := ?_) laws_eqVersionS.y7 rfl rfl (take_ofW HT_.out HW_.out qa8) (fun _ _ _ h => h) (Or.inl ⟨by rfl, ?_⟩) hHeld ?_ ?_; rotate_left; exact qa59; rotate_left; exact qa3; refine take_ (i := 7) (N := some 24) (v := ?_) (a' := ?_) laws_eqVersionS.y8 rfl rfl (take_ofW HT_.out HW_.out qa8) (fun _ _ _ h => h) (Or.inl ⟨by rfl, ?_⟩) hHeld ?_ ?_; rotate_left; exact qa59; rotate_left; exact qa3; refine one_ (i := 8) (N := some 25) laws_eqVersionS.y9 rfl rfl (one_of HT_.out qa8) qa82 (fun K hK => ?_); refine goes_ Try.func128 qa8 rfl #[.agg #[.int .i64 ((rd_T43 l0 x5_1).f0), .int .i64 ((rd_T43 l0 x5_1).f1)], .agg #[.int .i64 ((rd_T43 l1 x5_1).f0), .int .i64 ((rd_T43 l1 x5_1).f1)]] (by rfl) rfl rfl qa1 ?_; (with_reducible refine (laws_eqVersion.calls ((rd_T43 l0 x5_1).f0) ((rd_T43 l0 x5_1).f1) ((rd_T43 l1 x5_1).f0) ((rd_T43 l1 x5_1).f1) false _ A7.out).mono ?_); rintro e w12 ⟨rfl, hb⟩; have hx_ := qHX HB hb qa2; refine ⟨_, rfl, ?_⟩; have n0_ := qO (below_step (below_step HB.out hx_) hb); clear HB; have HB := n0_; clear n0_; clear hx_; (try clear hb); (try clear hb2); (try clear hk); (try clear hi); refine hK.out _ _ ⟨((HB.out.cell (qL w _ hw101_0)).trans hw101_0), ((HB.out.cell (qL w _ hw101_1)).trans hw101_1), ((HB.out.cell (qL w _ hw102_0)).trans hw102_0), ((HB.out.cell (qL w _ hw102_1)).trans hw102_1)⟩ (fun hHeld => ?_); clear hK K; refine norm_ (a' := ?_) ?_ ?_; rotate_left
        ·exact qa13
        refine pure_ (i := 9) (N := some 26) (v := ?_) (a' := ?_) laws_eqVersionS.y10 rfl rfl (any_of HT_.out qa8) (fun _ _ _ h => h) (Or.inl ⟨by rfl, ?_⟩) ?_ ?_; rotate_left; exact qa10; rotate_left; exact qa3; refine done_ (done_of HT_.out qa8) ?_
        try go_wp2
        go_ret
        exact ⟨qa4, qa12⟩
      ·rw [if_neg c6] at H
       exact absurd H qa109
     ·rw [if_neg c5] at H
      exact absurd H qa109
    ·rw [if_neg c4] at H
     have c4b0 : decide (x5_1 < (l0.length : Int)) = false := decide_eq_false c4; clear c4; obtain rfl := Option.some.inj H; go_wp2
     go_ret
     exact ⟨qa4, qa12⟩
 ·rw [if_neg c3] at H
  have c3b0 : ((l0.length : Int) == (l1.length : Int)) = false := beq_eq_false_iff_ne.mpr c3; have c3b1 : ((l0.length : Int) != (l1.length : Int)) = true := bne_iff_ne.mpr c3; have c3b2 : (l0.length == l1.length) = false := by first | simpa using c3 | (simp at c3 ⊢; omega)
  obtain rfl := Option.some.inj H
  go_enter Try.func104, Try.ntmps104
  go_wp2
  go_ret
  exact ⟨qa4, qa12⟩


def laws_eqVersionSS.l0 : Nat → List (List (S43)) → List (List (S43)) → Int → Option (Bool)
 | 0, _, _, _ => none
 | k + 1, x0, x1, x5 => if x5 < (x0.length : Int) then (if 0 ≤ x5 then (if x5 < (x1.length : Int) then ((laws_eqVersionS.f k (rd_L4 x0 x5) (rd_L4 x1 x5)).bind fun t103 => (if t103 = true then (laws_eqVersionSS.l0 k x0 x1 (wrap64 (x5 + 1))) else (some false))) else (none)) else (none)) else (some true)
def laws_eqVersionSS.f (k : Nat) (l0 : List (List (S43))) (l1 : List (List (S43))) : Option (Bool) := if (l0.length : Int) = (l1.length : Int) then (laws_eqVersionSS.l0 k l0 l1 0) else (some false)
def laws_eqVersionSS.T6 : Bool × List (List Nat × List Nat) := (true, [([], []), ([], []), ([0, 1], [0, 1]), ([2], [2]), ([], []), ([], []), ([4, 5], [4, 5]), ([6], [6]), ([3, 7], [3, 7]), ([8], [8])])
def laws_eqVersionSS.B6 : List Nat := [0, 0, 3, 7, 0, 0, 48, 112, 255, 511]
theorem laws_eqVersionSS.tab6 : rtab .any (opsOf Try.f59 6) = laws_eqVersionSS.T6 := by kernel_rfl
theorem laws_eqVersionSS.bits6 : waitsOk laws_eqVersionSS.T6.2 laws_eqVersionSS.B6 = true := by kernel_rfl
def laws_eqVersionSS.y0 : Array Bool := #[false, false, false, false, false, false, false, false, false, false]
def laws_eqVersionSS.y1 : Array Bool := #[true, false, false, false, false, false, false, false, false, false]
def laws_eqVersionSS.y2 : Array Bool := #[true, true, false, false, false, false, false, false, false, false]
def laws_eqVersionSS.y3 : Array Bool := #[true, true, true, false, false, false, false, false, false, false]
def laws_eqVersionSS.y4 : Array Bool := #[true, true, true, false, true, false, false, false, false, false]
def laws_eqVersionSS.y5 : Array Bool := #[true, true, true, false, true, true, false, false, false, false]
def laws_eqVersionSS.y6 : Array Bool := #[true, true, true, false, true, true, true, false, false, false]
def laws_eqVersionSS.y7 : Array Bool := #[true, true, true, true, true, true, true, false, false, false]
def laws_eqVersionSS.y8 : Array Bool := #[true, true, true, true, true, true, true, true, false, false]
def laws_eqVersionSS.y9 : Array Bool := #[true, true, true, true, true, true, true, true, true, false]
def laws_eqVersionSS.y10 : Array Bool := #[true, true, true, true, true, true, true, true, true, true]
set_option maxHeartbeats 8000000 in
set_option maxRecDepth 100000 in
theorem laws_eqVersionSS.calls (k : Nat) (A0 : Option Addr) (c0 : Nat) (l0 : List (List (S43))) (A1 : Option Addr) (c1 : Nat) (l1 : List (List (S43))) (r : Bool) (w : World) (hr0 : Kd.C (Kd.slice 43 k43) w A0 l0.length l0) (hc0 : l0.length ≤ c0) (hr1 : Kd.C (Kd.slice 43 k43) w A1 l1.length l1) (hc1 : l1.length ≤ c1) (h : laws_eqVersionSS.f k l0 l1 = some r) :
  Calls Try.prog 59 #[.slice A0 l0.length c0, .slice A1 l1.length c1] w fun e w' => e = .returned (.bool r) ∧ Below w.heap.size w w' := by
 have HR0 := qO hr0; have HC0 := qO hc0; clear hr0 hc0; have HR1 := qO hr1; have HC1 := qO hc1; clear hr1 hc1; have HB := qO (Below.refl w.heap.size w); have H : (if (l0.length : Int) = (l1.length : Int) then (laws_eqVersionSS.l0 k l0 l1 0) else (some false)) = some r := h; clear h
 by_cases c3 : (l0.length : Int) = (l1.length : Int)
 ·rw [if_pos c3] at H
  have c3b0 : ((l0.length : Int) == (l1.length : Int)) = true := beq_iff_eq.mpr c3; have c3b1 : ((l0.length : Int) != (l1.length : Int)) = false := bne_eq_false_iff_eq.mpr c3; have c3b2 : (l0.length == l1.length) = true := by first | simpa using c3 | (simp at c3 ⊢; omega)
  clear c3; have H' := qO H; clear H
  go_enter Try.func59, Try.ntmps59
  go_wp2
  go_loopg [5] k (fun kq v5 w' => ∃ (x5_1 : Int), v5 = .int .i64 x5_1 ∧ Aside0 (laws_eqVersionSS.l0 kq l0 l1 x5_1 = some r) ∧ Aside0 (kq ≤ k) ∧ Aside0 (Below w.heap.size w w'))
  case atStart => exact ⟨(0), qa9, H', ⟨Nat.le_refl _⟩, ⟨qa12⟩⟩
  case round =>
   clear H'
   try clear c1
   try clear p2
   try clear c3
   try clear c3b0
   try clear c3b1
   try clear c3b2
   obtain ⟨x5_1, rfl, HA, HK1, HB⟩ := hrel
   cases gk with
   | zero => exact absurd HA.out (by simp [laws_eqVersionSS.l0])
   | succ k1 =>
    have H := HA.out; clear HA; simp only [laws_eqVersionSS.l0] at H
    by_cases c4 : x5_1 < (l0.length : Int)
    ·rw [if_pos c4] at H
     have c4b0 : decide (x5_1 < (l0.length : Int)) = true := decide_eq_true c4; clear c4
     by_cases c5 : 0 ≤ x5_1
     ·rw [if_pos c5] at H
      have c5b0 : decide (0 ≤ x5_1) = true := decide_eq_true c5; clear c5
      by_cases c6 : x5_1 < (l1.length : Int)
      ·rw [if_pos c6] at H
       have c6b0 : decide (x5_1 < (l1.length : Int)) = true := decide_eq_true c6; clear c6; replace H := Option.bind_eq_some_iff.mp H; obtain ⟨t103, A70, H⟩ := H; replace H : (if t103 = true then (laws_eqVersionSS.l0 k1 l0 l1 (wrap64 (x5_1 + 1))) else (some false)) = some r := H; have A7 := qO A70; clear A70
       by_cases c8 : t103 = true
       ·subst c8
        have H1 : (laws_eqVersionSS.l0 k1 l0 l1 (wrap64 (x5_1 + 1))) = some r := by rw [if_pos rfl] at H; exact H
        clear H; have H := H1; clear H1; have H' := qO H; clear H
        try go_wp2
        have n0_ := qO (qbD HB.out); clear HB; have HB := n0_; clear n0_; have p101 : 0 ≤ (x5_1 : Int) := qT qa0; have q101 : x5_1 < (l0.length : Int) := qT qa0; obtain ⟨ad101, A101_0, c101_0, e101, hx101_0, hl101_0, hi101_0⟩ := at_L4 HR0.out x5_1 p101 q101; have hw101_0 := hx101_0
        cases e101
        replace hx101_0 := (HB.out.cell (qL w _ hx101_0)).trans hx101_0; have HR101_0 := qO hi101_0; have HC101_0 := qO hl101_0; clear hi101_0 hl101_0; replace p101 := eq_true p101; replace q101 := eq_true q101; have p102 : 0 ≤ (x5_1 : Int) := qT qa0; have q102 : x5_1 < (l1.length : Int) := qT qa0; obtain ⟨ad102, A102_0, c102_0, e102, hx102_0, hl102_0, hi102_0⟩ := at_L4 HR1.out x5_1 p102 q102; have hw102_0 := hx102_0
        cases e102
        replace hx102_0 := (HB.out.cell (qL w _ hx102_0)).trans hx102_0; have HR102_0 := qO hi102_0; have HC102_0 := qO hl102_0; clear hi102_0 hl102_0; replace p102 := eq_true p102; replace q102 := eq_true q102; refine start_ (n := 10) (S := fun w' => w'.cell? (ad101.add (x5_1).toNat) = some (.slice A101_0 (rd_L4 l0 x5_1).length c101_0) ∧ w'.cell? (ad102.add (x5_1).toNat) = some (.slice A102_0 (rd_L4 l1 x5_1).length c102_0)) (ds := []) laws_eqVersionSS.y0 qa8 rfl rfl ⟨((HB.out.cell (qL w _ hw101_0)).trans hw101_0), ((HB.out.cell (qL w _ hw102_0)).trans hw102_0)⟩ (fun hHeld => ?_); refine with_tabW laws_eqVersionSS.tab6 laws_eqVersionSS.bits6 (fun HT_ HW_ => ?_); generalize wr.drew = w9 at HB HR101_0 HR102_0 hx101_0 hx102_0 hHeld ⊢; refine pure_ (i := 0) (N := some 17) (v := ?_) (a' := ?_) laws_eqVersionSS.y1 rfl rfl (any_of HT_.out qa8) (fun _ _ _ h => h) (Or.inl ⟨by rfl, ?_⟩) ?_ ?_; rotate_left; exact qa10; rotate_left; exact qa3; refine pure_ (i := 1) (N := some 18) (v := ?_) (a' := ?_) laws_eqVersionSS.y2 rfl rfl (any_of HT_.out qa8) (fun _ _ _ h => h) (Or.inl ⟨by rfl, ?_⟩) ?_ ?_; rotate_left; exact qa10; rotate_left; exact qa3; refine pure_ (i := 2) (N := some 19) (v := ?_) (a' := ?_) laws_eqVersionSS.y3 rfl rfl (any_of HT_.out qa8) (fun _ _ _ h => h) (Or.inl ⟨by rfl, ?_⟩) ?_ ?_; rotate_left; exact qa10; rotate_left; exact qa3; refine pure_ (i := 4) (N := some 21) (v := ?_) (a' := ?_) laws_eqVersionSS.y4 rfl rfl (any_of HT_.out qa8) (fun _ _ _ h => h) (Or.inl ⟨by rfl, ?_⟩) ?_ ?_; rotate_left; exact qa10; rotate_left; exact qa3; refine pure_ (i := 5) (N := some 22) (v := ?_) (a' := ?_) laws_eqVersionSS.y5 rfl rfl (any_of HT_.out qa8) (fun _ _ _ h => h) (Or.inl ⟨by rfl, ?_⟩) ?_ ?_; rotate_left; exact qa10; rotate_left; exact qa3; refine pure_ (i := 6) (N := some 23) (v := ?_) (a' := ?_) laws_eqVersionSS.y6 rfl rfl (any_of HT_.out qa8) (fun _ _ _ h => h) (Or.inl ⟨by rfl, ?_⟩) ?_ ?_; rotate_left; exact qa10; rotate_left; exact qa3; refine take_ (i := 3) (N := some 20) (v := ?_) (a' := ?_) laws_eqVersionSS.y7 rfl rfl (take_ofW HT_.out HW_.out qa8) (fun _ _ _ h => h) (Or.inl ⟨by rfl, ?_⟩) hHeld ?_ ?_; rotate_left; exact qa136; rotate_left; exact qa3; refine take_ (i := 7) (N := some 24) (v := ?_) (a' := ?_) laws_eqVersionSS.y8 rfl rfl (take_ofW HT_.out HW_.out qa8) (fun _ _ _ h => h) (Or.inl ⟨by rfl, ?_⟩) hHeld ?_ ?_; rotate_left; exact qa136; rotate_left; exact qa3; refine one_ (i := 8) (N := some 25) laws_eqVersionSS.y9 rfl rfl (one_of HT_.out qa8) qa82 (fun K hK => ?_); refine goes_ Try.func104 qa8 rfl #[.slice A101_0 (rd_L4 l0 x5_1).length c101_0, .slice A102_0 (rd_L4 l1 x5_1).length c102_0] (by rfl) rfl rfl qa1 ?_; (with_reducible refine (laws_eqVersionS.calls k1 _ _ (rd_L4 l0 x5_1) _ _ (rd_L4 l1 x5_1) true _ ?side1 ?side2 ?side3 ?side4 A7.out).mono ?_); (case side1 => exact qa118); (case side2 => exact HC101_0.out); (case side3 => exact qa119); (case side4 => exact HC102_0.out); rintro e w10 ⟨rfl, hb⟩; have hx_ := qHX HB hb qa2; refine ⟨_, rfl, ?_⟩; have n0_ := qO (below_step (below_step HB.out hx_) hb); clear HB; have HB := n0_; clear n0_; clear hx_; (try clear hb); (try clear hb2); (try clear hk); (try clear hi); refine hK.out _ _ ⟨((HB.out.cell (qL w _ hw101_0)).trans hw101_0), ((HB.out.cell (qL w _ hw102_0)).trans hw102_0)⟩ (fun hHeld => ?_); clear hK K; refine norm_ (a' := ?_) ?_ ?_; rotate_left
        ·exact qa13
        refine pure_ (i := 9) (N := some 26) (v := ?_) (a' := ?_) laws_eqVersionSS.y10 rfl rfl (any_of HT_.out qa8) (fun _ _ _ h => h) (Or.inl ⟨by rfl, ?_⟩) ?_ ?_; rotate_left; exact qa10; rotate_left; exact qa3; refine done_ (done_of HT_.out qa8) ?_
        try go_wp2
        go_roundg k1
        case measure => have := HK1.out; omega
        case rel => exact ⟨(wrap64 (x5_1 + 1)), qa9, H', ⟨qa89⟩, ⟨qa12⟩⟩
       ·replace c8 := Bool.eq_false_iff.mpr c8
        subst c8; have H1 : (some false) = some r := by rw [if_neg (show ¬ (false = true) by decide)] at H; exact H
        clear H; have H := H1; clear H1; obtain rfl := Option.some.inj H
        try go_wp2
        have n0_ := qO (qbD HB.out); clear HB; have HB := n0_; clear n0_; have p101 : 0 ≤ (x5_1 : Int) := qT qa0; have q101 : x5_1 < (l0.length : Int) := qT qa0; obtain ⟨ad101, A101_0, c101_0, e101, hx101_0, hl101_0, hi101_0⟩ := at_L4 HR0.out x5_1 p101 q101; have hw101_0 := hx101_0
        cases e101
        replace hx101_0 := (HB.out.cell (qL w _ hx101_0)).trans hx101_0; have HR101_0 := qO hi101_0; have HC101_0 := qO hl101_0; clear hi101_0 hl101_0; replace p101 := eq_true p101; replace q101 := eq_true q101; have p102 : 0 ≤ (x5_1 : Int) := qT qa0; have q102 : x5_1 < (l1.length : Int) := qT qa0; obtain ⟨ad102, A102_0, c102_0, e102, hx102_0, hl102_0, hi102_0⟩ := at_L4 HR1.out x5_1 p102 q102; have hw102_0 := hx102_0
        cases e102
        replace hx102_0 := (HB.out.cell (qL w _ hx102_0)).trans hx102_0; have HR102_0 := qO hi102_0; have HC102_0 := qO hl102_0; clear hi102_0 hl102_0; replace p102 := eq_true p102; replace q102 := eq_true q102; refine start_ (n := 10) (S := fun w' => w'.cell? (ad101.add (x5_1).toNat) = some (.slice A101_0 (rd_L4 l0 x5_1).length c101_0) ∧ w'.cell? (ad102.add (x5_1).toNat) = some (.slice A102_0 (rd_L4 l1 x5_1).length c102_0)) (ds := []) laws_eqVersionSS.y0 qa8 rfl rfl ⟨((HB.out.cell (qL w _ hw101_0)).trans hw101_0), ((HB.out.cell (qL w _ hw102_0)).trans hw102_0)⟩ (fun hHeld => ?_); refine with_tabW laws_eqVersionSS.tab6 laws_eqVersionSS.bits6 (fun HT_ HW_ => ?_); generalize wr.drew = w11 at HB HR101_0 HR102_0 hx101_0 hx102_0 hHeld ⊢; refine pure_ (i := 0) (N := some 17) (v := ?_) (a' := ?_) laws_eqVersionSS.y1 rfl rfl (any_of HT_.out qa8) (fun _ _ _ h => h) (Or.inl ⟨by rfl, ?_⟩) ?_ ?_; rotate_left; exact qa10; rotate_left; exact qa3; refine pure_ (i := 1) (N := some 18) (v := ?_) (a' := ?_) laws_eqVersionSS.y2 rfl rfl (any_of HT_.out qa8) (fun _ _ _ h => h) (Or.inl ⟨by rfl, ?_⟩) ?_ ?_; rotate_left; exact qa10; rotate_left; exact qa3; refine pure_ (i := 2) (N := some 19) (v := ?_) (a' := ?_) laws_eqVersionSS.y3 rfl rfl (any_of HT_.out qa8) (fun _ _ _ h => h) (Or.inl ⟨by rfl, ?_⟩) ?_ ?_; rotate_left; exact qa10; rotate_left; exact qa3; refine pure_ (i := 4) (N := some 21) (v := ?_) (a' := ?_) laws_eqVersionSS.y4 rfl rfl (any_of HT_.out qa8) (fun _ _ _ h => h) (Or.inl ⟨by rfl, ?_⟩) ?_ ?_; rotate_left; exact qa10; rotate_left; exact qa3; refine pure_ (i := 5) (N := some 22) (v := ?_) (a' := ?_) laws_eqVersionSS.y5 rfl rfl (any_of HT_.out qa8) (fun _ _ _ h => h) (Or.inl ⟨by rfl, ?_⟩) ?_ ?_; rotate_left; exact qa10; rotate_left; exact qa3; refine pure_ (i := 6) (N := some 23) (v := ?_) (a' := ?_) laws_eqVersionSS.y6 rfl rfl (any_of HT_.out qa8) (fun _ _ _ h => h) (Or.inl ⟨by rfl, ?_⟩) ?_ ?_; rotate_left; exact qa10; rotate_left; exact qa3; refine take_ (i := 3) (N := some 20) (v := ?_) (a' := ?_) laws_eqVersionSS.y7 rfl rfl (take_ofW HT_.out HW_.out qa8) (fun _ _ _ h => h) (Or.inl ⟨by rfl, ?_⟩) hHeld ?_ ?_; rotate_left; exact qa136; rotate_left; exact qa3; refine take_ (i := 7) (N := some 24) (v := ?_) (a' := ?_) laws_eqVersionSS.y8 rfl rfl (take_ofW HT_.out HW_.out qa8) (fun _ _ _ h => h) (Or.inl ⟨by rfl, ?_⟩) hHeld ?_ ?_; rotate_left; exact qa136; rotate_left; exact qa3; refine one_ (i := 8) (N := some 25) laws_eqVersionSS.y9 rfl rfl (one_of HT_.out qa8) qa82 (fun K hK => ?_); refine goes_ Try.func104 qa8 rfl #[.slice A101_0 (rd_L4 l0 x5_1).length c101_0, .slice A102_0 (rd_L4 l1 x5_1).length c102_0] (by rfl) rfl rfl qa1 ?_; (with_reducible refine (laws_eqVersionS.calls k1 _ _ (rd_L4 l0 x5_1) _ _ (rd_L4 l1 x5_1) false _ ?side1 ?side2 ?side3 ?side4 A7.out).mono ?_); (case side1 => exact qa118); (case side2 => exact HC101_0.out); (case side3 => exact qa119); (case side4 => exact HC102_0.out); rintro e w12 ⟨rfl, hb⟩; have hx_ := qHX HB hb qa2; refine ⟨_, rfl, ?_⟩; have n0_ := qO (below_step (below_step HB.out hx_) hb); clear HB; have HB := n0_; clear n0_; clear hx_; (try clear hb); (try clear hb2); (try clear hk); (try clear hi); refine hK.out _ _ ⟨((HB.out.cell (qL w _ hw101_0)).trans hw101_0), ((HB.out.cell (qL w _ hw102_0)).trans hw102_0)⟩ (fun hHeld => ?_); clear hK K; refine norm_ (a' := ?_) ?_ ?_; rotate_left
        ·exact qa13
        refine pure_ (i := 9) (N := some 26) (v := ?_) (a' := ?_) laws_eqVersionSS.y10 rfl rfl (any_of HT_.out qa8) (fun _ _ _ h => h) (Or.inl ⟨by rfl, ?_⟩) ?_ ?_; rotate_left; exact qa10; rotate_left; exact qa3; refine done_ (done_of HT_.out qa8) ?_
        try go_wp2
        go_ret
        exact ⟨qa4, qa12⟩
      ·rw [if_neg c6] at H
       exact absurd H qa109
     ·rw [if_neg c5] at H
      exact absurd H qa109
    ·rw [if_neg c4] at H
     have c4b0 : decide (x5_1 < (l0.length : Int)) = false := decide_eq_false c4; clear c4; obtain rfl := Option.some.inj H; go_wp2
     go_ret
     exact ⟨qa4, qa12⟩
 ·rw [if_neg c3] at H
  have c3b0 : ((l0.length : Int) == (l1.length : Int)) = false := beq_eq_false_iff_ne.mpr c3; have c3b1 : ((l0.length : Int) != (l1.length : Int)) = true := bne_iff_ne.mpr c3; have c3b2 : (l0.length == l1.length) = false := by first | simpa using c3 | (simp at c3 ⊢; omega)
  obtain rfl := Option.some.inj H
  go_enter Try.func59, Try.ntmps59
  go_wp2
  go_ret
  exact ⟨qa4, qa12⟩


def laws_eqStore.f (k : Nat) (l0_0 : List (List (S43))) (a0_1 : Int) (l1_0 : List (List (S43))) (a1_1 : Int) : Option (Bool) := (laws_eqVersionSS.f k l0_0 l1_0).bind fun t103 => (if t103 = true then (if a0_1 = a1_1 then (some true) else (some false)) else (some false))
set_option maxHeartbeats 8000000 in
set_option maxRecDepth 100000 in
theorem laws_eqStore.calls (k : Nat) (A0_0 : Option Addr) (c0_0 : Nat) (l0_0 : List (List (S43))) (a0_1 : Int) (A1_0 : Option Addr) (c1_0 : Nat) (l1_0 : List (List (S43))) (a1_1 : Int) (r : Bool) (w : World) (hr0_0 : Kd.C (Kd.slice 43 k43) w A0_0 l0_0.length l0_0) (hc0_0 : l0_0.length ≤ c0_0) (hr1_0 : Kd.C (Kd.slice 43 k43) w A1_0 l1_0.length l1_0) (hc1_0 : l1_0.length ≤ c1_0) (h : laws_eqStore.f k l0_0 a0_1 l1_0 a1_1 = some r) :
  Calls Try.prog 15 #[.agg #[.slice A0_0 l0_0.length c0_0, .int .i64 a0_1], .agg #[.slice A1_0 l1_0.length c1_0, .int .i64 a1_1]] w fun e w' => e = .returned (.bool r) ∧ Below w.heap.size w w' := by
 have hu28 := Try.underlying28; have HR0_0 := qO hr0_0; have HC0_0 := qO hc0_0; clear hr0_0 hc0_0; have HR1_0 := qO hr1_0; have HC1_0 := qO hc1_0; clear hr1_0 hc1_0; have HB := qO (Below.refl w.heap.size w); have H : ((laws_eqVersionSS.f k l0_0 l1_0).bind fun t103 => (if t103 = true then (if a0_1 = a1_1 then (some true) else (some false)) else (some false))) = some r := h; clear h; replace H := Option.bind_eq_some_iff.mp H; obtain ⟨t103, A30, H⟩ := H; replace H : (if t103 = true then (if a0_1 = a1_1 then (some true) else (some false)) else (some false)) = some r := H; have A3 := qO A30; clear A30
 by_cases c4 : t103 = true
 ·subst c4
  have H1 : (if a0_1 = a1_1 then (some true) else (some false)) = some r := by rw [if_pos rfl] at H; exact H
  clear H; have H := H1; clear H1
  by_cases c5 : a0_1 = a1_1
  ·rw [if_pos c5] at H
   have c5b0 : (a0_1 == a1_1) = true := beq_iff_eq.mpr c5; have c5b1 : (a0_1 != a1_1) = false := bne_eq_false_iff_eq.mpr c5; clear c5; obtain rfl := Option.some.inj H
   go_enter Try.func15, Try.ntmps15
   go_wp2_with (first | ((with_reducible refine gate_dst (N := 2) rfl ?_); refine box_event ?hg (N := 2) ?hd (cs := #[.slice A0_0 l0_0.length c0_0, .int .i64 a0_1]) (t := 28) ?hr ?_; (case hd => rfl); (case hg => rfl); (case hr => exact qa15); intro gb101 hg w6 hbox hb; have hx_ := qHX HB hb qa2; have n0_ := qO (below_step (below_step HB.out hx_) hb); have n1_ := qO (hbox); have n2_ := qO ((qa17 : w.heap.size ≤ gb101)); have n3_ := n2_; clear HB; have HB := n0_; have BK101 := n1_; have GW101 := n2_; have GE101 := n3_; clear n0_ n1_ n2_ n3_; clear hx_; clear hb hbox hg) | ((with_reducible refine gate_dst (N := 3) rfl ?_); refine box_event ?hg (N := 3) ?hd (cs := #[.slice A1_0 l1_0.length c1_0, .int .i64 a1_1]) (t := 28) ?hr ?_; (case hd => rfl); (case hg => rfl); (case hr => exact qa15); intro gb102 hg w7 hbox hb; have hx_ := qHX HB hb qa2; have n0_ := qO (qB BK101.out hx_ hb); have n1_ := qO (below_step (below_step HB.out hx_) hb); have n2_ := qO (hbox); have n3_ := qO ((qa17 : w.heap.size ≤ gb102)); have n4_ := n3_; have n5_ := qO ((qa14 : gb101 ≠ gb102)); have n6_ := qO (Ne.symm n5_.out); clear BK101; clear HB; have BK101 := n0_; have HB := n1_; have BK102 := n2_; have GW102 := n3_; have GE102 := n4_; have NB101_102 := n5_; have NB102_101 := n6_; clear n0_ n1_ n2_ n3_ n4_ n5_ n6_; clear hx_; clear hb hbox hg; have hnb8 := NB101_102.out; have hnc8 := NB102_101.out; have hcz9_0 : w7.cell? ⟨gb101, 0, none⟩ = some (.slice A0_0 l0_0.length c0_0) := (blk_cell BK101.out 0).trans rfl; have hcz9_1 : w7.cell? ⟨gb101, 1, none⟩ = some (.int .i64 a0_1) := (blk_cell BK101.out 1).trans rfl; have hfz9_0 := blk_frozen BK101.out 0; have hfz9_1 := blk_frozen BK101.out 1; have hcz10_0 : w7.cell? ⟨gb102, 0, none⟩ = some (.slice A1_0 l1_0.length c1_0) := (blk_cell BK102.out 0).trans rfl; have hcz10_1 : w7.cell? ⟨gb102, 1, none⟩ = some (.int .i64 a1_1) := (blk_cell BK102.out 1).trans rfl; have hfz10_0 := blk_frozen BK102.out 0; have hfz10_1 := blk_frozen BK102.out 1) | ((with_reducible refine gate_callee (f := 59) rfl ?_); refine goesL_ (some 9) rfl rfl Try.func59 qa8 rfl #[.slice A0_0 l0_0.length c0_0, .slice A1_0 l1_0.length c1_0] rfl qa1 ?_; (with_reducible refine (laws_eqVersionSS.calls k _ _ l0_0 _ _ l1_0 true _ ?side1 ?side2 ?side3 ?side4 A3.out).mono ?_); (case side1 => exact qa28); (case side2 => exact HC0_0.out); (case side3 => exact qa98); (case side4 => exact HC1_0.out); rintro e w11 ⟨rfl, hb⟩; have hx_ := qHX HB hb qa2; refine ⟨_, rfl, ?_⟩; have n0_ := qO (qB BK101.out hx_ hb); have n1_ := qO (qB BK102.out hx_ hb); have n2_ := qO (below_step (below_step HB.out hx_) hb); clear BK101; clear BK102; clear HB; have BK101 := n0_; have BK102 := n1_; have HB := n2_; clear n0_ n1_ n2_; clear hx_; (try clear hb); (try clear hb2); (try clear hk); (try clear hi); have hcz12_0 : w11.cell? ⟨gb101, 0, none⟩ = some (.slice A0_0 l0_0.length c0_0) := (blk_cell BK101.out 0).trans rfl; have hcz12_1 : w11.cell? ⟨gb101, 1, none⟩ = some (.int .i64 a0_1) := (blk_cell BK101.out 1).trans rfl; have hfz12_0 := blk_frozen BK101.out 0; have hfz12_1 := blk_frozen BK101.out 1; have hcz13_0 : w11.cell? ⟨gb102, 0, none⟩ = some (.slice A1_0 l1_0.length c1_0) := (blk_cell BK102.out 0).trans rfl; have hcz13_1 : w11.cell? ⟨gb102, 1, none⟩ = some (.int .i64 a1_1) := (blk_cell BK102.out 1).trans rfl; have hfz13_0 := blk_frozen BK102.out 0; have hfz13_1 := blk_frozen BK102.out 1))
   go_ret
   exact ⟨qa4, qa5⟩
  ·rw [if_neg c5] at H
   have c5b0 : (a0_1 == a1_1) = false := beq_eq_false_iff_ne.mpr c5; have c5b1 : (a0_1 != a1_1) = true := bne_iff_ne.mpr c5; obtain rfl := Option.some.inj H
   go_enter Try.func15, Try.ntmps15
   go_wp2_with (first | ((with_reducible refine gate_dst (N := 2) rfl ?_); refine box_event ?hg (N := 2) ?hd (cs := #[.slice A0_0 l0_0.length c0_0, .int .i64 a0_1]) (t := 28) ?hr ?_; (case hd => rfl); (case hg => rfl); (case hr => exact qa15); intro gb101 hg w14 hbox hb; have hx_ := qHX HB hb qa2; have n0_ := qO (below_step (below_step HB.out hx_) hb); have n1_ := qO (hbox); have n2_ := qO ((qa17 : w.heap.size ≤ gb101)); have n3_ := n2_; clear HB; have HB := n0_; have BK101 := n1_; have GW101 := n2_; have GE101 := n3_; clear n0_ n1_ n2_ n3_; clear hx_; clear hb hbox hg) | ((with_reducible refine gate_dst (N := 3) rfl ?_); refine box_event ?hg (N := 3) ?hd (cs := #[.slice A1_0 l1_0.length c1_0, .int .i64 a1_1]) (t := 28) ?hr ?_; (case hd => rfl); (case hg => rfl); (case hr => exact qa15); intro gb102 hg w15 hbox hb; have hx_ := qHX HB hb qa2; have n0_ := qO (qB BK101.out hx_ hb); have n1_ := qO (below_step (below_step HB.out hx_) hb); have n2_ := qO (hbox); have n3_ := qO ((qa17 : w.heap.size ≤ gb102)); have n4_ := n3_; have n5_ := qO ((qa14 : gb101 ≠ gb102)); have n6_ := qO (Ne.symm n5_.out); clear BK101; clear HB; have BK101 := n0_; have HB := n1_; have BK102 := n2_; have GW102 := n3_; have GE102 := n4_; have NB101_102 := n5_; have NB102_101 := n6_; clear n0_ n1_ n2_ n3_ n4_ n5_ n6_; clear hx_; clear hb hbox hg; have hnb16 := NB101_102.out; have hnc16 := NB102_101.out; have hcz17_0 : w15.cell? ⟨gb101, 0, none⟩ = some (.slice A0_0 l0_0.length c0_0) := (blk_cell BK101.out 0).trans rfl; have hcz17_1 : w15.cell? ⟨gb101, 1, none⟩ = some (.int .i64 a0_1) := (blk_cell BK101.out 1).trans rfl; have hfz17_0 := blk_frozen BK101.out 0; have hfz17_1 := blk_frozen BK101.out 1; have hcz18_0 : w15.cell? ⟨gb102, 0, none⟩ = some (.slice A1_0 l1_0.length c1_0) := (blk_cell BK102.out 0).trans rfl; have hcz18_1 : w15.cell? ⟨gb102, 1, none⟩ = some (.int .i64 a1_1) := (blk_cell BK102.out 1).trans rfl; have hfz18_0 := blk_frozen BK102.out 0; have hfz18_1 := blk_frozen BK102.out 1) | ((with_reducible refine gate_callee (f := 59) rfl ?_); refine goesL_ (some 9) rfl rfl Try.func59 qa8 rfl #[.slice A0_0 l0_0.length c0_0, .slice A1_0 l1_0.length c1_0] rfl qa1 ?_; (with_reducible refine (laws_eqVersionSS.calls k _ _ l0_0 _ _ l1_0 true _ ?side1 ?side2 ?side3 ?side4 A3.out).mono ?_); (case side1 => exact qa28); (case side2 => exact HC0_0.out); (case side3 => exact qa98); (case side4 => exact HC1_0.out); rintro e w19 ⟨rfl, hb⟩; have hx_ := qHX HB hb qa2; refine ⟨_, rfl, ?_⟩; have n0_ := qO (qB BK101.out hx_ hb); have n1_ := qO (qB BK102.out hx_ hb); have n2_ := qO (below_step (below_step HB.out hx_) hb); clear BK101; clear BK102; clear HB; have BK101 := n0_; have BK102 := n1_; have HB := n2_; clear n0_ n1_ n2_; clear hx_; (try clear hb); (try clear hb2); (try clear hk); (try clear hi); have hcz20_0 : w19.cell? ⟨gb101, 0, none⟩ = some (.slice A0_0 l0_0.length c0_0) := (blk_cell BK101.out 0).trans rfl; have hcz20_1 : w19.cell? ⟨gb101, 1, none⟩ = some (.int .i64 a0_1) := (blk_cell BK101.out 1).trans rfl; have hfz20_0 := blk_frozen BK101.out 0; have hfz20_1 := blk_frozen BK101.out 1; have hcz21_0 : w19.cell? ⟨gb102, 0, none⟩ = some (.slice A1_0 l1_0.length c1_0) := (blk_cell BK102.out 0).trans rfl; have hcz21_1 : w19.cell? ⟨gb102, 1, none⟩ = some (.int .i64 a1_1) := (blk_cell BK102.out 1).trans rfl; have hfz21_0 := blk_frozen BK102.out 0; have hfz21_1 := blk_frozen BK102.out 1))
   go_ret
   exact ⟨qa4, qa5⟩
 ·replace c4 := Bool.eq_false_iff.mpr c4
  subst c4; have H1 : (some false) = some r := by rw [if_neg (show ¬ (false = true) by decide)] at H; exact H
  clear H; have H := H1; clear H1; obtain rfl := Option.some.inj H
  go_enter Try.func15, Try.ntmps15
  go_wp2_with (first | ((with_reducible refine gate_dst (N := 2) rfl ?_); refine box_event ?hg (N := 2) ?hd (cs := #[.slice A0_0 l0_0.length c0_0, .int .i64 a0_1]) (t := 28) ?hr ?_; (case hd => rfl); (case hg => rfl); (case hr => exact qa15); intro gb101 hg w22 hbox hb; have hx_ := qHX HB hb qa2; have n0_ := qO (below_step (below_step HB.out hx_) hb); have n1_ := qO (hbox); have n2_ := qO ((qa17 : w.heap.size ≤ gb101)); have n3_ := n2_; clear HB; have HB := n0_; have BK101 := n1_; have GW101 := n2_; have GE101 := n3_; clear n0_ n1_ n2_ n3_; clear hx_; clear hb hbox hg) | ((with_reducible refine gate_dst (N := 3) rfl ?_); refine box_event ?hg (N := 3) ?hd (cs := #[.slice A1_0 l1_0.length c1_0, .int .i64 a1_1]) (t := 28) ?hr ?_; (case hd => rfl); (case hg => rfl); (case hr => exact qa15); intro gb102 hg w23 hbox hb; have hx_ := qHX HB hb qa2; have n0_ := qO (qB BK101.out hx_ hb); have n1_ := qO (below_step (below_step HB.out hx_) hb); have n2_ := qO (hbox); have n3_ := qO ((qa17 : w.heap.size ≤ gb102)); have n4_ := n3_; have n5_ := qO ((qa14 : gb101 ≠ gb102)); have n6_ := qO (Ne.symm n5_.out); clear BK101; clear HB; have BK101 := n0_; have HB := n1_; have BK102 := n2_; have GW102 := n3_; have GE102 := n4_; have NB101_102 := n5_; have NB102_101 := n6_; clear n0_ n1_ n2_ n3_ n4_ n5_ n6_; clear hx_; clear hb hbox hg; have hnb24 := NB101_102.out; have hnc24 := NB102_101.out; have hcz25_0 : w23.cell? ⟨gb101, 0, none⟩ = some (.slice A0_0 l0_0.length c0_0) := (blk_cell BK101.out 0).trans rfl; have hcz25_1 : w23.cell? ⟨gb101, 1, none⟩ = some (.int .i64 a0_1) := (blk_cell BK101.out 1).trans rfl; have hfz25_0 := blk_frozen BK101.out 0; have hfz25_1 := blk_frozen BK101.out 1; have hcz26_0 : w23.cell? ⟨gb102, 0, none⟩ = some (.slice A1_0 l1_0.length c1_0) := (blk_cell BK102.out 0).trans rfl; have hcz26_1 : w23.cell? ⟨gb102, 1, none⟩ = some (.int .i64 a1_1) := (blk_cell BK102.out 1).trans rfl; have hfz26_0 := blk_frozen BK102.out 0; have hfz26_1 := blk_frozen BK102.out 1) | ((with_reducible refine gate_callee (f := 59) rfl ?_); refine goesL_ (some 9) rfl rfl Try.func59 qa8 rfl #[.slice A0_0 l0_0.length c0_0, .slice A1_0 l1_0.length c1_0] rfl qa1 ?_; (with_reducible refine (laws_eqVersionSS.calls k _ _ l0_0 _ _ l1_0 false _ ?side1 ?side2 ?side3 ?side4 A3.out).mono ?_); (case side1 => exact qa28); (case side2 => exact HC0_0.out); (case side3 => exact qa98); (case side4 => exact HC1_0.out); rintro e w27 ⟨rfl, hb⟩; have hx_ := qHX HB hb qa2; refine ⟨_, rfl, ?_⟩; have n0_ := qO (qB BK101.out hx_ hb); have n1_ := qO (qB BK102.out hx_ hb); have n2_ := qO (below_step (below_step HB.out hx_) hb); clear BK101; clear BK102; clear HB; have BK101 := n0_; have BK102 := n1_; have HB := n2_; clear n0_ n1_ n2_; clear hx_; (try clear hb); (try clear hb2); (try clear hk); (try clear hi)))
  go_ret
  exact ⟨qa4, qa5⟩


def laws_markVersionS.l0 : Nat → List (S43) → Int → Int → Option (Int × (List (S43)))
 | 0, _, _, _ => none
 | k + 1, x0, x1, x5 => if x5 < (x0.length : Int) then (if 0 ≤ x5 then ((some (x0.set (x5 : Int).toNat (⟨x1, (rd_T43 x0 x5).f1⟩ : S43) : List (S43))).bind fun y101 => (laws_markVersionS.l0 k (y101.set (x5 : Int).toNat (⟨(rd_T43 y101 x5).f0, wrap64 (x1 + 1)⟩ : S43)) (wrap64 ((wrap64 (x1 + 1)) + 1)) (wrap64 (x5 + 1)))) else (none)) else (some (x1, x0))
def laws_markVersionS.f (k : Nat) (l0 : List (S43)) (a1 : Int) : Option (Int × (List (S43))) := laws_markVersionS.l0 k l0 a1 0
set_option maxHeartbeats 8000000 in
set_option maxRecDepth 100000 in
theorem laws_markVersionS.calls (k : Nat) (P0_ : Nat → Prop) (u9000_ : Value) (l0 : List (S43)) (a1 : Int) (r1 : Int) (r2 : List (S43)) (w0 w : World) (hB : Below w0.heap.size w0 w) (ho0 : Kd.R k43 43 w w0.heap.size P0_ u9000_ l0) (h : laws_markVersionS.f k l0 a1 = some (r1, r2)) :
  Calls Try.prog 105 #[u9000_, .int .i64 a1] w fun e w' => e = .returned (.int .i64 r1) ∧ Kd.R k43 43 w' w0.heap.size (fun k_ => (P0_ k_ ∨ w.heap.size ≤ k_)) u9000_ r2 ∧ Below w0.heap.size w0 w' ∧ Kept w w' (fun k_ => P0_ k_) := by
 have HO0 := qO (show Kd.R k43 43 w w0.heap.size (fun k_ => (P0_ k_ ∨ w.heap.size ≤ k_)) u9000_ l0 from Kd.R_mono ho0 (fun k_ hk => (.inl hk))); have HK := qO (Kept.refl w (fun k_ => P0_ k_)); have HW0 := qO hB.size; have HB := qO hB; clear hB; have H : (laws_markVersionS.l0 k l0 a1 0) = some (r1, r2) := h; clear h; have H' := qO H; clear H
 go_enter Try.func105, Try.ntmps105
 go_wp2
 go_loopg [1, 5] k (fun kq v1 v5 w' => ∃ (x0_1 : List (S43)) (x1_1 : Int) (x5_1 : Int), v1 = .int .i64 x1_1 ∧ v5 = .int .i64 x5_1 ∧ Aside0 (laws_markVersionS.l0 kq x0_1 x1_1 x5_1 = some (r1, r2)) ∧ Aside0 (kq ≤ k) ∧ Aside0 (Kd.R k43 43 w' w0.heap.size (fun k_ => (P0_ k_ ∨ w.heap.size ≤ k_)) u9000_ x0_1) ∧ Aside0 (Kept w w' (fun k_ => P0_ k_)) ∧ Aside0 (Below w0.heap.size w0 w'))
 case atStart => exact ⟨(l0), (a1), (0), qa9, qa9, H', ⟨Nat.le_refl _⟩, ⟨qa110⟩, ⟨qa26⟩, ⟨qa12⟩⟩
 case round =>
  clear H'
  try clear c1
  try clear p2
  obtain ⟨x0_1, x1_1, x5_1, rfl, rfl, HA, HK1, HO_0, HK, HB⟩ := hrel
  cases gk with
  | zero => exact absurd HA.out (by simp [laws_markVersionS.l0])
  | succ k1 =>
   have H := HA.out; clear HA; simp only [laws_markVersionS.l0] at H
   by_cases c3 : x5_1 < (x0_1.length : Int)
   ·rw [if_pos c3] at H
    have c3b0 : decide (x5_1 < (x0_1.length : Int)) = true := decide_eq_true c3; clear c3
    by_cases c4 : 0 ≤ x5_1
    ·rw [if_pos c4] at H
     have c4b0 : decide (0 ≤ x5_1) = true := decide_eq_true c4; clear c4; obtain ⟨y101, hy101⟩ : ∃ y_ : List (S43), y_ = (x0_1.set (x5_1 : Int).toNat (⟨x1_1, (rd_T43 x0_1 x5_1).f1⟩ : S43)) := ⟨_, rfl⟩; replace H : (laws_markVersionS.l0 k1 (y101.set (x5_1 : Int).toNat (⟨(rd_T43 y101 x5_1).f0, wrap64 (x1_1 + 1)⟩ : S43)) (wrap64 ((wrap64 (x1_1 + 1)) + 1)) (wrap64 (x5_1 + 1))) = some (r1, r2) := by first | (rw [hy101]; with_reducible exact H) | (have H2_ := (Option.bind_some _ _).symm.trans H; rw [hy101]; with_reducible exact H2_) | (have H2_ := (Option.bind_some _ _).symm.trans H; with_reducible exact H2_) | with_reducible exact H | (rw [hy101]; exact H) | exact H
     have Ny101 := qO hy101; clear hy101; obtain ⟨y102, hy102⟩ : ∃ y_ : List (S43), y_ = (y101.set (x5_1 : Int).toNat (⟨(rd_T43 y101 x5_1).f0, wrap64 (x1_1 + 1)⟩ : S43)) := ⟨_, rfl⟩; replace H : (laws_markVersionS.l0 k1 y102 (wrap64 ((wrap64 (x1_1 + 1)) + 1)) (wrap64 (x5_1 + 1))) = some (r1, r2) := by first | (rw [hy102]; with_reducible exact H) | (have H2_ := (Option.bind_some _ _).symm.trans H; rw [hy102]; with_reducible exact H2_) | (have H2_ := (Option.bind_some _ _).symm.trans H; with_reducible exact H2_) | with_reducible exact H | (rw [hy102]; exact H) | exact H
     have Ny102 := qO hy102; clear hy102; have H' := qO H; clear H; obtain ⟨Ao7, co7, eo7⟩ := Kd.R_slice HO_0.out; subst eo7; have p5 : 0 ≤ (x5_1 : Int) := qT qa0; have q5 : (x5_1 : Int) < ((x0_1.length : Int) : Int) := qT qa0; obtain ⟨go5, co5, eo5, gb5, gl5, cl5, HG5⟩ := Kd.R_form HO_0.out qa27; (first | cases eo5 | (injection eo5 with ea_ en_ ec_; (first | subst ea_ | (injection ea_ with ea_; subst ea_)); subst ec_; clear en_)); have GB5 := qO gb5; have GG5 := qO HG5; clear gb5 gl5 HG5; have HMgo5 := qO (show (P0_ go5 ∨ w.heap.size ≤ go5) from (HO_0.out.1 _ rfl)); obtain ⟨ce5, hcl5, hM5, hcc5, hfr5⟩ := Kd.R_elem HO_0.out z43 (x5_1 : Int) p5 q5; obtain rfl := k43_openM hM5; have hx5_0 : wr.cell? ⟨go5, (x5_1 : Int).toNat * 2, none⟩ = some (.int .i64 ((rd_T43 x0_1 x5_1).f0)) := hcc5 0 _ rfl; have hx5_1 : wr.cell? ⟨go5, (x5_1 : Int).toNat * 2 + 1, none⟩ = some (.int .i64 ((rd_T43 x0_1 x5_1).f1)) := hcc5 1 _ rfl; have hf5_0 : wr.frozen? ⟨go5, (x5_1 : Int).toNat * 2, none⟩ = false := hfr5 0; have hf5_1 : wr.frozen? ⟨go5, (x5_1 : Int).toNat * 2 + 1, none⟩ = false := hfr5 1; clear hcl5 hcc5 hfr5; (try clear hM5); replace p5 := eq_true p5; replace q5 := eq_true q5; have HX8 := qO (show Kd.R k43 43 wr w0.heap.size (fun k_ => (P0_ k_ ∨ w.heap.size ≤ k_)) (.slice (some ⟨go5, 0, none⟩) x0_1.length co7) x0_1 from qa55); obtain ⟨ce8, hcl8, hM8, hcc8, hfr8⟩ := Kd.R_elem HX8.out z43 (x5_1 : Int) (qT qa0) (by have h_ : (x5_1 : Int) < ((x0_1.length : Int) : Int) := qT qa0; first | exact h_ | (have e_ := (Kd.R_reads' HO_0.out).1; omega) | simpa using h_); obtain rfl := k43_openM hM8; have HP8 := Kd.R_seg HX8.out (x5_1 : Int) (qT qa0) (by have h_ : (x5_1 : Int) < ((x0_1.length : Int) : Int) := qT qa0; first | exact h_ | (have e_ := (Kd.R_reads' HO_0.out).1; omega) | simpa using h_) (seg := [.int .i64 x1_1]) (j := 0) hcl8 hcc8 (show 1 ≤ 2 from by decide) (x' := (⟨x1_1, (rd_T43 x0_1 x5_1).f1⟩ : S43)) (k43_mkM _ _ _ (⟨x1_1, (rd_T43 x0_1 x5_1).f1⟩ : S43) ) (fun _ hk => hk); have hx8_0 := hcc8 0 _ rfl; (try simp only [show (k43).sz = 2 from rfl, Nat.mul_one, Nat.add_zero] at hx8_0); have hf8_0 := hfr8 0; (try simp only [show (k43).sz = 2 from rfl, Nat.mul_one, Nat.add_zero] at hf8_0); clear hcl8 hcc8 hfr8; (try clear hM8)
     go_wp2_with (first | ((with_reducible refine gate_store (t := 3) (p := 16) rfl ?_); refine store_event (t := 3) (p := 16) (v := ?vo_w9) (w1 := (wr.setCell ⟨go5, (x5_1 : Int).toNat * 2, none⟩ (.int .i64 x1_1))) ?hg ?ho ?hn ?hr ?_; (case ho => rfl); (case hg => rfl); (case hn => rfl); (case hr => exact qa15); intro w9 hw; have hg : wr.grownBy w9 (some go5) := (by rw [hw]; exact HP8.2); have hp_ : Kd.R k43 43 w9 w0.heap.size (fun k_ => (P0_ k_ ∨ w.heap.size ≤ k_)) (.slice (some ⟨go5, 0, none⟩) x0_1.length co7) y101 := (by rw [hw, Ny101.out]; exact HP8.1); clear HP8; have n0_ := qO (hp_); have n1_ := qO ((qa134 : Below w0.heap.size w0 w9)); have n2_ := qO (Kept.of_grown (S := (fun k_ => P0_ k_)) hg qa26 (fun k_ e_ => (HO_0.out.1 k_ e_))); clear HO_0; clear HB; clear HK; have HO_0 := n0_; have HB := n1_; have HK := n2_; clear n0_ n1_ n2_; clear hg hw hp_; have p6 : 0 ≤ (x5_1 : Int) := qT qa0; have q6 : (x5_1 : Int) < ((x0_1.length : Int) : Int) := qT qa0; obtain ⟨ce6, hcl6, hM6, hcc6, hfr6⟩ := Kd.R_elem HO_0.out z43 (x5_1 : Int) p6 q6; obtain rfl := k43_openM hM6; have hx6_0 : w9.cell? ⟨go5, (x5_1 : Int).toNat * 2, none⟩ = some (.int .i64 ((rd_T43 y101 x5_1).f0)) := hcc6 0 _ rfl; have hx6_1 : w9.cell? ⟨go5, (x5_1 : Int).toNat * 2 + 1, none⟩ = some (.int .i64 ((rd_T43 y101 x5_1).f1)) := hcc6 1 _ rfl; have hf6_0 : w9.frozen? ⟨go5, (x5_1 : Int).toNat * 2, none⟩ = false := hfr6 0; have hf6_1 : w9.frozen? ⟨go5, (x5_1 : Int).toNat * 2 + 1, none⟩ = false := hfr6 1; clear hcl6 hcc6 hfr6; (try clear hM6); replace p6 := eq_true p6; replace q6 := eq_true q6; have HX10 := qO (show Kd.R k43 43 w9 w0.heap.size (fun k_ => (P0_ k_ ∨ w.heap.size ≤ k_)) (.slice (some ⟨go5, 0, none⟩) x0_1.length co7) y101 from qa55); obtain ⟨ce10, hcl10, hM10, hcc10, hfr10⟩ := Kd.R_elem HX10.out z43 (x5_1 : Int) (qT qa0) (by have h_ : (x5_1 : Int) < ((x0_1.length : Int) : Int) := qT qa0; first | exact h_ | (have e_ := (Kd.R_reads' HO_0.out).1; omega) | simpa using h_); obtain rfl := k43_openM hM10; have HP10 := Kd.R_seg HX10.out (x5_1 : Int) (qT qa0) (by have h_ : (x5_1 : Int) < ((x0_1.length : Int) : Int) := qT qa0; first | exact h_ | (have e_ := (Kd.R_reads' HO_0.out).1; omega) | simpa using h_) (seg := [.int .i64 (wrap64 (x1_1 + 1))]) (j := 1) hcl10 hcc10 (show 2 ≤ 2 from by decide) (x' := (⟨(rd_T43 y101 x5_1).f0, wrap64 (x1_1 + 1)⟩ : S43)) (k43_mkM _ _ _ (⟨(rd_T43 y101 x5_1).f0, wrap64 (x1_1 + 1)⟩ : S43) ) (fun _ hk => hk); have hx10_1 := hcc10 1 _ rfl; (try simp only [show (k43).sz = 2 from rfl, Nat.mul_one, Nat.add_zero] at hx10_1); have hf10_1 := hfr10 1; (try simp only [show (k43).sz = 2 from rfl, Nat.mul_one, Nat.add_zero] at hf10_1); clear hcl10 hcc10 hfr10; (try clear hM10)) | ((with_reducible refine gate_store (t := 3) (p := 23) rfl ?_); refine store_event (t := 3) (p := 23) (v := ?vo_w11) (w1 := (w9.setCell ⟨go5, (x5_1 : Int).toNat * 2 + 1, none⟩ (.int .i64 (wrap64 (x1_1 + 1))))) ?hg ?ho ?hn ?hr ?_; (case ho => rfl); (case hg => rfl); (case hn => rfl); (case hr => exact qa15); intro w11 hw; have hg : w9.grownBy w11 (some go5) := (by rw [hw]; exact HP10.2); have hp_ : Kd.R k43 43 w11 w0.heap.size (fun k_ => (P0_ k_ ∨ w.heap.size ≤ k_)) (.slice (some ⟨go5, 0, none⟩) x0_1.length co7) y102 := (by rw [hw, Ny102.out]; exact HP10.1); clear HP10; have n0_ := qO (hp_); have n1_ := qO ((qa134 : Below w0.heap.size w0 w11)); have n2_ := qO (Kept.of_grown (S := (fun k_ => P0_ k_)) hg qa26 (fun k_ e_ => (HO_0.out.1 k_ e_))); clear HO_0; clear HB; clear HK; have HO_0 := n0_; have HB := n1_; have HK := n2_; clear n0_ n1_ n2_; clear hg hw hp_))
     go_roundg k1
     case measure => have := HK1.out; omega
     case rel => exact ⟨(y102), (wrap64 ((wrap64 (x1_1 + 1)) + 1)), (wrap64 (x5_1 + 1)), qa9, qa9, H', ⟨qa89⟩, ⟨qa55⟩, ⟨qa26⟩, ⟨qa12⟩⟩
    ·rw [if_neg c4] at H
     exact absurd H qa109
   ·rw [if_neg c3] at H
    have c3b0 : decide (x5_1 < (x0_1.length : Int)) = false := decide_eq_false c3; clear c3; simp only [Option.some.injEq, Prod.mk.injEq] at H; obtain ⟨rfl, rfl⟩ := H; obtain ⟨Ao12, co12, eo12⟩ := Kd.R_slice HO_0.out; subst eo12; go_wp2
    go_ret
    exact ⟨qa4, qa55, qa12, qa26⟩


def laws_markVersionSS.l0 : Nat → List (List (S43)) → Int → Int → Option (Int × (List (List (S43))))
 | 0, _, _, _ => none
 | k + 1, ls, m, i => if i < (ls.length : Int) then (if 0 ≤ i then ((laws_markVersionS.f k (rd_L4 ls i) m).bind fun y => (laws_markVersionSS.l0 k (ls.set i.toNat y.2) y.1 (wrap64 (i + 1)))) else (none)) else (some (m, ls))
def laws_markVersionSS.f (k : Nat) (l0 : List (List (S43))) (a1 : Int) : Option (Int × (List (List (S43)))) := laws_markVersionSS.l0 k l0 a1 0
set_option maxHeartbeats 8000000 in
set_option maxRecDepth 100000 in
theorem laws_markVersionSS.calls (k : Nat) (P0_ : Nat → Prop) (u9000_ : Value) (l0 : List (List (S43))) (a1 : Int) (r1 : Int) (r2 : List (List (S43))) (w0 w : World) (hB : Below w0.heap.size w0 w) (ho0 : Kd.S ((Kd.slice 43 k43)) 41 w w0.heap.size P0_ u9000_ l0) (h : laws_markVersionSS.f k l0 a1 = some (r1, r2)) :
  Calls Try.prog 60 #[u9000_, .int .i64 a1] w fun e w' => e = .returned (.int .i64 r1) ∧ Kd.S ((Kd.slice 43 k43)) 41 w' w0.heap.size (fun k_ => (P0_ k_ ∨ w.heap.size ≤ k_)) u9000_ r2 ∧ Below w0.heap.size w0 w' ∧ Kept w w' (fun k_ => P0_ k_) := by
 have HO0 := qO (show Kd.S ((Kd.slice 43 k43)) 41 w w0.heap.size (fun k_ => (P0_ k_ ∨ w.heap.size ≤ k_)) u9000_ l0 from Kd.S_mono ho0 (fun k_ hk => (.inl hk))); have HK0 := qO (Kept.refl w (fun k_ => P0_ k_)); have HB0 := qO hB; clear hB ho0; have H0' := qO (show laws_markVersionSS.l0 k l0 a1 0 = some (r1, r2) from h); clear h
 go_enter Try.func60, Try.ntmps60
 go_wp2
 go_loopg [1, 5] k (fun kq v1 v5 w' => ∃ (ls : List (List (S43))) (m : Int) (i : Int), v1 = .int .i64 m ∧ v5 = .int .i64 i ∧ Aside0 (laws_markVersionSS.l0 kq ls m i = some (r1, r2)) ∧ Aside0 (kq ≤ k) ∧ Aside0 (Kd.S ((Kd.slice 43 k43)) 41 w' w0.heap.size (fun k_ => (P0_ k_ ∨ w.heap.size ≤ k_)) u9000_ ls) ∧ Aside0 (Kept w w' (fun k_ => P0_ k_)) ∧ Aside0 (Below w0.heap.size w0 w'))
 case atStart => exact ⟨l0, a1, 0, rfl, rfl, H0', ⟨Nat.le_refl _⟩, HO0, HK0, HB0⟩
 case round =>
  clear H0' HO0 HK0 HB0; obtain ⟨ls, m, i, rfl, rfl, HA, HK1, HO, HK, HB⟩ := hrel
  cases gk with
  | zero => exact absurd HA.out (by simp [laws_markVersionSS.l0])
  | succ k1 =>
   have H := HA.out; clear HA; simp only [laws_markVersionSS.l0] at H
   by_cases c1 : i < (ls.length : Int)
   ·rw [if_pos c1] at H
    by_cases c2 : 0 ≤ i
    ·rw [if_pos c2] at H
     replace H := Option.bind_eq_some_iff.mp H; obtain ⟨⟨m2, y2⟩, A0_, H⟩ := H; have H' := qO (show laws_markVersionSS.l0 k1 (ls.set i.toNat y2) m2 (wrap64 (i + 1)) = some (r1, r2) from H); clear H; have c1b := decide_eq_true c1; have c2b := decide_eq_true c2; obtain ⟨go, co, eo, gb, gl, cl, HG⟩ := Kd.S_form HO.out qa27; (first | cases eo | (injection eo with ea_ en_ ec_; (first | subst ea_ | (injection ea_ with ea_; subst ea_)); subst ec_; clear en_)); obtain ⟨oki, ce, hcl, hM, hcc, hfr, hoki, hH⟩ := Kd.S_elem HO.out [] i c2 c1; obtain ⟨v, rfl, hR⟩ := hM; have hx : wr.cell? ⟨go, i.toNat * 1 + 0, none⟩ = some v := hcc 0 v rfl; simp only [Nat.mul_one, Nat.add_zero] at hx; obtain ⟨Av, cv, ev⟩ := Kd.R_slice hR; subst ev; have hc := qO (laws_markVersionS.calls k1 oki _ _ m m2 y2 w0 wr HB.out hR A0_); have HR := qO hR; have HH := qO hH; have HOK := qO hoki; clear hR hH hoki hcc hfr hcl A0_ HG gb gl cl; generalize hxs_ : List.getD ls i.toNat [] = xs_ at hc HR hx HH; clear hxs_; replace c1 := eq_true c1; replace c2 := eq_true c2
     go_wp2_with (go_at_call 105; refine hc.out.mono ?_; rintro e w3 ⟨rfl, hR2, hB2, hK2⟩; have HR2 := qO hR2; have HB2 := qO hB2; have HK2 := qO hK2; clear hR2 hB2 hK2)
     go_roundg k1
     case measure => have := HK1.out; omega
     case rel =>
      refine ⟨ls.set i.toNat y2, m2, wrap64 (i + 1), qa9, qa9, H', ⟨qa89⟩, ⟨?_⟩, ⟨?_⟩, ⟨HB2.out⟩⟩
      ·have h1 := Kd.H_kept (Kd.H_widen HH.out) HK2.out (fun k_ _ hn hs => hn (.inl hs))
       have h2 := Kd.H_back (okp := fun k_ => (oki k_ ∨ wr.heap.size ≤ k_)) (x' := y2) h1 ⟨_, rfl, HR2.out⟩ (fun k_ hk => hk.elim (fun z => .inl z) (fun z => .inr ⟨.inr (Nat.le_trans HK.out.1 z), z⟩))
       exact h2
      ·exact Kept.then_ HK.out HK2.out (fun k_ hk => (HOK.out k_ hk).1)
    ·rw [if_neg c2] at H
     exact absurd H qa109
   ·rw [if_neg c1] at H
    have c1b := decide_eq_false c1; clear c1; simp only [Option.some.injEq, Prod.mk.injEq] at H; obtain ⟨rfl, rfl⟩ := H; obtain ⟨Ao12, co12, eo12⟩ := Kd.S_slice HO.out; subst eo12; go_wp2
    go_ret
    exact ⟨rfl, HO.out, HB.out, HK.out⟩


def laws_markStore.f (k : Nat) (l0_0 : List (List (S43))) (a0_1 : Int) (a1 : Int) : Option (Int × (List (List (S43)))) := laws_markVersionSS.f k l0_0 a1
set_option maxHeartbeats 8000000 in
set_option maxRecDepth 100000 in
theorem laws_markStore.calls (k : Nat) (P0_ : Nat → Prop) (u9000_ : Value) (l0_0 : List (List (S43))) (a0_1 : Int) (a1 : Int) (r1 : Int) (r2 : List (List (S43))) (w0 w : World) (hB : Below w0.heap.size w0 w) (ho0 : Kd.S ((Kd.slice 43 k43)) 41 w w0.heap.size P0_ u9000_ l0_0) (h : laws_markStore.f k l0_0 a0_1 a1 = some (r1, r2)) :
  Calls Try.prog 16 #[.agg #[u9000_, .int .i64 a0_1], .int .i64 a1] w fun e w' => e = .returned (.int .i64 r1) ∧ Kd.S ((Kd.slice 43 k43)) 41 w' w0.heap.size (fun k_ => (P0_ k_ ∨ w.heap.size ≤ k_)) u9000_ r2 ∧ Below w0.heap.size w0 w' ∧ Kept w w' (fun k_ => P0_ k_) := by
 have hu28 := Try.underlying28; obtain ⟨A0, c0, e0⟩ := Kd.S_slice ho0; subst e0; have HO := qO ho0; have HB := qO hB; have HF := qO (show laws_markVersionSS.f k l0_0 a1 = some (r1, r2) from h); clear ho0 hB h
 go_enter Try.func16, Try.ntmps16
 go_wp2_with (first | ((with_reducible refine gate_dst (N := 2) rfl ?_); refine box_event ?hg (N := 2) ?hd (cs := #[.slice A0 l0_0.length c0, .int .i64 a0_1]) (t := 28) ?hr ?_; (case hd => rfl); (case hg => rfl); (case hr => exact qa15); intro gb hg w1 hbox hb; have hcz_0 : w1.cell? ⟨gb, 0, none⟩ = some (.slice A0 l0_0.length c0) := (blk_cell hbox 0).trans rfl; have hcz_1 : w1.cell? ⟨gb, 1, none⟩ = some (.int .i64 a0_1) := (blk_cell hbox 1).trans rfl; have HB1 := qO (below_step HB.out hb); have HO1 := qO (Kd.S_below HO.out hb); have HK1 := qO (Kept.of_below hb (fun k_ => P0_ k_)); have HZ1 := qO hb.size; clear hb hg hbox) | (go_at_call 60; refine (laws_markVersionSS.calls k P0_ _ l0_0 a1 r1 r2 w0 _ HB1.out HO1.out HF.out).mono ?_; rintro e w2 ⟨rfl, hS, hB2, hK2⟩; have HS2 := qO hS; have HB2 := qO hB2; have HK2 := qO hK2; clear hS hB2 hK2))
 go_ret
 exact ⟨rfl, Kd.S_mono HS2.out (fun k_ hk => hk.elim (fun z => .inl z) (fun z => .inr (Nat.le_trans HZ1.out z))), HB2.out, Kept.then_ HK1.out HK2.out (fun k_ hk => .inl hk)⟩


def laws_szPutS.f (l0 : List (S76)) (a1 : Int) : Option (Int) := if (wrap64 (a1 - (l0.length : Int))) < 0 then (some (-1)) else (some (wrap64 (a1 - (l0.length : Int))))
set_option maxHeartbeats 8000000 in
set_option maxRecDepth 100000 in
theorem laws_szPutS.calls (A0 : Option Addr) (c0 : Nat) (l0 : List (S76)) (a1 : Int) (r : Int) (w : World) (hr0 : Kd.C k76 w A0 l0.length l0) (hc0 : l0.length ≤ c0) (h : laws_szPutS.f l0 a1 = some r) :
  Calls Try.prog 25 #[.slice A0 l0.length c0, .int .i64 a1] w fun e w' => e = .returned (.int .i64 r) ∧ Drawn0 w w' := by
 have HR0 := qO hr0; have HC0 := qO hc0; clear hr0 hc0; have H : (if (wrap64 (a1 - (l0.length : Int))) < 0 then (some (-1)) else (some (wrap64 (a1 - (l0.length : Int))))) = some r := h; clear h
 by_cases c3 : (wrap64 (a1 - (l0.length : Int))) < 0
 ·rw [if_pos c3] at H
  have c3b0 : decide ((wrap64 (a1 - (l0.length : Int))) < 0) = true := decide_eq_true c3; clear c3; obtain rfl := Option.some.inj H
  go_enter Try.func25, Try.ntmps25
  go_wp2
  go_ret
  exact ⟨qa9, qa20⟩
 ·rw [if_neg c3] at H
  have c3b0 : decide ((wrap64 (a1 - (l0.length : Int))) < 0) = false := decide_eq_false c3; clear c3; obtain rfl := Option.some.inj H
  go_enter Try.func25, Try.ntmps25
  go_wp2
  go_ret
  exact ⟨qa9, qa20⟩


def laws_szIntS.f (l0 : List Int) (a1 : Int) : Option (Int) := if (wrap64 (a1 - (l0.length : Int))) < 0 then (some (-1)) else (some (wrap64 (a1 - (l0.length : Int))))
set_option maxHeartbeats 8000000 in
set_option maxRecDepth 100000 in
theorem laws_szIntS.calls (A0 : Option Addr) (c0 : Nat) (l0 : List Int) (a1 : Int) (r : Int) (w : World) (hr0 : Kd.C (Kd.int .i64) w A0 l0.length l0) (hc0 : l0.length ≤ c0) (h : laws_szIntS.f l0 a1 = some r) :
  Calls Try.prog 89 #[.slice A0 l0.length c0, .int .i64 a1] w fun e w' => e = .returned (.int .i64 r) ∧ Drawn0 w w' := by
 have HR0 := qO hr0; have HC0 := qO hc0; clear hr0 hc0; have H : (if (wrap64 (a1 - (l0.length : Int))) < 0 then (some (-1)) else (some (wrap64 (a1 - (l0.length : Int))))) = some r := h; clear h
 by_cases c3 : (wrap64 (a1 - (l0.length : Int))) < 0
 ·rw [if_pos c3] at H
  have c3b0 : decide ((wrap64 (a1 - (l0.length : Int))) < 0) = true := decide_eq_true c3; clear c3; obtain rfl := Option.some.inj H
  go_enter Try.func89, Try.ntmps89
  go_wp2
  go_ret
  exact ⟨qa9, qa20⟩
 ·rw [if_neg c3] at H
  have c3b0 : decide ((wrap64 (a1 - (l0.length : Int))) < 0) = false := decide_eq_false c3; clear c3; obtain rfl := Option.some.inj H
  go_enter Try.func89, Try.ntmps89
  go_wp2
  go_ret
  exact ⟨qa9, qa20⟩


def laws_szTxn.f (a0_0 : Int) (l0_1 : List Int) (l0_2 : List (S76)) (a1 : Int) : Option (Int) := (laws_szIntS.f l0_1 a1).bind fun t102 => (if t102 < 0 then (some (-1)) else ((laws_szPutS.f l0_2 t102).bind fun t103 => (if t103 < 0 then (some (-1)) else (some t103))))
set_option maxHeartbeats 8000000 in
set_option maxRecDepth 100000 in
theorem laws_szTxn.calls (a0_0 : Int) (A0_1 : Option Addr) (c0_1 : Nat) (l0_1 : List Int) (A0_2 : Option Addr) (c0_2 : Nat) (l0_2 : List (S76)) (a1 : Int) (r : Int) (w : World) (hr0_1 : Kd.C (Kd.int .i64) w A0_1 l0_1.length l0_1) (hc0_1 : l0_1.length ≤ c0_1) (hr0_2 : Kd.C k76 w A0_2 l0_2.length l0_2) (hc0_2 : l0_2.length ≤ c0_2) (h : laws_szTxn.f a0_0 l0_1 l0_2 a1 = some r) :
  Calls Try.prog 43 #[.agg #[.int .i64 a0_0, .slice A0_1 l0_1.length c0_1, .slice A0_2 l0_2.length c0_2], .int .i64 a1] w fun e w' => e = .returned (.int .i64 r) ∧ Below w.heap.size w w' := by
 have hu75 := Try.underlying75; have HR0_1 := qO hr0_1; have HC0_1 := qO hc0_1; clear hr0_1 hc0_1; have HR0_2 := qO hr0_2; have HC0_2 := qO hc0_2; clear hr0_2 hc0_2; have HB := qO (Below.refl w.heap.size w); have H : ((laws_szIntS.f l0_1 a1).bind fun t102 => (if t102 < 0 then (some (-1)) else ((laws_szPutS.f l0_2 t102).bind fun t103 => (if t103 < 0 then (some (-1)) else (some t103))))) = some r := h; clear h; replace H := Option.bind_eq_some_iff.mp H; obtain ⟨t102, A30, H⟩ := H; replace H : (if t102 < 0 then (some (-1)) else ((laws_szPutS.f l0_2 t102).bind fun t103 => (if t103 < 0 then (some (-1)) else (some t103)))) = some r := H; have A3 := qO A30; clear A30
 by_cases c4 : t102 < 0
 ·rw [if_pos c4] at H
  have c4b0 : decide (t102 < 0) = true := decide_eq_true c4; clear c4; obtain rfl := Option.some.inj H
  go_enter Try.func43, Try.ntmps43
  go_wp2_with (first | ((with_reducible refine gate_dst (N := 2) rfl ?_); refine box_event ?hg (N := 2) ?hd (cs := #[.int .i64 a0_0, .slice A0_1 l0_1.length c0_1, .slice A0_2 l0_2.length c0_2]) (t := 75) ?hr ?_; (case hd => rfl); (case hg => rfl); (case hr => exact qa15); intro gb101 hg w5 hbox hb; have hx_ := qHX HB hb qa2; have n0_ := qO (below_step (below_step HB.out hx_) hb); have n1_ := qO (hbox); have n2_ := qO ((qa17 : w.heap.size ≤ gb101)); have n3_ := n2_; clear HB; have HB := n0_; have BK101 := n1_; have GW101 := n2_; have GE101 := n3_; clear n0_ n1_ n2_ n3_; clear hx_; clear hb hbox hg; have hcz6_0 : w5.cell? ⟨gb101, 0, none⟩ = some (.int .i64 a0_0) := (blk_cell BK101.out 0).trans rfl; have hcz6_1 : w5.cell? ⟨gb101, 1, none⟩ = some (.slice A0_1 l0_1.length c0_1) := (blk_cell BK101.out 1).trans rfl; have hcz6_2 : w5.cell? ⟨gb101, 2, none⟩ = some (.slice A0_2 l0_2.length c0_2) := (blk_cell BK101.out 2).trans rfl; have hfz6_0 := blk_frozen BK101.out 0; have hfz6_1 := blk_frozen BK101.out 1; have hfz6_2 := blk_frozen BK101.out 2) | ((with_reducible refine gate_callee (f := 89) rfl ?_); refine goesL_ (some 8) rfl rfl Try.func89 qa8 rfl #[.slice A0_1 l0_1.length c0_1, .int .i64 a1] rfl qa1 ?_; (with_reducible refine (laws_szIntS.calls _ _ l0_1 a1 t102 _ ?side1 ?side2 A3.out).mono ?_); (case side1 => exact qa40); (case side2 => exact HC0_1.out); rintro e w' ⟨rfl, ⟨nd, rfl⟩⟩; refine ⟨_, rfl, ?_⟩))
  go_ret
  exact ⟨qa4, qa6⟩
 ·rw [if_neg c4] at H
  have c4b0 : decide (t102 < 0) = false := decide_eq_false c4; clear c4; replace H := Option.bind_eq_some_iff.mp H; obtain ⟨t103, A70, H⟩ := H; replace H : (if t103 < 0 then (some (-1)) else (some t103)) = some r := H; have A7 := qO A70; clear A70
  by_cases c8 : t103 < 0
  ·rw [if_pos c8] at H
   have c8b0 : decide (t103 < 0) = true := decide_eq_true c8; clear c8; obtain rfl := Option.some.inj H
   go_enter Try.func43, Try.ntmps43
   go_wp2_with (first | ((with_reducible refine gate_dst (N := 2) rfl ?_); refine box_event ?hg (N := 2) ?hd (cs := #[.int .i64 a0_0, .slice A0_1 l0_1.length c0_1, .slice A0_2 l0_2.length c0_2]) (t := 75) ?hr ?_; (case hd => rfl); (case hg => rfl); (case hr => exact qa15); intro gb101 hg w9 hbox hb; have hx_ := qHX HB hb qa2; have n0_ := qO (below_step (below_step HB.out hx_) hb); have n1_ := qO (hbox); have n2_ := qO ((qa17 : w.heap.size ≤ gb101)); have n3_ := n2_; clear HB; have HB := n0_; have BK101 := n1_; have GW101 := n2_; have GE101 := n3_; clear n0_ n1_ n2_ n3_; clear hx_; clear hb hbox hg; have hcz10_0 : w9.cell? ⟨gb101, 0, none⟩ = some (.int .i64 a0_0) := (blk_cell BK101.out 0).trans rfl; have hcz10_1 : w9.cell? ⟨gb101, 1, none⟩ = some (.slice A0_1 l0_1.length c0_1) := (blk_cell BK101.out 1).trans rfl; have hcz10_2 : w9.cell? ⟨gb101, 2, none⟩ = some (.slice A0_2 l0_2.length c0_2) := (blk_cell BK101.out 2).trans rfl; have hfz10_0 := blk_frozen BK101.out 0; have hfz10_1 := blk_frozen BK101.out 1; have hfz10_2 := blk_frozen BK101.out 2) | ((with_reducible refine gate_callee (f := 89) rfl ?_); refine goesL_ (some 8) rfl rfl Try.func89 qa8 rfl #[.slice A0_1 l0_1.length c0_1, .int .i64 a1] rfl qa1 ?_; (with_reducible refine (laws_szIntS.calls _ _ l0_1 a1 t102 _ ?side1 ?side2 A3.out).mono ?_); (case side1 => exact qa40); (case side2 => exact HC0_1.out); rintro e w' ⟨rfl, ⟨nd, rfl⟩⟩; refine ⟨_, rfl, ?_⟩) | ((with_reducible refine gate_callee (f := 25) rfl ?_); refine goesL_ (some 14) rfl rfl Try.func25 qa8 rfl #[.slice A0_2 l0_2.length c0_2, .int .i64 t102] rfl qa1 ?_; (with_reducible refine (laws_szPutS.calls _ _ l0_2 t102 t103 _ ?side1 ?side2 A7.out).mono ?_); (case side1 => exact qa51); (case side2 => exact HC0_2.out); rintro e w' ⟨rfl, ⟨nd, rfl⟩⟩; refine ⟨_, rfl, ?_⟩))
   go_ret
   exact ⟨qa4, qa6⟩
  ·rw [if_neg c8] at H
   have c8b0 : decide (t103 < 0) = false := decide_eq_false c8; clear c8; obtain rfl := Option.some.inj H
   go_enter Try.func43, Try.ntmps43
   go_wp2_with (first | ((with_reducible refine gate_dst (N := 2) rfl ?_); refine box_event ?hg (N := 2) ?hd (cs := #[.int .i64 a0_0, .slice A0_1 l0_1.length c0_1, .slice A0_2 l0_2.length c0_2]) (t := 75) ?hr ?_; (case hd => rfl); (case hg => rfl); (case hr => exact qa15); intro gb101 hg w11 hbox hb; have hx_ := qHX HB hb qa2; have n0_ := qO (below_step (below_step HB.out hx_) hb); have n1_ := qO (hbox); have n2_ := qO ((qa17 : w.heap.size ≤ gb101)); have n3_ := n2_; clear HB; have HB := n0_; have BK101 := n1_; have GW101 := n2_; have GE101 := n3_; clear n0_ n1_ n2_ n3_; clear hx_; clear hb hbox hg; have hcz12_0 : w11.cell? ⟨gb101, 0, none⟩ = some (.int .i64 a0_0) := (blk_cell BK101.out 0).trans rfl; have hcz12_1 : w11.cell? ⟨gb101, 1, none⟩ = some (.slice A0_1 l0_1.length c0_1) := (blk_cell BK101.out 1).trans rfl; have hcz12_2 : w11.cell? ⟨gb101, 2, none⟩ = some (.slice A0_2 l0_2.length c0_2) := (blk_cell BK101.out 2).trans rfl; have hfz12_0 := blk_frozen BK101.out 0; have hfz12_1 := blk_frozen BK101.out 1; have hfz12_2 := blk_frozen BK101.out 2) | ((with_reducible refine gate_callee (f := 89) rfl ?_); refine goesL_ (some 8) rfl rfl Try.func89 qa8 rfl #[.slice A0_1 l0_1.length c0_1, .int .i64 a1] rfl qa1 ?_; (with_reducible refine (laws_szIntS.calls _ _ l0_1 a1 t102 _ ?side1 ?side2 A3.out).mono ?_); (case side1 => exact qa40); (case side2 => exact HC0_1.out); rintro e w' ⟨rfl, ⟨nd, rfl⟩⟩; refine ⟨_, rfl, ?_⟩) | ((with_reducible refine gate_callee (f := 25) rfl ?_); refine goesL_ (some 14) rfl rfl Try.func25 qa8 rfl #[.slice A0_2 l0_2.length c0_2, .int .i64 t102] rfl qa1 ?_; (with_reducible refine (laws_szPutS.calls _ _ l0_2 t102 t103 _ ?side1 ?side2 A7.out).mono ?_); (case side1 => exact qa51); (case side2 => exact HC0_2.out); rintro e w' ⟨rfl, ⟨nd, rfl⟩⟩; refine ⟨_, rfl, ?_⟩))
   go_ret
   exact ⟨qa4, qa6⟩


def laws_toPut.f (a0_0 : Int) (a0_1 : Int) : Option (Int × Int) := some (a0_0, a0_1)
set_option maxHeartbeats 8000000 in
set_option maxRecDepth 100000 in
theorem laws_toPut.calls (a0_0 : Int) (a0_1 : Int) (r1 : Int) (r2 : Int) (w : World) (h : laws_toPut.f a0_0 a0_1 = some (r1, r2)) :
  Calls Try.prog 46 #[.agg #[.int .i64 a0_0, .int .i64 a0_1]] w fun e w' => e = .returned (.agg #[.int .i64 r1, .int .i64 r2]) ∧ Below w.heap.size w w' := by
 have hu76 := Try.underlying76; have hu58 := Try.underlying58; have HB := qO (Below.refl w.heap.size w); have H : (some (a0_0, a0_1)) = some (r1, r2) := h; clear h; simp only [Option.some.injEq, Prod.mk.injEq] at H; obtain ⟨rfl, rfl⟩ := H
 go_enter Try.func46, Try.ntmps46
 go_wp2_with (first | ((with_reducible refine gate_dst (N := 1) rfl ?_); refine box_event ?hg (N := 1) ?hd (cs := #[.int .i64 a0_0, .int .i64 a0_1]) (t := 76) ?hr ?_; (case hd => rfl); (case hg => rfl); (case hr => exact qa15); intro gb101 hg w2 hbox hb; have hx_ := qHX HB hb qa2; have n0_ := qO (below_step (below_step HB.out hx_) hb); have n1_ := qO (hbox); have n2_ := qO ((qa17 : w.heap.size ≤ gb101)); have n3_ := n2_; clear HB; have HB := n0_; have BK101 := n1_; have GW101 := n2_; have GE101 := n3_; clear n0_ n1_ n2_ n3_; clear hx_; clear hb hbox hg) | ((with_reducible refine gate_dst (N := 2) rfl ?_); refine box_event ?hg (N := 2) ?hd (cs := #[.int .i64 0, .int .i64 0]) (t := 58) ?hr ?_; (case hd => rfl); (case hg => rfl); (case hr => exact qa15); intro gb102 hg w3 hbox hb; have hx_ := qHX HB hb qa2; have n0_ := qO (qB BK101.out hx_ hb); have n1_ := qO (below_step (below_step HB.out hx_) hb); have n2_ := qO (hbox); have n3_ := qO ((qa17 : w.heap.size ≤ gb102)); have n4_ := n3_; have n5_ := qO ((qa97 : gb101 ≠ gb102)); have n6_ := qO (Ne.symm n5_.out); clear BK101; clear HB; have BK101 := n0_; have HB := n1_; have BK102 := n2_; have GW102 := n3_; have GE102 := n4_; have NB101_102 := n5_; have NB102_101 := n6_; clear n0_ n1_ n2_ n3_ n4_ n5_ n6_; clear hx_; clear hb hbox hg) | ((with_reducible refine gate_dst (N := 3) rfl ?_); refine box_event ?hg (N := 3) ?hd (cs := #[.int .i64 0, .int .i64 0]) (t := 58) ?hr ?_; (case hd => rfl); (case hg => rfl); (case hr => exact qa15); intro gb103 hg w4 hbox hb; have hx_ := qHX HB hb qa2; have n0_ := qO (qB BK101.out hx_ hb); have n1_ := qO (qB BK102.out hx_ hb); have n2_ := qO (below_step (below_step HB.out hx_) hb); have n3_ := qO (hbox); have n4_ := qO ((qa17 : w.heap.size ≤ gb103)); have n5_ := n4_; have n6_ := qO ((qa97 : gb101 ≠ gb103)); have n7_ := qO (Ne.symm n6_.out); have n8_ := qO ((by rw [hg]; exact Nat.ne_of_lt (blk_lt (g := gb102) (o := .cells #[.int .i64 0, .int .i64 0] 58 (0, 0)) (by (with_reducible repeat (first | refine qkN ?_ _ | refine qkD ?_ | refine qkA ?_ _)); exact BK102.out)) : gb102 ≠ gb103)); have n9_ := qO (Ne.symm n8_.out); clear BK101; clear BK102; clear HB; have BK101 := n0_; have BK102 := n1_; have HB := n2_; have BK103 := n3_; have GW103 := n4_; have GE103 := n5_; have NB101_103 := n6_; have NB103_101 := n7_; have NB102_103 := n8_; have NB103_102 := n9_; clear n0_ n1_ n2_ n3_ n4_ n5_ n6_ n7_ n8_ n9_; clear hx_; clear hb hbox hg; have hnb5 := NB101_102.out; have hnc5 := NB102_101.out; have hnb6 := NB101_103.out; have hnc6 := NB103_101.out; have hcz7_0 : w4.cell? ⟨gb101, 0, none⟩ = some (.int .i64 a0_0) := (blk_cell BK101.out 0).trans rfl; have hcz7_1 : w4.cell? ⟨gb101, 1, none⟩ = some (.int .i64 a0_1) := (blk_cell BK101.out 1).trans rfl; have hfz7_0 := blk_frozen BK101.out 0; have hfz7_1 := blk_frozen BK101.out 1; have hnb8 := NB103_102.out; have hnc8 := NB102_103.out; have hcz9_0 : w4.cell? ⟨gb103, 0, none⟩ = some (.int .i64 0) := (blk_cell BK103.out 0).trans rfl; have hcz9_1 : w4.cell? ⟨gb103, 1, none⟩ = some (.int .i64 0) := (blk_cell BK103.out 1).trans rfl; have hfz9_0 := blk_frozen BK103.out 0; have hfz9_1 := blk_frozen BK103.out 1; have hcz10_0 : w4.cell? ⟨gb102, 0, none⟩ = some (.int .i64 0) := (blk_cell BK102.out 0).trans rfl; have hcz10_1 : w4.cell? ⟨gb102, 1, none⟩ = some (.int .i64 0) := (blk_cell BK102.out 1).trans rfl; have hfz10_0 := blk_frozen BK102.out 0; have hfz10_1 := blk_frozen BK102.out 1))
 refine bodyPost_ret (results_cell_row rfl _ _ gb102 58 #[.int .i64 a0_0, .int .i64 a0_1] (0, 0) _ rfl qa46 Try.underlying58 rfl qa8) rfl ?_
 exact ⟨qa4, qa16⟩


def laws_toPutS.l0 : Nat → List (S76) → List (S58) → Int → Option ((List (S58)))
 | 0, _, _, _ => none
 | k + 1, x0, x3, x4 => if x4 < (x0.length : Int) then (if 0 ≤ x4 then ((laws_toPut.f ((rd_T76 x0 x4).f0) ((rd_T76 x0 x4).f1)).bind fun bt105 => (if x4 < (x3.length : Int) then (laws_toPutS.l0 k x0 (x3.set (x4 : Int).toNat (⟨bt105.1, bt105.2⟩ : S58)) (wrap64 (x4 + 1))) else (none))) else (none)) else (some x3)
def laws_toPutS.f (k : Nat) (l0 : List (S76)) : Option ((List (S58))) := if 0 ≤ (l0.length : Int) then (if ((l0.length : Int) : Int).toNat ≤ 17592186044416 then (laws_toPutS.l0 k l0 (List.replicate ((l0.length : Int) : Int).toNat z58) 0) else (none)) else (none)
set_option maxHeartbeats 8000000 in
set_option maxRecDepth 100000 in
theorem laws_toPutS.calls (k : Nat) (A0 : Option Addr) (c0 : Nat) (l0 : List (S76)) (r : List (S58)) (w : World) (hr0 : Kd.C k76 w A0 l0.length l0) (hc0 : l0.length ≤ c0) (h : laws_toPutS.f k l0 = some r) :
  Calls Try.prog 27 #[.slice A0 l0.length c0] w fun e w' => ∃ v0_ : Value, e = .returned (v0_) ∧ Kd.R k58 58 w' w.heap.size (fun _ => True) v0_ r ∧ Below w.heap.size w w' := by
 have hu76 := Try.underlying76; have hu58 := Try.underlying58; have HR0 := qO hr0; have HC0 := qO hc0; clear hr0 hc0; have HB := qO (Below.refl w.heap.size w); have H : (if 0 ≤ (l0.length : Int) then (if ((l0.length : Int) : Int).toNat ≤ 17592186044416 then (laws_toPutS.l0 k l0 (List.replicate ((l0.length : Int) : Int).toNat z58) 0) else (none)) else (none)) = some r := h; clear h
 by_cases c2 : 0 ≤ (l0.length : Int)
 ·rw [if_pos c2] at H
  have c2b0 := eq_true c2; have c2b1 : decide (0 ≤ (l0.length : Int)) = true := decide_eq_true c2; clear c2
  by_cases c3 : ((l0.length : Int) : Int).toNat ≤ 17592186044416
  ·rw [if_pos c3] at H
   have c3b0 := eq_true c3; have c3b1 : decide (((l0.length : Int) : Int).toNat ≤ 17592186044416) = true := decide_eq_true c3; clear c3; obtain ⟨y101, hy101⟩ : ∃ y_ : List (S58), y_ = (List.replicate ((l0.length : Int) : Int).toNat z58) := ⟨_, rfl⟩; replace H : (laws_toPutS.l0 k l0 y101 0) = some r := by first | (rw [hy101]; with_reducible exact H) | (have H2_ := (Option.bind_some _ _).symm.trans H; rw [hy101]; with_reducible exact H2_) | (have H2_ := (Option.bind_some _ _).symm.trans H; with_reducible exact H2_) | with_reducible exact H | (rw [hy101]; exact H) | exact H
   have Ny101 := qO hy101; clear hy101; have H' := qO H; clear H
   go_enter Try.func27, Try.ntmps27
   go_wp2_with (first | ((with_reducible refine gate_dst (N := 7) rfl ?_); refine Kd.R_make k58 _ 58 rfl (N := 7) rfl 51 _ _ rfl (l0.length : Int) rfl rfl Try.underlying51 (.agg #[(.int .i64 0), (.int .i64 0)]) 16 info58 rfl qa82 qa27 z58 (ok := fun _ => True) (okp := fun _ => True) (k58_mkM _ _ _ z58 ) (fun _ hk => hk) trivial (qT qa0) (Nat.le_trans (Nat.mul_le_mul_right _ (qT qa0 : (l0.length : Int).toNat ≤ 17592186044416)) qa27) (Below.refl _ _) (Nat.le_refl _) ?_; intro v102 w4 ho5 hb hg_ hnew_; clear hg_ hnew_; (first | rw [← Ny101.out] at ho5 | (simp only [Int.reduceToNat] at ho5; rw [← Ny101.out] at ho5)); have n0_ := qO (Kd.R_lower ho5 (below_size qa12)); have n1_ := qO (below_step qa12 hb); clear HB; have HO103 := n0_; have HB := n1_; clear n0_ n1_; clear hb ho5))
   go_loopg [4] k (fun kq v4 w' => ∃ (x3_1 : List (S58)) (x4_1 : Int), v4 = .int .i64 x4_1 ∧ Aside0 (laws_toPutS.l0 kq l0 x3_1 x4_1 = some r) ∧ Aside0 (kq ≤ k) ∧ Aside0 (Kd.R k58 58 w' w.heap.size (fun _ => True) v102 x3_1) ∧ Aside0 (Below w.heap.size w w'))
   case atStart => exact ⟨(y101), (0), qa9, H', ⟨Nat.le_refl _⟩, ⟨qa107⟩, ⟨qa12⟩⟩
   case round =>
    clear H'
    try clear c2
    try clear c2b0
    try clear c2b1
    try clear p2
    try clear c3
    try clear c3b0
    try clear c3b1
    obtain ⟨x3_1, x4_1, rfl, HA, HK1, HO_3, HB⟩ := hrel
    cases gk with
    | zero => exact absurd HA.out (by simp [laws_toPutS.l0])
    | succ k1 =>
     have H := HA.out; clear HA; simp only [laws_toPutS.l0] at H
     by_cases c6 : x4_1 < (l0.length : Int)
     ·rw [if_pos c6] at H
      have c6b0 : decide (x4_1 < (l0.length : Int)) = true := decide_eq_true c6; clear c6
      by_cases c7 : 0 ≤ x4_1
      ·rw [if_pos c7] at H
       have c7b0 : decide (0 ≤ x4_1) = true := decide_eq_true c7; clear c7; replace H := Option.bind_eq_some_iff.mp H; obtain ⟨⟨t105, t106⟩, A80, H⟩ := H; replace H : (if x4_1 < (x3_1.length : Int) then (laws_toPutS.l0 k1 l0 (x3_1.set (x4_1 : Int).toNat (⟨t105, t106⟩ : S58)) (wrap64 (x4_1 + 1))) else (none)) = some r := H; have A8 := qO A80; clear A80
       by_cases c9 : x4_1 < (x3_1.length : Int)
       ·rw [if_pos c9] at H
        have c9b0 : decide (x4_1 < (x3_1.length : Int)) = true := decide_eq_true c9; clear c9; obtain ⟨y107, hy107⟩ : ∃ y_ : List (S58), y_ = (x3_1.set (x4_1 : Int).toNat (⟨t105, t106⟩ : S58)) := ⟨_, rfl⟩; replace H : (laws_toPutS.l0 k1 l0 y107 (wrap64 (x4_1 + 1))) = some r := by first | (rw [hy107]; with_reducible exact H) | (have H2_ := (Option.bind_some _ _).symm.trans H; rw [hy107]; with_reducible exact H2_) | (have H2_ := (Option.bind_some _ _).symm.trans H; with_reducible exact H2_) | with_reducible exact H | (rw [hy107]; exact H) | exact H
        have Ny107 := qO hy107; clear hy107; have H' := qO H; clear H; have p104 : 0 ≤ (x4_1 : Int) := qT qa0; have q104 : x4_1 < (l0.length : Int) := qT qa0; obtain ⟨ad104, e104, hx104_0, hx104_1⟩ := at_T76 HR0.out x4_1 p104 q104
        cases e104
        replace hx104_0 := (HB.out.cell (qL w _ hx104_0)).trans hx104_0; replace hx104_1 := (HB.out.cell (qL w _ hx104_1)).trans hx104_1; replace p104 := eq_true p104; replace q104 := eq_true q104
        go_wp2_with (first | ((with_reducible refine gate_callee (f := 46) rfl ?_); refine goesL_ (some 20) rfl rfl Try.func46 qa8 rfl #[.agg #[.int .i64 ((rd_T76 l0 x4_1).f0), .int .i64 ((rd_T76 l0 x4_1).f1)]] rfl qa1 ?_; (with_reducible refine (laws_toPut.calls ((rd_T76 l0 x4_1).f0) ((rd_T76 l0 x4_1).f1) t105 t106 _ A8.out).mono ?_); rintro e w11 ⟨rfl, hb⟩; have hx_ := qHX HB hb qa2; refine ⟨_, rfl, ?_⟩; have n0_ := qO (Kd.R_below qa54 hb); have n1_ := qO (below_step (below_step HB.out hx_) hb); clear HO_3; clear HB; have HO_3 := n0_; have HB := n1_; clear n0_ n1_; clear hx_; (try clear hb); (try clear hb2); (try clear hk); (try clear hi); have p10 : 0 ≤ (x4_1 : Int) := qT qa0; have q10 : (x4_1 : Int) < ((x3_1.length : Int) : Int) := qT qa0; obtain ⟨go10, co10, eo10, gb10, gl10, cl10, HG10⟩ := Kd.R_form HO_3.out qa27; (first | cases eo10 | (injection eo10 with ea_ en_ ec_; (first | subst ea_ | (injection ea_ with ea_; subst ea_)); subst ec_; clear en_)); have GB10 := qO gb10; have GG10 := qO HG10; clear gb10 gl10 HG10; obtain ⟨ce10, hcl10, hM10, hcc10, hfr10⟩ := Kd.R_elem HO_3.out z58 (x4_1 : Int) p10 q10; obtain rfl := k58_openM hM10; have hx10_0 : w11.cell? ⟨go10, (x4_1 : Int).toNat * 2, none⟩ = some (.int .i64 ((rd_T58 x3_1 x4_1).f0)) := hcc10 0 _ rfl; have hx10_1 : w11.cell? ⟨go10, (x4_1 : Int).toNat * 2 + 1, none⟩ = some (.int .i64 ((rd_T58 x3_1 x4_1).f1)) := hcc10 1 _ rfl; have hf10_0 : w11.frozen? ⟨go10, (x4_1 : Int).toNat * 2, none⟩ = false := hfr10 0; have hf10_1 : w11.frozen? ⟨go10, (x4_1 : Int).toNat * 2 + 1, none⟩ = false := hfr10 1; clear hcl10 hcc10 hfr10; (try clear hM10); replace p10 := eq_true p10; replace q10 := eq_true q10; have HX12 := qO (show Kd.R k58 58 w11 w.heap.size (fun _ => True) (.slice (some ⟨go10, 0, none⟩) x3_1.length co10) x3_1 from qa54); obtain ⟨ce12, hcl12, hM12, hcc12, hfr12⟩ := Kd.R_elem HX12.out z58 (x4_1 : Int) (qT qa0) (by have h_ : (x4_1 : Int) < ((x3_1.length : Int) : Int) := qT qa0; first | exact h_ | (have e_ := (Kd.R_reads' HO_3.out).1; omega) | simpa using h_); obtain rfl := k58_openM hM12; have HP12 := Kd.R_seg HX12.out (x4_1 : Int) (qT qa0) (by have h_ : (x4_1 : Int) < ((x3_1.length : Int) : Int) := qT qa0; first | exact h_ | (have e_ := (Kd.R_reads' HO_3.out).1; omega) | simpa using h_) (seg := [.int .i64 t105, .int .i64 t106]) (j := 0) hcl12 hcc12 (show 2 ≤ 2 from by decide) (x' := (⟨t105, t106⟩ : S58)) (k58_mkM _ _ _ (⟨t105, t106⟩ : S58) ) (fun _ hk => hk); have hx12_0 := hcc12 0 _ rfl; (try simp only [show (k58).sz = 2 from rfl, Nat.mul_one, Nat.add_zero] at hx12_0); have hf12_0 := hfr12 0; (try simp only [show (k58).sz = 2 from rfl, Nat.mul_one, Nat.add_zero] at hf12_0); have hx12_1 := hcc12 1 _ rfl; (try simp only [show (k58).sz = 2 from rfl, Nat.mul_one, Nat.add_zero] at hx12_1); have hf12_1 := hfr12 1; (try simp only [show (k58).sz = 2 from rfl, Nat.mul_one, Nat.add_zero] at hf12_1); clear hcl12 hcc12 hfr12; (try clear hM12)) | ((with_reducible refine gate_store (t := 58) (p := 21) rfl ?_); refine store_event (t := 58) (p := 21) (v := ?vo_w13) (w1 := ((w11.setCell ⟨go10, (x4_1 : Int).toNat * 2, none⟩ (.int .i64 t105)).setCell ⟨go10, (x4_1 : Int).toNat * 2 + 1, none⟩ (.int .i64 t106))) ?hg ?ho ?hn ?hr ?_; (case ho => rfl); (case hg => rfl); (case hn => rfl); (case hr => exact qa15); intro w13 hw; have hg : w11.grownBy w13 (some go10) := (by rw [hw]; exact HP12.2); have hp_ : Kd.R k58 58 w13 w.heap.size (fun _ => True) (.slice (some ⟨go10, 0, none⟩) x3_1.length co10) y107 := (by rw [hw, Ny107.out]; exact HP12.1); clear HP12; have n0_ := qO (hp_); have n1_ := qO ((by rw [hw]; exact qbS (qbS (HB.out) GB10.out) GB10.out : Below w.heap.size w w13)); clear HO_3; clear HB; have HO_3 := n0_; have HB := n1_; clear n0_ n1_; clear hg hw hp_))
        go_roundg k1
        case measure => have := HK1.out; omega
        case rel => exact ⟨(y107), (wrap64 (x4_1 + 1)), qa9, H', ⟨qa89⟩, ⟨qa54⟩, ⟨qa12⟩⟩
       ·rw [if_neg c9] at H
        exact absurd H qa109
      ·rw [if_neg c7] at H
       exact absurd H qa109
     ·rw [if_neg c6] at H
      have c6b0 : decide (x4_1 < (l0.length : Int)) = false := decide_eq_false c6; clear c6; obtain rfl := Option.some.inj H; go_wp2
      go_ret
      exact ⟨_, qa4, qa54, qa12⟩
  ·rw [if_neg c3] at H
   exact absurd H qa109
 ·rw [if_neg c2] at H
  exact absurd H qa109


def laws_toIntS.l0 : Nat → List Int → List Int → Int → Option (List Int)
 | 0, _, _, _ => none
 | k + 1, x0, x3, x4 => if x4 < (x0.length : Int) then (if 0 ≤ x4 then (if x4 < (x3.length : Int) then (laws_toIntS.l0 k x0 (x3.set (x4 : Int).toNat (rd x0 x4)) (wrap64 (x4 + 1))) else (none)) else (none)) else (some x3)
def laws_toIntS.f (k : Nat) (l0 : List Int) : Option (List Int) := if 0 ≤ (l0.length : Int) then (if ((l0.length : Int) : Int).toNat ≤ 35184372088832 then (laws_toIntS.l0 k l0 (List.replicate ((l0.length : Int) : Int).toNat 0) 0) else (none)) else (none)
set_option maxHeartbeats 8000000 in
set_option maxRecDepth 100000 in
theorem laws_toIntS.calls (k : Nat) (A0 : Option Addr) (c0 : Nat) (l0 : List Int) (r : List Int) (w : World) (hr0 : Kd.C (Kd.int .i64) w A0 l0.length l0) (hc0 : l0.length ≤ c0) (h : laws_toIntS.f k l0 = some r) :
  Calls Try.prog 91 #[.slice A0 l0.length c0] w fun e w' => ∃ v0_ : Value, e = .returned (v0_) ∧ Kd.R (Kd.int .i64) 3 w' w.heap.size (fun _ => True) v0_ r ∧ Below w.heap.size w w' := by
 have HR0 := qO hr0; have HC0 := qO hc0; clear hr0 hc0; have HB := qO (Below.refl w.heap.size w); have H : (if 0 ≤ (l0.length : Int) then (if ((l0.length : Int) : Int).toNat ≤ 35184372088832 then (laws_toIntS.l0 k l0 (List.replicate ((l0.length : Int) : Int).toNat 0) 0) else (none)) else (none)) = some r := h; clear h
 by_cases c2 : 0 ≤ (l0.length : Int)
 ·rw [if_pos c2] at H
  have c2b0 := eq_true c2; have c2b1 : decide (0 ≤ (l0.length : Int)) = true := decide_eq_true c2; clear c2
  by_cases c3 : ((l0.length : Int) : Int).toNat ≤ 35184372088832
  ·rw [if_pos c3] at H
   have c3b0 := eq_true c3; have c3b1 : decide (((l0.length : Int) : Int).toNat ≤ 35184372088832) = true := decide_eq_true c3; clear c3; obtain ⟨y101, hy101⟩ : ∃ y_ : List Int, y_ = (List.replicate ((l0.length : Int) : Int).toNat 0) := ⟨_, rfl⟩; replace H : (laws_toIntS.l0 k l0 y101 0) = some r := by first | (rw [hy101]; with_reducible exact H) | (have H2_ := (Option.bind_some _ _).symm.trans H; rw [hy101]; with_reducible exact H2_) | (have H2_ := (Option.bind_some _ _).symm.trans H; with_reducible exact H2_) | with_reducible exact H | (rw [hy101]; exact H) | exact H
   have Ny101 := qO hy101; clear hy101; have H' := qO H; clear H
   go_enter Try.func91, Try.ntmps91
   go_wp2_with (first | ((with_reducible refine gate_dst (N := 7) rfl ?_); refine Kd.R_make (Kd.int .i64) _ 3 rfl (N := 7) rfl 60 _ _ rfl (l0.length : Int) rfl rfl Try.underlying60 (.int .i64 0) 8 info3 rfl qa82 qa27 0 (ok := fun _ => True) (okp := fun _ => True) rfl (fun _ hk => hk) trivial (qT qa0) (Nat.le_trans (Nat.mul_le_mul_right _ (qT qa0 : (l0.length : Int).toNat ≤ 35184372088832)) qa27) (Below.refl _ _) (Nat.le_refl _) ?_; intro v102 w4 ho5 hb hg_ hnew_; clear hg_ hnew_; (first | rw [← Ny101.out] at ho5 | (simp only [Int.reduceToNat] at ho5; rw [← Ny101.out] at ho5)); have n0_ := qO (Kd.R_lower ho5 (below_size qa12)); have n1_ := qO (below_step qa12 hb); clear HB; have HO103 := n0_; have HB := n1_; clear n0_ n1_; clear hb ho5))
   go_loopg [4] k (fun kq v4 w' => ∃ (x3_1 : List Int) (x4_1 : Int), v4 = .int .i64 x4_1 ∧ Aside0 (laws_toIntS.l0 kq l0 x3_1 x4_1 = some r) ∧ Aside0 (kq ≤ k) ∧ Aside0 (Kd.R (Kd.int .i64) 3 w' w.heap.size (fun _ => True) v102 x3_1) ∧ Aside0 (Below w.heap.size w w'))
   case atStart => exact ⟨(y101), (0), qa9, H', ⟨Nat.le_refl _⟩, ⟨qa107⟩, ⟨qa12⟩⟩
   case round =>
    clear H'
    try clear c2
    try clear c2b0
    try clear c2b1
    try clear p2
    try clear c3
    try clear c3b0
    try clear c3b1
    obtain ⟨x3_1, x4_1, rfl, HA, HK1, HO_3, HB⟩ := hrel
    cases gk with
    | zero => exact absurd HA.out (by simp [laws_toIntS.l0])
    | succ k1 =>
     have H := HA.out; clear HA; simp only [laws_toIntS.l0] at H
     by_cases c6 : x4_1 < (l0.length : Int)
     ·rw [if_pos c6] at H
      have c6b0 : decide (x4_1 < (l0.length : Int)) = true := decide_eq_true c6; clear c6
      by_cases c7 : 0 ≤ x4_1
      ·rw [if_pos c7] at H
       have c7b0 : decide (0 ≤ x4_1) = true := decide_eq_true c7; clear c7
       by_cases c8 : x4_1 < (x3_1.length : Int)
       ·rw [if_pos c8] at H
        have c8b0 : decide (x4_1 < (x3_1.length : Int)) = true := decide_eq_true c8; clear c8; obtain ⟨y105, hy105⟩ : ∃ y_ : List Int, y_ = (x3_1.set (x4_1 : Int).toNat (rd l0 x4_1)) := ⟨_, rfl⟩; replace H : (laws_toIntS.l0 k1 l0 y105 (wrap64 (x4_1 + 1))) = some r := by first | (rw [hy105]; with_reducible exact H) | (have H2_ := (Option.bind_some _ _).symm.trans H; rw [hy105]; with_reducible exact H2_) | (have H2_ := (Option.bind_some _ _).symm.trans H; with_reducible exact H2_) | with_reducible exact H | (rw [hy105]; exact H) | exact H
        have Ny105 := qO hy105; clear hy105; have H' := qO H; clear H; have p104 : 0 ≤ (x4_1 : Int) := qT qa0; have q104 : x4_1 < (l0.length : Int) := qT qa0; obtain ⟨ad104, e104, hx104_0⟩ := Kd.at_int HR0.out x4_1 p104 q104
        cases e104
        replace hx104_0 := (HB.out.cell (qL w _ hx104_0)).trans hx104_0; replace p104 := eq_true p104; replace q104 := eq_true q104; have p9 : 0 ≤ (x4_1 : Int) := qT qa0; have q9 : (x4_1 : Int) < ((x3_1.length : Int) : Int) := qT qa0; obtain ⟨go9, co9, eo9, gb9, gl9, cl9, HG9⟩ := Kd.R_form HO_3.out qa27; (first | cases eo9 | (injection eo9 with ea_ en_ ec_; (first | subst ea_ | (injection ea_ with ea_; subst ea_)); subst ec_; clear en_)); have GB9 := qO gb9; have GG9 := qO HG9; clear gb9 gl9 HG9; obtain ⟨hx9_0, hf9_0⟩ := Kd.R_celln 0 HO_3.out (x4_1 : Int) p9 q9; replace p9 := eq_true p9; replace q9 := eq_true q9; have HP10 := Kd.R_putg HO_3.out (x4_1 : Int) (rd l0 x4_1)
        go_wp2_with (first | ((with_reducible refine gate_store (t := 3) (p := 20) rfl ?_); refine store_event (t := 3) (p := 20) (v := ?vo_w11) (w1 := (wr.setCell ⟨go9, (x4_1 : Int).toNat, none⟩ (.int .i64 (rd l0 x4_1)))) ?hg ?ho ?hn ?hr ?_; (case ho => rfl); (case hg => rfl); (case hn => rfl); (case hr => exact qa15); intro w11 hw; have hg : wr.grownBy w11 (some go9) := (by rw [hw]; exact HP10.2); have hp_ : Kd.R (Kd.int .i64) 3 w11 w.heap.size (fun _ => True) (.slice (some ⟨go9, 0, none⟩) x3_1.length co9) y105 := (by rw [hw, Ny105.out]; exact HP10.1); clear HP10; have n0_ := qO (hp_); have n1_ := qO ((by rw [hw]; exact qbS (HB.out) GB9.out : Below w.heap.size w w11)); clear HO_3; clear HB; have HO_3 := n0_; have HB := n1_; clear n0_ n1_; clear hg hw hp_))
        go_roundg k1
        case measure => have := HK1.out; omega
        case rel => exact ⟨(y105), (wrap64 (x4_1 + 1)), qa9, H', ⟨qa89⟩, ⟨qa54⟩, ⟨qa12⟩⟩
       ·rw [if_neg c8] at H
        exact absurd H qa109
      ·rw [if_neg c7] at H
       exact absurd H qa109
     ·rw [if_neg c6] at H
      have c6b0 : decide (x4_1 < (l0.length : Int)) = false := decide_eq_false c6; clear c6; obtain rfl := Option.some.inj H; go_wp2
      go_ret
      exact ⟨_, qa4, qa54, qa12⟩
  ·rw [if_neg c3] at H
   exact absurd H qa109
 ·rw [if_neg c2] at H
  exact absurd H qa109


def laws_toTxn.f (k : Nat) (a0_0 : Int) (l0_1 : List Int) (l0_2 : List (S76)) : Option (Int × List Int × (List (S58))) := (laws_toIntS.f k l0_1).bind fun t104 => ((laws_toPutS.f k l0_2).bind fun t107 => (some (a0_0, t104, t107)))
set_option maxHeartbeats 8000000 in
set_option maxRecDepth 100000 in
theorem laws_toTxn.calls (k : Nat) (a0_0 : Int) (A0_1 : Option Addr) (c0_1 : Nat) (l0_1 : List Int) (A0_2 : Option Addr) (c0_2 : Nat) (l0_2 : List (S76)) (r1 : Int) (r2 : List Int) (r3 : List (S58)) (w : World) (hr0_1 : Kd.C (Kd.int .i64) w A0_1 l0_1.length l0_1) (hc0_1 : l0_1.length ≤ c0_1) (hr0_2 : Kd.C k76 w A0_2 l0_2.length l0_2) (hc0_2 : l0_2.length ≤ c0_2) (h : laws_toTxn.f k a0_0 l0_1 l0_2 = some (r1, r2, r3)) :
  Calls Try.prog 45 #[.agg #[.int .i64 a0_0, .slice A0_1 l0_1.length c0_1, .slice A0_2 l0_2.length c0_2]] w fun e w' => ∃ v1_ v2_ : Value, e = .returned (.agg #[.int .i64 r1, v1_, v2_]) ∧ Kd.R (Kd.int .i64) 3 w' w.heap.size (fun _ => True) v1_ r2 ∧ Kd.R k58 58 w' w.heap.size (fun _ => True) v2_ r3 ∧ Below w.heap.size w w' := by
 have hu75 := Try.underlying75; have hu65 := Try.underlying65; have HR0_1 := qO hr0_1; have HC0_1 := qO hc0_1; clear hr0_1 hc0_1; have HR0_2 := qO hr0_2; have HC0_2 := qO hc0_2; clear hr0_2 hc0_2; have HB := qO (Below.refl w.heap.size w); have H : ((laws_toIntS.f k l0_1).bind fun t104 => ((laws_toPutS.f k l0_2).bind fun t107 => (some (a0_0, t104, t107)))) = some (r1, r2, r3) := h; clear h; replace H := Option.bind_eq_some_iff.mp H; obtain ⟨t104, A20, H⟩ := H; replace H : ((laws_toPutS.f k l0_2).bind fun t107 => (some (a0_0, t104, t107))) = some (r1, r2, r3) := H; have A2 := qO A20; clear A20; replace H := Option.bind_eq_some_iff.mp H; obtain ⟨t107, A30, H⟩ := H; replace H : (some (a0_0, t104, t107)) = some (r1, r2, r3) := H; have A3 := qO A30; clear A30; simp only [Option.some.injEq, Prod.mk.injEq] at H; obtain ⟨rfl, rfl, rfl⟩ := H
 go_enter Try.func45, Try.ntmps45
 go_wp2_with (first | ((with_reducible refine gate_dst (N := 1) rfl ?_); refine box_event ?hg (N := 1) ?hd (cs := #[.int .i64 a0_0, .slice A0_1 l0_1.length c0_1, .slice A0_2 l0_2.length c0_2]) (t := 75) ?hr ?_; (case hd => rfl); (case hg => rfl); (case hr => exact qa15); intro gb101 hg w4 hbox hb; have hx_ := qHX HB hb qa2; have n0_ := qO (below_step (below_step HB.out hx_) hb); have n1_ := qO (hbox); have n2_ := qO ((qa17 : w.heap.size ≤ gb101)); have n3_ := n2_; clear HB; have HB := n0_; have BK101 := n1_; have GW101 := n2_; have GE101 := n3_; clear n0_ n1_ n2_ n3_; clear hx_; clear hb hbox hg) | ((with_reducible refine gate_dst (N := 2) rfl ?_); refine box_event ?hg (N := 2) ?hd (cs := #[.int .i64 0, .slice none 0 0, .slice none 0 0]) (t := 65) ?hr ?_; (case hd => rfl); (case hg => rfl); (case hr => exact qa15); intro gb102 hg w5 hbox hb; have hx_ := qHX HB hb qa2; have n0_ := qO (qB BK101.out hx_ hb); have n1_ := qO (below_step (below_step HB.out hx_) hb); have n2_ := qO (hbox); have n3_ := qO ((qa17 : w.heap.size ≤ gb102)); have n4_ := n3_; have n5_ := qO ((qa85 : gb101 ≠ gb102)); have n6_ := qO (Ne.symm n5_.out); clear BK101; clear HB; have BK101 := n0_; have HB := n1_; have BK102 := n2_; have GW102 := n3_; have GE102 := n4_; have NB101_102 := n5_; have NB102_101 := n6_; clear n0_ n1_ n2_ n3_ n4_ n5_ n6_; clear hx_; clear hb hbox hg) | ((with_reducible refine gate_dst (N := 3) rfl ?_); refine box_event ?hg (N := 3) ?hd (cs := #[.int .i64 0, .slice none 0 0, .slice none 0 0]) (t := 65) ?hr ?_; (case hd => rfl); (case hg => rfl); (case hr => exact qa15); intro gb103 hg w6 hbox hb; have hx_ := qHX HB hb qa2; have n0_ := qO (qB BK101.out hx_ hb); have n1_ := qO (qB BK102.out hx_ hb); have n2_ := qO (below_step (below_step HB.out hx_) hb); have n3_ := qO (hbox); have n4_ := qO ((qa17 : w.heap.size ≤ gb103)); have n5_ := n4_; have n6_ := qO ((qa85 : gb101 ≠ gb103)); have n7_ := qO (Ne.symm n6_.out); have n8_ := qO ((by rw [hg]; exact Nat.ne_of_lt (blk_lt (g := gb102) (o := .cells #[.int .i64 0, .slice none 0 0, .slice none 0 0] 65 (0, 0)) (by (with_reducible repeat (first | refine qkN ?_ _ | refine qkD ?_ | refine qkA ?_ _)); exact BK102.out)) : gb102 ≠ gb103)); have n9_ := qO (Ne.symm n8_.out); clear BK101; clear BK102; clear HB; have BK101 := n0_; have BK102 := n1_; have HB := n2_; have BK103 := n3_; have GW103 := n4_; have GE103 := n5_; have NB101_103 := n6_; have NB103_101 := n7_; have NB102_103 := n8_; have NB103_102 := n9_; clear n0_ n1_ n2_ n3_ n4_ n5_ n6_ n7_ n8_ n9_; clear hx_; clear hb hbox hg; have hnb7 := NB101_102.out; have hnc7 := NB102_101.out; have hnb8 := NB101_103.out; have hnc8 := NB103_101.out; have hcz9_0 : w6.cell? ⟨gb101, 0, none⟩ = some (.int .i64 a0_0) := (blk_cell BK101.out 0).trans rfl; have hcz9_1 : w6.cell? ⟨gb101, 1, none⟩ = some (.slice A0_1 l0_1.length c0_1) := (blk_cell BK101.out 1).trans rfl; have hcz9_2 : w6.cell? ⟨gb101, 2, none⟩ = some (.slice A0_2 l0_2.length c0_2) := (blk_cell BK101.out 2).trans rfl; have hfz9_0 := blk_frozen BK101.out 0; have hfz9_1 := blk_frozen BK101.out 1; have hfz9_2 := blk_frozen BK101.out 2; have hnb10 := NB103_102.out; have hnc10 := NB102_103.out; have hcz11_0 : w6.cell? ⟨gb103, 0, none⟩ = some (.int .i64 0) := (blk_cell BK103.out 0).trans rfl; have hcz11_1 : w6.cell? ⟨gb103, 1, none⟩ = some (.slice none 0 0) := (blk_cell BK103.out 1).trans rfl; have hcz11_2 : w6.cell? ⟨gb103, 2, none⟩ = some (.slice none 0 0) := (blk_cell BK103.out 2).trans rfl; have hfz11_0 := blk_frozen BK103.out 0; have hfz11_1 := blk_frozen BK103.out 1; have hfz11_2 := blk_frozen BK103.out 2) | ((with_reducible refine gate_callee (f := 91) rfl ?_); refine goesL_ (some 9) rfl rfl Try.func91 qa8 rfl #[.slice A0_1 l0_1.length c0_1] rfl qa1 ?_; (with_reducible refine (laws_toIntS.calls k _ _ l0_1 t104 _ ?side1 ?side2 A2.out).mono ?_); (case side1 => exact Kd.C_below HR0_1.out (by repeat (first | (with_reducible first | exact HB.out | apply qbA | apply qbN | apply qbD | refine qbS ?_ GE101.out | refine qbS ?_ GE102.out | refine qbS ?_ GE103.out) | exact HB.out))); (case side2 => exact HC0_1.out); rintro e w12 ⟨v105, rfl, ho0, hb⟩; refine ⟨_, rfl, ?_⟩; have n0_ := qO (Kd.R_lower ho0 (below_size qa16)); have n1_ := qO (blk_below (g := gb101) (o := .cells #[.int .i64 a0_0, .slice A0_1 l0_1.length c0_1, .slice A0_2 l0_2.length c0_2] 75 (0, 0)) qa92 hb); have n2_ := qO (blk_below (g := gb102) (o := .cells #[.int .i64 0, .slice none 0 0, .slice none 0 0] 65 (0, 0)) qa93 hb); have n3_ := qO (blk_below (g := gb103) (o := .cells #[.int .i64 a0_0, .slice none 0 0, .slice none 0 0] 65 (0, 0)) (by (with_reducible repeat (first | refine qkN ?_ _ | refine qkD ?_ | refine qkA ?_ _)); refine blk_put (cs := #[.int .i64 0, .slice none 0 0, .slice none 0 0]) ?_ 0 _ rfl; (with_reducible repeat (first | refine qkN ?_ _ | refine qkD ?_ | refine qkA ?_ _)); exact BK103.out) hb); have n4_ := qO (below_step qa16 hb); clear BK101; clear BK102; clear BK103; clear HB; have HO106 := n0_; have BK101 := n1_; have BK102 := n2_; have BK103 := n3_; have HB := n4_; clear n0_ n1_ n2_ n3_ n4_; (try clear hb); (try clear hb2); (try clear hk); (try clear hi); (try clear ho0); obtain ⟨Ao13, co13, eo13⟩ := Kd.R_slice HO106.out; subst eo13; have hcz14_0 : w12.cell? ⟨gb103, 0, none⟩ = some (.int .i64 a0_0) := (blk_cell BK103.out 0).trans rfl; have hcz14_1 : w12.cell? ⟨gb103, 1, none⟩ = some (.slice none 0 0) := (blk_cell BK103.out 1).trans rfl; have hcz14_2 : w12.cell? ⟨gb103, 2, none⟩ = some (.slice none 0 0) := (blk_cell BK103.out 2).trans rfl; have hfz14_0 := blk_frozen BK103.out 0; have hfz14_1 := blk_frozen BK103.out 1; have hfz14_2 := blk_frozen BK103.out 2; have hcz15_0 : w12.cell? ⟨gb101, 0, none⟩ = some (.int .i64 a0_0) := (blk_cell BK101.out 0).trans rfl; have hcz15_1 : w12.cell? ⟨gb101, 1, none⟩ = some (.slice A0_1 l0_1.length c0_1) := (blk_cell BK101.out 1).trans rfl; have hcz15_2 : w12.cell? ⟨gb101, 2, none⟩ = some (.slice A0_2 l0_2.length c0_2) := (blk_cell BK101.out 2).trans rfl; have hfz15_0 := blk_frozen BK101.out 0; have hfz15_1 := blk_frozen BK101.out 1; have hfz15_2 := blk_frozen BK101.out 2) | ((with_reducible refine gate_callee (f := 27) rfl ?_); refine goesL_ (some 13) rfl rfl Try.func27 qa8 rfl #[.slice A0_2 l0_2.length c0_2] rfl qa1 ?_; (with_reducible refine (laws_toPutS.calls k _ _ l0_2 t107 _ ?side1 ?side2 A3.out).mono ?_); (case side1 => exact Kd.C_below HR0_2.out (by repeat (first | (with_reducible first | exact HB.out | apply qbA | apply qbN | apply qbD | refine qbS ?_ GE101.out | refine qbS ?_ GE102.out | refine qbS ?_ GE103.out) | exact HB.out))); (case side2 => exact HC0_2.out); rintro e w16 ⟨v108, rfl, ho0, hb⟩; refine ⟨_, rfl, ?_⟩; have n0_ := qO (Kd.R_below (by (with_reducible repeat (first | apply Kd.R_alloc | apply Kd.R_drewN | apply Kd.R_drew)); exact (Kd.R_mono (Kd.R_far (p := ⟨gb103, 1, none⟩) (Kd.R_types HO106.out BK103.out (by decide)) (fun _ hk => hk.2) (.slice Ao13 t104.length co13)) (fun _ h_ => h_.1))) hb); have n1_ := qO (Kd.R_lower ho0 (below_size qa16)); have n2_ := qO (blk_below (g := gb101) (o := .cells #[.int .i64 a0_0, .slice A0_1 l0_1.length c0_1, .slice A0_2 l0_2.length c0_2] 75 (0, 0)) qa92 hb); have n3_ := qO (blk_below (g := gb102) (o := .cells #[.int .i64 0, .slice none 0 0, .slice none 0 0] 65 (0, 0)) qa93 hb); have n4_ := qO (blk_below (g := gb103) (o := .cells #[.int .i64 a0_0, .slice Ao13 t104.length co13, .slice none 0 0] 65 (0, 0)) (by (with_reducible repeat (first | refine qkN ?_ _ | refine qkD ?_ | refine qkA ?_ _)); refine blk_put (cs := #[.int .i64 a0_0, .slice none 0 0, .slice none 0 0]) ?_ 1 _ rfl; (with_reducible repeat (first | refine qkN ?_ _ | refine qkD ?_ | refine qkA ?_ _)); exact BK103.out) hb); have n5_ := qO (below_step qa16 hb); clear HO106; clear BK101; clear BK102; clear BK103; clear HB; have HO106 := n0_; have HO109 := n1_; have BK101 := n2_; have BK102 := n3_; have BK103 := n4_; have HB := n5_; clear n0_ n1_ n2_ n3_ n4_ n5_; (try clear hb); (try clear hb2); (try clear hk); (try clear hi); (try clear ho0); obtain ⟨Ao17, co17, eo17⟩ := Kd.R_slice HO109.out; subst eo17; have hcz18_0 : w16.cell? ⟨gb103, 0, none⟩ = some (.int .i64 a0_0) := (blk_cell BK103.out 0).trans rfl; have hcz18_1 : w16.cell? ⟨gb103, 1, none⟩ = some (.slice Ao13 t104.length co13) := (blk_cell BK103.out 1).trans rfl; have hcz18_2 : w16.cell? ⟨gb103, 2, none⟩ = some (.slice none 0 0) := (blk_cell BK103.out 2).trans rfl; have hfz18_0 := blk_frozen BK103.out 0; have hfz18_1 := blk_frozen BK103.out 1; have hfz18_2 := blk_frozen BK103.out 2; have hcz19_0 : w16.cell? ⟨gb102, 0, none⟩ = some (.int .i64 0) := (blk_cell BK102.out 0).trans rfl; have hcz19_1 : w16.cell? ⟨gb102, 1, none⟩ = some (.slice none 0 0) := (blk_cell BK102.out 1).trans rfl; have hcz19_2 : w16.cell? ⟨gb102, 2, none⟩ = some (.slice none 0 0) := (blk_cell BK102.out 2).trans rfl; have hfz19_0 := blk_frozen BK102.out 0; have hfz19_1 := blk_frozen BK102.out 1; have hfz19_2 := blk_frozen BK102.out 2))
 refine bodyPost_ret (results_cell_row rfl _ _ gb102 65 #[.int .i64 a0_0, .slice Ao13 t104.length co13, .slice Ao17 t107.length co17] (0, 0) _ rfl (by (with_reducible repeat (first | refine qkN ?_ _ | refine qkD ?_ | refine qkA ?_ _)); refine blk_put (cs := #[.int .i64 a0_0, .slice Ao13 t104.length co13, .slice none 0 0]) ?_ 2 _ rfl; (with_reducible repeat (first | refine qkN ?_ _ | refine qkD ?_ | refine qkA ?_ _)); refine blk_put (cs := #[.int .i64 a0_0, .slice none 0 0, .slice none 0 0]) ?_ 1 _ rfl; (with_reducible repeat (first | refine qkN ?_ _ | refine qkD ?_ | refine qkA ?_ _)); refine blk_put (cs := #[.int .i64 0, .slice none 0 0, .slice none 0 0]) ?_ 0 _ rfl; (with_reducible repeat (first | refine qkN ?_ _ | refine qkD ?_ | refine qkA ?_ _)); refine blk_far ?_ NB102_103.out _; (with_reducible repeat (first | refine qkN ?_ _ | refine qkD ?_ | refine qkA ?_ _)); exact BK102.out) Try.underlying65 rfl qa8) rfl ?_
 exact ⟨_, _, qa4, by (with_reducible repeat (first | apply Kd.R_alloc | apply Kd.R_drewN | apply Kd.R_drew)); exact Kd.R_mono (Kd.R_far (p := ⟨gb102, 2, none⟩) (Kd.R_far (p := ⟨gb102, 1, none⟩) (Kd.R_far (p := ⟨gb102, 0, none⟩) (Kd.R_far (p := ⟨gb103, 2, none⟩) (Kd.R_types (Kd.R_types HO106.out BK103.out (by decide)) BK102.out (by decide)) (fun _ hk => hk.1.2) (.slice Ao17 t107.length co17)) (fun _ hk => hk.2) (.int .i64 a0_0)) (fun _ hk => hk.2) (.slice Ao13 t104.length co13)) (fun _ hk => hk.2) (.slice Ao17 t107.length co17)) (fun _ hk => trivial), by (with_reducible repeat (first | apply Kd.R_alloc | apply Kd.R_drewN | apply Kd.R_drew)); exact Kd.R_mono (Kd.R_far (p := ⟨gb102, 2, none⟩) (Kd.R_far (p := ⟨gb102, 1, none⟩) (Kd.R_far (p := ⟨gb102, 0, none⟩) (Kd.R_far (p := ⟨gb103, 2, none⟩) (Kd.R_types (Kd.R_types HO109.out BK103.out (by decide)) BK102.out (by decide)) (fun _ hk => hk.1.2) (.slice Ao17 t107.length co17)) (fun _ hk => hk.2) (.int .i64 a0_0)) (fun _ hk => hk.2) (.slice Ao13 t104.length co13)) (fun _ hk => hk.2) (.slice Ao17 t107.length co17)) (fun _ hk => trivial), qa16⟩


def laws_eqPut.f (a0_0 : Int) (a0_1 : Int) (a1_0 : Int) (a1_1 : Int) : Option (Bool) := if a0_0 = a1_0 then (if a0_1 = a1_1 then (some true) else (some false)) else (some false)
set_option maxHeartbeats 8000000 in
set_option maxRecDepth 100000 in
theorem laws_eqPut.calls (a0_0 : Int) (a0_1 : Int) (a1_0 : Int) (a1_1 : Int) (r : Bool) (w : World) (h : laws_eqPut.f a0_0 a0_1 a1_0 a1_1 = some r) :
  Calls Try.prog 77 #[.agg #[.int .i64 a0_0, .int .i64 a0_1], .agg #[.int .i64 a1_0, .int .i64 a1_1]] w fun e w' => e = .returned (.bool r) ∧ Below w.heap.size w w' := by
 have hu58 := Try.underlying58; have HB := qO (Below.refl w.heap.size w); have H : (if a0_0 = a1_0 then (if a0_1 = a1_1 then (some true) else (some false)) else (some false)) = some r := h; clear h
 by_cases c3 : a0_0 = a1_0
 ·rw [if_pos c3] at H
  have c3b0 : (a0_0 == a1_0) = true := beq_iff_eq.mpr c3; have c3b1 : (a0_0 != a1_0) = false := bne_eq_false_iff_eq.mpr c3; clear c3
  by_cases c4 : a0_1 = a1_1
  ·rw [if_pos c4] at H
   have c4b0 : (a0_1 == a1_1) = true := beq_iff_eq.mpr c4; have c4b1 : (a0_1 != a1_1) = false := bne_eq_false_iff_eq.mpr c4; clear c4; obtain rfl := Option.some.inj H
   go_enter Try.func77, Try.ntmps77
   go_wp2_with (first | ((with_reducible refine gate_dst (N := 2) rfl ?_); refine box_event ?hg (N := 2) ?hd (cs := #[.int .i64 a0_0, .int .i64 a0_1]) (t := 58) ?hr ?_; (case hd => rfl); (case hg => rfl); (case hr => exact qa15); intro gb101 hg w5 hbox hb; have hx_ := qHX HB hb qa2; have n0_ := qO (below_step (below_step HB.out hx_) hb); have n1_ := qO (hbox); have n2_ := qO ((qa17 : w.heap.size ≤ gb101)); have n3_ := n2_; clear HB; have HB := n0_; have BK101 := n1_; have GW101 := n2_; have GE101 := n3_; clear n0_ n1_ n2_ n3_; clear hx_; clear hb hbox hg) | ((with_reducible refine gate_dst (N := 3) rfl ?_); refine box_event ?hg (N := 3) ?hd (cs := #[.int .i64 a1_0, .int .i64 a1_1]) (t := 58) ?hr ?_; (case hd => rfl); (case hg => rfl); (case hr => exact qa15); intro gb102 hg w6 hbox hb; have hx_ := qHX HB hb qa2; have n0_ := qO (qB BK101.out hx_ hb); have n1_ := qO (below_step (below_step HB.out hx_) hb); have n2_ := qO (hbox); have n3_ := qO ((qa17 : w.heap.size ≤ gb102)); have n4_ := n3_; have n5_ := qO ((qa76 : gb101 ≠ gb102)); have n6_ := qO (Ne.symm n5_.out); clear BK101; clear HB; have BK101 := n0_; have HB := n1_; have BK102 := n2_; have GW102 := n3_; have GE102 := n4_; have NB101_102 := n5_; have NB102_101 := n6_; clear n0_ n1_ n2_ n3_ n4_ n5_ n6_; clear hx_; clear hb hbox hg; have hnb7 := NB101_102.out; have hnc7 := NB102_101.out; have hcz8_0 : w6.cell? ⟨gb101, 0, none⟩ = some (.int .i64 a0_0) := (blk_cell BK101.out 0).trans rfl; have hcz8_1 : w6.cell? ⟨gb101, 1, none⟩ = some (.int .i64 a0_1) := (blk_cell BK101.out 1).trans rfl; have hfz8_0 := blk_frozen BK101.out 0; have hfz8_1 := blk_frozen BK101.out 1; have hcz9_0 : w6.cell? ⟨gb102, 0, none⟩ = some (.int .i64 a1_0) := (blk_cell BK102.out 0).trans rfl; have hcz9_1 : w6.cell? ⟨gb102, 1, none⟩ = some (.int .i64 a1_1) := (blk_cell BK102.out 1).trans rfl; have hfz9_0 := blk_frozen BK102.out 0; have hfz9_1 := blk_frozen BK102.out 1))
   go_ret
   exact ⟨qa4, qa5⟩
  ·rw [if_neg c4] at H
   have c4b0 : (a0_1 == a1_1) = false := beq_eq_false_iff_ne.mpr c4; have c4b1 : (a0_1 != a1_1) = true := bne_iff_ne.mpr c4; obtain rfl := Option.some.inj H
   go_enter Try.func77, Try.ntmps77
   go_wp2_with (first | ((with_reducible refine gate_dst (N := 2) rfl ?_); refine box_event ?hg (N := 2) ?hd (cs := #[.int .i64 a0_0, .int .i64 a0_1]) (t := 58) ?hr ?_; (case hd => rfl); (case hg => rfl); (case hr => exact qa15); intro gb101 hg w10 hbox hb; have hx_ := qHX HB hb qa2; have n0_ := qO (below_step (below_step HB.out hx_) hb); have n1_ := qO (hbox); have n2_ := qO ((qa17 : w.heap.size ≤ gb101)); have n3_ := n2_; clear HB; have HB := n0_; have BK101 := n1_; have GW101 := n2_; have GE101 := n3_; clear n0_ n1_ n2_ n3_; clear hx_; clear hb hbox hg) | ((with_reducible refine gate_dst (N := 3) rfl ?_); refine box_event ?hg (N := 3) ?hd (cs := #[.int .i64 a1_0, .int .i64 a1_1]) (t := 58) ?hr ?_; (case hd => rfl); (case hg => rfl); (case hr => exact qa15); intro gb102 hg w11 hbox hb; have hx_ := qHX HB hb qa2; have n0_ := qO (qB BK101.out hx_ hb); have n1_ := qO (below_step (below_step HB.out hx_) hb); have n2_ := qO (hbox); have n3_ := qO ((qa17 : w.heap.size ≤ gb102)); have n4_ := n3_; have n5_ := qO ((qa76 : gb101 ≠ gb102)); have n6_ := qO (Ne.symm n5_.out); clear BK101; clear HB; have BK101 := n0_; have HB := n1_; have BK102 := n2_; have GW102 := n3_; have GE102 := n4_; have NB101_102 := n5_; have NB102_101 := n6_; clear n0_ n1_ n2_ n3_ n4_ n5_ n6_; clear hx_; clear hb hbox hg; have hnb12 := NB101_102.out; have hnc12 := NB102_101.out; have hcz13_0 : w11.cell? ⟨gb101, 0, none⟩ = some (.int .i64 a0_0) := (blk_cell BK101.out 0).trans rfl; have hcz13_1 : w11.cell? ⟨gb101, 1, none⟩ = some (.int .i64 a0_1) := (blk_cell BK101.out 1).trans rfl; have hfz13_0 := blk_frozen BK101.out 0; have hfz13_1 := blk_frozen BK101.out 1; have hcz14_0 : w11.cell? ⟨gb102, 0, none⟩ = some (.int .i64 a1_0) := (blk_cell BK102.out 0).trans rfl; have hcz14_1 : w11.cell? ⟨gb102, 1, none⟩ = some (.int .i64 a1_1) := (blk_cell BK102.out 1).trans rfl; have hfz14_0 := blk_frozen BK102.out 0; have hfz14_1 := blk_frozen BK102.out 1))
   go_ret
   exact ⟨qa4, qa5⟩
 ·rw [if_neg c3] at H
  have c3b0 : (a0_0 == a1_0) = false := beq_eq_false_iff_ne.mpr c3; have c3b1 : (a0_0 != a1_0) = true := bne_iff_ne.mpr c3; obtain rfl := Option.some.inj H
  go_enter Try.func77, Try.ntmps77
  go_wp2_with (first | ((with_reducible refine gate_dst (N := 2) rfl ?_); refine box_event ?hg (N := 2) ?hd (cs := #[.int .i64 a0_0, .int .i64 a0_1]) (t := 58) ?hr ?_; (case hd => rfl); (case hg => rfl); (case hr => exact qa15); intro gb101 hg w15 hbox hb; have hx_ := qHX HB hb qa2; have n0_ := qO (below_step (below_step HB.out hx_) hb); have n1_ := qO (hbox); have n2_ := qO ((qa17 : w.heap.size ≤ gb101)); have n3_ := n2_; clear HB; have HB := n0_; have BK101 := n1_; have GW101 := n2_; have GE101 := n3_; clear n0_ n1_ n2_ n3_; clear hx_; clear hb hbox hg) | ((with_reducible refine gate_dst (N := 3) rfl ?_); refine box_event ?hg (N := 3) ?hd (cs := #[.int .i64 a1_0, .int .i64 a1_1]) (t := 58) ?hr ?_; (case hd => rfl); (case hg => rfl); (case hr => exact qa15); intro gb102 hg w16 hbox hb; have hx_ := qHX HB hb qa2; have n0_ := qO (qB BK101.out hx_ hb); have n1_ := qO (below_step (below_step HB.out hx_) hb); have n2_ := qO (hbox); have n3_ := qO ((qa17 : w.heap.size ≤ gb102)); have n4_ := n3_; have n5_ := qO ((qa76 : gb101 ≠ gb102)); have n6_ := qO (Ne.symm n5_.out); clear BK101; clear HB; have BK101 := n0_; have HB := n1_; have BK102 := n2_; have GW102 := n3_; have GE102 := n4_; have NB101_102 := n5_; have NB102_101 := n6_; clear n0_ n1_ n2_ n3_ n4_ n5_ n6_; clear hx_; clear hb hbox hg; have hnb17 := NB101_102.out; have hnc17 := NB102_101.out; have hcz18_0 : w16.cell? ⟨gb101, 0, none⟩ = some (.int .i64 a0_0) := (blk_cell BK101.out 0).trans rfl; have hcz18_1 : w16.cell? ⟨gb101, 1, none⟩ = some (.int .i64 a0_1) := (blk_cell BK101.out 1).trans rfl; have hfz18_0 := blk_frozen BK101.out 0; have hfz18_1 := blk_frozen BK101.out 1; have hcz19_0 : w16.cell? ⟨gb102, 0, none⟩ = some (.int .i64 a1_0) := (blk_cell BK102.out 0).trans rfl; have hcz19_1 : w16.cell? ⟨gb102, 1, none⟩ = some (.int .i64 a1_1) := (blk_cell BK102.out 1).trans rfl; have hfz19_0 := blk_frozen BK102.out 0; have hfz19_1 := blk_frozen BK102.out 1))
  go_ret
  exact ⟨qa4, qa5⟩


def laws_eqPutS.l0 : Nat → List (S58) → List (S58) → Int → Option (Bool)
 | 0, _, _, _ => none
 | k + 1, x0, x1, x5 => if x5 < (x0.length : Int) then (if 0 ≤ x5 then (if x5 < (x1.length : Int) then ((laws_eqPut.f ((rd_T58 x0 x5).f0) ((rd_T58 x0 x5).f1) ((rd_T58 x1 x5).f0) ((rd_T58 x1 x5).f1)).bind fun t103 => (if t103 = true then (laws_eqPutS.l0 k x0 x1 (wrap64 (x5 + 1))) else (some false))) else (none)) else (none)) else (some true)
def laws_eqPutS.f (k : Nat) (l0 : List (S58)) (l1 : List (S58)) : Option (Bool) := if (l0.length : Int) = (l1.length : Int) then (laws_eqPutS.l0 k l0 l1 0) else (some false)
def laws_eqPutS.T6 : Bool × List (List Nat × List Nat) := (true, [([], []), ([], []), ([0, 1], [0, 1]), ([2], [2]), ([], []), ([], []), ([4, 5], [4, 5]), ([6], [6]), ([3, 7], [3, 7]), ([8], [8])])
def laws_eqPutS.B6 : List Nat := [0, 0, 3, 7, 0, 0, 48, 112, 255, 511]
theorem laws_eqPutS.tab6 : rtab .any (opsOf Try.f29 6) = laws_eqPutS.T6 := by kernel_rfl
theorem laws_eqPutS.bits6 : waitsOk laws_eqPutS.T6.2 laws_eqPutS.B6 = true := by kernel_rfl
def laws_eqPutS.y0 : Array Bool := #[false, false, false, false, false, false, false, false, false, false]
def laws_eqPutS.y1 : Array Bool := #[true, false, false, false, false, false, false, false, false, false]
def laws_eqPutS.y2 : Array Bool := #[true, true, false, false, false, false, false, false, false, false]
def laws_eqPutS.y3 : Array Bool := #[true, true, true, false, false, false, false, false, false, false]
def laws_eqPutS.y4 : Array Bool := #[true, true, true, false, true, false, false, false, false, false]
def laws_eqPutS.y5 : Array Bool := #[true, true, true, false, true, true, false, false, false, false]
def laws_eqPutS.y6 : Array Bool := #[true, true, true, false, true, true, true, false, false, false]
def laws_eqPutS.y7 : Array Bool := #[true, true, true, true, true, true, true, false, false, false]
def laws_eqPutS.y8 : Array Bool := #[true, true, true, true, true, true, true, true, false, false]
def laws_eqPutS.y9 : Array Bool := #[true, true, true, true, true, true, true, true, true, false]
def laws_eqPutS.y10 : Array Bool := #[true, true, true, true, true, true, true, true, true, true]
set_option maxHeartbeats 8000000 in
set_option maxRecDepth 100000 in
theorem laws_eqPutS.calls (k : Nat) (A0 : Option Addr) (c0 : Nat) (l0 : List (S58)) (A1 : Option Addr) (c1 : Nat) (l1 : List (S58)) (r : Bool) (w : World) (hr0 : Kd.C k58 w A0 l0.length l0) (hc0 : l0.length ≤ c0) (hr1 : Kd.C k58 w A1 l1.length l1) (hc1 : l1.length ≤ c1) (h : laws_eqPutS.f k l0 l1 = some r) :
  Calls Try.prog 29 #[.slice A0 l0.length c0, .slice A1 l1.length c1] w fun e w' => e = .returned (.bool r) ∧ Below w.heap.size w w' := by
 have hu58 := Try.underlying58; have HR0 := qO hr0; have HC0 := qO hc0; clear hr0 hc0; have HR1 := qO hr1; have HC1 := qO hc1; clear hr1 hc1; have HB := qO (Below.refl w.heap.size w); have H : (if (l0.length : Int) = (l1.length : Int) then (laws_eqPutS.l0 k l0 l1 0) else (some false)) = some r := h; clear h
 by_cases c3 : (l0.length : Int) = (l1.length : Int)
 ·rw [if_pos c3] at H
  have c3b0 : ((l0.length : Int) == (l1.length : Int)) = true := beq_iff_eq.mpr c3; have c3b1 : ((l0.length : Int) != (l1.length : Int)) = false := bne_eq_false_iff_eq.mpr c3; have c3b2 : (l0.length == l1.length) = true := by first | simpa using c3 | (simp at c3 ⊢; omega)
  clear c3; have H' := qO H; clear H
  go_enter Try.func29, Try.ntmps29
  go_wp2
  go_loopg [5] k (fun kq v5 w' => ∃ (x5_1 : Int), v5 = .int .i64 x5_1 ∧ Aside0 (laws_eqPutS.l0 kq l0 l1 x5_1 = some r) ∧ Aside0 (kq ≤ k) ∧ Aside0 (Below w.heap.size w w'))
  case atStart => exact ⟨(0), qa9, H', ⟨Nat.le_refl _⟩, ⟨qa12⟩⟩
  case round =>
   clear H'
   try clear c1
   try clear c2
   try clear p2
   try clear c3
   try clear c3b0
   try clear c3b1
   try clear c3b2
   obtain ⟨x5_1, rfl, HA, HK1, HB⟩ := hrel
   cases gk with
   | zero => exact absurd HA.out (by simp [laws_eqPutS.l0])
   | succ k1 =>
    have H := HA.out; clear HA; simp only [laws_eqPutS.l0] at H
    by_cases c4 : x5_1 < (l0.length : Int)
    ·rw [if_pos c4] at H
     have c4b0 : decide (x5_1 < (l0.length : Int)) = true := decide_eq_true c4; clear c4
     by_cases c5 : 0 ≤ x5_1
     ·rw [if_pos c5] at H
      have c5b0 : decide (0 ≤ x5_1) = true := decide_eq_true c5; clear c5
      by_cases c6 : x5_1 < (l1.length : Int)
      ·rw [if_pos c6] at H
       have c6b0 : decide (x5_1 < (l1.length : Int)) = true := decide_eq_true c6; clear c6; replace H := Option.bind_eq_some_iff.mp H; obtain ⟨t103, A70, H⟩ := H; replace H : (if t103 = true then (laws_eqPutS.l0 k1 l0 l1 (wrap64 (x5_1 + 1))) else (some false)) = some r := H; have A7 := qO A70; clear A70
       by_cases c8 : t103 = true
       ·subst c8
        have H1 : (laws_eqPutS.l0 k1 l0 l1 (wrap64 (x5_1 + 1))) = some r := by rw [if_pos rfl] at H; exact H
        clear H; have H := H1; clear H1; have H' := qO H; clear H
        try go_wp2
        have n0_ := qO (qbD HB.out); clear HB; have HB := n0_; clear n0_; have p101 : 0 ≤ (x5_1 : Int) := qT qa0; have q101 : x5_1 < (l0.length : Int) := qT qa0; obtain ⟨ad101, e101, hx101_0, hx101_1⟩ := at_T58 HR0.out x5_1 p101 q101; have hw101_1 := hx101_1; have hw101_0 := hx101_0
        cases e101
        replace hx101_0 := (HB.out.cell (qL w _ hx101_0)).trans hx101_0; replace hx101_1 := (HB.out.cell (qL w _ hx101_1)).trans hx101_1; replace p101 := eq_true p101; replace q101 := eq_true q101; have p102 : 0 ≤ (x5_1 : Int) := qT qa0; have q102 : x5_1 < (l1.length : Int) := qT qa0; obtain ⟨ad102, e102, hx102_0, hx102_1⟩ := at_T58 HR1.out x5_1 p102 q102; have hw102_1 := hx102_1; have hw102_0 := hx102_0
        cases e102
        replace hx102_0 := (HB.out.cell (qL w _ hx102_0)).trans hx102_0; replace hx102_1 := (HB.out.cell (qL w _ hx102_1)).trans hx102_1; replace p102 := eq_true p102; replace q102 := eq_true q102; refine start_ (n := 10) (S := fun w' => w'.cell? (ad101.add ((x5_1).toNat * 2)) = some (.int .i64 ((rd_T58 l0 x5_1).f0)) ∧ w'.cell? ⟨(ad101.add ((x5_1).toNat * 2)).block, (ad101.add ((x5_1).toNat * 2)).off + 1, none⟩ = some (.int .i64 ((rd_T58 l0 x5_1).f1)) ∧ w'.cell? (ad102.add ((x5_1).toNat * 2)) = some (.int .i64 ((rd_T58 l1 x5_1).f0)) ∧ w'.cell? ⟨(ad102.add ((x5_1).toNat * 2)).block, (ad102.add ((x5_1).toNat * 2)).off + 1, none⟩ = some (.int .i64 ((rd_T58 l1 x5_1).f1))) (ds := []) laws_eqPutS.y0 qa8 rfl rfl ⟨((HB.out.cell (qL w _ hw101_0)).trans hw101_0), ((HB.out.cell (qL w _ hw101_1)).trans hw101_1), ((HB.out.cell (qL w _ hw102_0)).trans hw102_0), ((HB.out.cell (qL w _ hw102_1)).trans hw102_1)⟩ (fun hHeld => ?_); refine with_tabW laws_eqPutS.tab6 laws_eqPutS.bits6 (fun HT_ HW_ => ?_); generalize wr.drew = w9 at HB hx101_0 hx101_1 hx102_0 hx102_1 hHeld ⊢; refine pure_ (i := 0) (N := some 17) (v := ?_) (a' := ?_) laws_eqPutS.y1 rfl rfl (any_of HT_.out qa8) (fun _ _ _ h => h) (Or.inl ⟨by rfl, ?_⟩) ?_ ?_; rotate_left; exact qa10; rotate_left; exact qa3; refine pure_ (i := 1) (N := some 18) (v := ?_) (a' := ?_) laws_eqPutS.y2 rfl rfl (any_of HT_.out qa8) (fun _ _ _ h => h) (Or.inl ⟨by rfl, ?_⟩) ?_ ?_; rotate_left; exact qa10; rotate_left; exact qa3; refine pure_ (i := 2) (N := some 19) (v := ?_) (a' := ?_) laws_eqPutS.y3 rfl rfl (any_of HT_.out qa8) (fun _ _ _ h => h) (Or.inl ⟨by rfl, ?_⟩) ?_ ?_; rotate_left; exact qa10; rotate_left; exact qa3; refine pure_ (i := 4) (N := some 21) (v := ?_) (a' := ?_) laws_eqPutS.y4 rfl rfl (any_of HT_.out qa8) (fun _ _ _ h => h) (Or.inl ⟨by rfl, ?_⟩) ?_ ?_; rotate_left; exact qa10; rotate_left; exact qa3; refine pure_ (i := 5) (N := some 22) (v := ?_) (a' := ?_) laws_eqPutS.y5 rfl rfl (any_of HT_.out qa8) (fun _ _ _ h => h) (Or.inl ⟨by rfl, ?_⟩) ?_ ?_; rotate_left; exact qa10; rotate_left; exact qa3; refine pure_ (i := 6) (N := some 23) (v := ?_) (a' := ?_) laws_eqPutS.y6 rfl rfl (any_of HT_.out qa8) (fun _ _ _ h => h) (Or.inl ⟨by rfl, ?_⟩) ?_ ?_; rotate_left; exact qa10; rotate_left; exact qa3; refine take_ (i := 3) (N := some 20) (v := ?_) (a' := ?_) laws_eqPutS.y7 rfl rfl (take_ofW HT_.out HW_.out qa8) (fun _ _ _ h => h) (Or.inl ⟨by rfl, ?_⟩) hHeld ?_ ?_; rotate_left; exact qa59; rotate_left; exact qa3; refine take_ (i := 7) (N := some 24) (v := ?_) (a' := ?_) laws_eqPutS.y8 rfl rfl (take_ofW HT_.out HW_.out qa8) (fun _ _ _ h => h) (Or.inl ⟨by rfl, ?_⟩) hHeld ?_ ?_; rotate_left; exact qa59; rotate_left; exact qa3; refine one_ (i := 8) (N := some 25) laws_eqPutS.y9 rfl rfl (one_of HT_.out qa8) qa82 (fun K hK => ?_); refine goes_ Try.func77 qa8 rfl #[.agg #[.int .i64 ((rd_T58 l0 x5_1).f0), .int .i64 ((rd_T58 l0 x5_1).f1)], .agg #[.int .i64 ((rd_T58 l1 x5_1).f0), .int .i64 ((rd_T58 l1 x5_1).f1)]] (by rfl) rfl rfl qa1 ?_; (with_reducible refine (laws_eqPut.calls ((rd_T58 l0 x5_1).f0) ((rd_T58 l0 x5_1).f1) ((rd_T58 l1 x5_1).f0) ((rd_T58 l1 x5_1).f1) true _ A7.out).mono ?_); rintro e w10 ⟨rfl, hb⟩; have hx_ := qHX HB hb qa2; refine ⟨_, rfl, ?_⟩; have n0_ := qO (below_step (below_step HB.out hx_) hb); clear HB; have HB := n0_; clear n0_; clear hx_; (try clear hb); (try clear hb2); (try clear hk); (try clear hi); refine hK.out _ _ ⟨((HB.out.cell (qL w _ hw101_0)).trans hw101_0), ((HB.out.cell (qL w _ hw101_1)).trans hw101_1), ((HB.out.cell (qL w _ hw102_0)).trans hw102_0), ((HB.out.cell (qL w _ hw102_1)).trans hw102_1)⟩ (fun hHeld => ?_); clear hK K; refine norm_ (a' := ?_) ?_ ?_; rotate_left
        ·exact qa13
        refine pure_ (i := 9) (N := some 26) (v := ?_) (a' := ?_) laws_eqPutS.y10 rfl rfl (any_of HT_.out qa8) (fun _ _ _ h => h) (Or.inl ⟨by rfl, ?_⟩) ?_ ?_; rotate_left; exact qa10; rotate_left; exact qa3; refine done_ (done_of HT_.out qa8) ?_
        try go_wp2
        go_roundg k1
        case measure => have := HK1.out; omega
        case rel => exact ⟨(wrap64 (x5_1 + 1)), qa9, H', ⟨qa89⟩, ⟨qa12⟩⟩
       ·replace c8 := Bool.eq_false_iff.mpr c8
        subst c8; have H1 : (some false) = some r := by rw [if_neg (show ¬ (false = true) by decide)] at H; exact H
        clear H; have H := H1; clear H1; obtain rfl := Option.some.inj H
        try go_wp2
        have n0_ := qO (qbD HB.out); clear HB; have HB := n0_; clear n0_; have p101 : 0 ≤ (x5_1 : Int) := qT qa0; have q101 : x5_1 < (l0.length : Int) := qT qa0; obtain ⟨ad101, e101, hx101_0, hx101_1⟩ := at_T58 HR0.out x5_1 p101 q101; have hw101_1 := hx101_1; have hw101_0 := hx101_0
        cases e101
        replace hx101_0 := (HB.out.cell (qL w _ hx101_0)).trans hx101_0; replace hx101_1 := (HB.out.cell (qL w _ hx101_1)).trans hx101_1; replace p101 := eq_true p101; replace q101 := eq_true q101; have p102 : 0 ≤ (x5_1 : Int) := qT qa0; have q102 : x5_1 < (l1.length : Int) := qT qa0; obtain ⟨ad102, e102, hx102_0, hx102_1⟩ := at_T58 HR1.out x5_1 p102 q102; have hw102_1 := hx102_1; have hw102_0 := hx102_0
        cases e102
        replace hx102_0 := (HB.out.cell (qL w _ hx102_0)).trans hx102_0; replace hx102_1 := (HB.out.cell (qL w _ hx102_1)).trans hx102_1; replace p102 := eq_true p102; replace q102 := eq_true q102; refine start_ (n := 10) (S := fun w' => w'.cell? (ad101.add ((x5_1).toNat * 2)) = some (.int .i64 ((rd_T58 l0 x5_1).f0)) ∧ w'.cell? ⟨(ad101.add ((x5_1).toNat * 2)).block, (ad101.add ((x5_1).toNat * 2)).off + 1, none⟩ = some (.int .i64 ((rd_T58 l0 x5_1).f1)) ∧ w'.cell? (ad102.add ((x5_1).toNat * 2)) = some (.int .i64 ((rd_T58 l1 x5_1).f0)) ∧ w'.cell? ⟨(ad102.add ((x5_1).toNat * 2)).block, (ad102.add ((x5_1).toNat * 2)).off + 1, none⟩ = some (.int .i64 ((rd_T58 l1 x5_1).f1))) (ds := []) laws_eqPutS.y0 qa8 rfl rfl ⟨((HB.out.cell (qL w _ hw101_0)).trans hw101_0), ((HB.out.cell (qL w _ hw101_1)).trans hw101_1), ((HB.out.cell (qL w _ hw102_0)).trans hw102_0), ((HB.out.cell (qL w _ hw102_1)).trans hw102_1)⟩ (fun hHeld => ?_); refine with_tabW laws_eqPutS.tab6 laws_eqPutS.bits6 (fun HT_ HW_ => ?_); generalize wr.drew = w11 at HB hx101_0 hx101_1 hx102_0 hx102_1 hHeld ⊢; refine pure_ (i := 0) (N := some 17) (v := ?_) (a' := ?_) laws_eqPutS.y1 rfl rfl (any_of HT_.out qa8) (fun _ _ _ h => h) (Or.inl ⟨by rfl, ?_⟩) ?_ ?_; rotate_left; exact qa10; rotate_left; exact qa3; refine pure_ (i := 1) (N := some 18) (v := ?_) (a' := ?_) laws_eqPutS.y2 rfl rfl (any_of HT_.out qa8) (fun _ _ _ h => h) (Or.inl ⟨by rfl, ?_⟩) ?_ ?_; rotate_left; exact qa10; rotate_left; exact qa3; refine pure_ (i := 2) (N := some 19) (v := ?_) (a' := ?_) laws_eqPutS.y3 rfl rfl (any_of HT_.out qa8) (fun _ _ _ h => h) (Or.inl ⟨by rfl, ?_⟩) ?_ ?_; rotate_left; exact qa10; rotate_left; exact qa3; refine pure_ (i := 4) (N := some 21) (v := ?_) (a' := ?_) laws_eqPutS.y4 rfl rfl (any_of HT_.out qa8) (fun _ _ _ h => h) (Or.inl ⟨by rfl, ?_⟩) ?_ ?_; rotate_left; exact qa10; rotate_left; exact qa3; refine pure_ (i := 5) (N := some 22) (v := ?_) (a' := ?_) laws_eqPutS.y5 rfl rfl (any_of HT_.out qa8) (fun _ _ _ h => h) (Or.inl ⟨by rfl, ?_⟩) ?_ ?_; rotate_left; exact qa10; rotate_left; exact qa3; refine pure_ (i := 6) (N := some 23) (v := ?_) (a' := ?_) laws_eqPutS.y6 rfl rfl (any_of HT_.out qa8) (fun _ _ _ h => h) (Or.inl ⟨by rfl, ?_⟩) ?_ ?_; rotate_left; exact qa10; rotate_left; exact qa3; refine take_ (i := 3) (N := some 20) (v := ?_) (a' := ?_) laws_eqPutS.y7 rfl rfl (take_ofW HT_.out HW_.out qa8) (fun _ _ _ h => h) (Or.inl ⟨by rfl, ?_⟩) hHeld ?_ ?_; rotate_left; exact qa59; rotate_left; exact qa3; refine take_ (i := 7) (N := some 24) (v := ?_) (a' := ?_) laws_eqPutS.y8 rfl rfl (take_ofW HT_.out HW_.out qa8) (fun _ _ _ h => h) (Or.inl ⟨by rfl, ?_⟩) hHeld ?_ ?_; rotate_left; exact qa59; rotate_left; exact qa3; refine one_ (i := 8) (N := some 25) laws_eqPutS.y9 rfl rfl (one_of HT_.out qa8) qa82 (fun K hK => ?_); refine goes_ Try.func77 qa8 rfl #[.agg #[.int .i64 ((rd_T58 l0 x5_1).f0), .int .i64 ((rd_T58 l0 x5_1).f1)], .agg #[.int .i64 ((rd_T58 l1 x5_1).f0), .int .i64 ((rd_T58 l1 x5_1).f1)]] (by rfl) rfl rfl qa1 ?_; (with_reducible refine (laws_eqPut.calls ((rd_T58 l0 x5_1).f0) ((rd_T58 l0 x5_1).f1) ((rd_T58 l1 x5_1).f0) ((rd_T58 l1 x5_1).f1) false _ A7.out).mono ?_); rintro e w12 ⟨rfl, hb⟩; have hx_ := qHX HB hb qa2; refine ⟨_, rfl, ?_⟩; have n0_ := qO (below_step (below_step HB.out hx_) hb); clear HB; have HB := n0_; clear n0_; clear hx_; (try clear hb); (try clear hb2); (try clear hk); (try clear hi); refine hK.out _ _ ⟨((HB.out.cell (qL w _ hw101_0)).trans hw101_0), ((HB.out.cell (qL w _ hw101_1)).trans hw101_1), ((HB.out.cell (qL w _ hw102_0)).trans hw102_0), ((HB.out.cell (qL w _ hw102_1)).trans hw102_1)⟩ (fun hHeld => ?_); clear hK K; refine norm_ (a' := ?_) ?_ ?_; rotate_left
        ·exact qa13
        refine pure_ (i := 9) (N := some 26) (v := ?_) (a' := ?_) laws_eqPutS.y10 rfl rfl (any_of HT_.out qa8) (fun _ _ _ h => h) (Or.inl ⟨by rfl, ?_⟩) ?_ ?_; rotate_left; exact qa10; rotate_left; exact qa3; refine done_ (done_of HT_.out qa8) ?_
        try go_wp2
        go_ret
        exact ⟨qa4, qa12⟩
      ·rw [if_neg c6] at H
       exact absurd H qa109
     ·rw [if_neg c5] at H
      exact absurd H qa109
    ·rw [if_neg c4] at H
     have c4b0 : decide (x5_1 < (l0.length : Int)) = false := decide_eq_false c4; clear c4; obtain rfl := Option.some.inj H; go_wp2
     go_ret
     exact ⟨qa4, qa12⟩
 ·rw [if_neg c3] at H
  have c3b0 : ((l0.length : Int) == (l1.length : Int)) = false := beq_eq_false_iff_ne.mpr c3; have c3b1 : ((l0.length : Int) != (l1.length : Int)) = true := bne_iff_ne.mpr c3; have c3b2 : (l0.length == l1.length) = false := by first | simpa using c3 | (simp at c3 ⊢; omega)
  obtain rfl := Option.some.inj H
  go_enter Try.func29, Try.ntmps29
  go_wp2
  go_ret
  exact ⟨qa4, qa12⟩


def laws_eqIntS.l0 : Nat → List Int → List Int → Int → Option (Bool)
 | 0, _, _, _ => none
 | k + 1, x0, x1, x5 => if x5 < (x0.length : Int) then (if 0 ≤ x5 then (if x5 < (x1.length : Int) then (if (rd x0 x5) = (rd x1 x5) then (laws_eqIntS.l0 k x0 x1 (wrap64 (x5 + 1))) else (some false)) else (none)) else (none)) else (some true)
def laws_eqIntS.f (k : Nat) (l0 : List Int) (l1 : List Int) : Option (Bool) := if (l0.length : Int) = (l1.length : Int) then (laws_eqIntS.l0 k l0 l1 0) else (some false)
set_option maxHeartbeats 8000000 in
set_option maxRecDepth 100000 in
theorem laws_eqIntS.calls (k : Nat) (A0 : Option Addr) (c0 : Nat) (l0 : List Int) (A1 : Option Addr) (c1 : Nat) (l1 : List Int) (r : Bool) (w : World) (hr0 : Kd.C (Kd.int .i64) w A0 l0.length l0) (hc0 : l0.length ≤ c0) (hr1 : Kd.C (Kd.int .i64) w A1 l1.length l1) (hc1 : l1.length ≤ c1) (h : laws_eqIntS.f k l0 l1 = some r) :
  Calls Try.prog 92 #[.slice A0 l0.length c0, .slice A1 l1.length c1] w fun e w' => e = .returned (.bool r) ∧ Drawn0 w w' := by
 have HR0 := qO hr0; have HC0 := qO hc0; clear hr0 hc0; have HR1 := qO hr1; have HC1 := qO hc1; clear hr1 hc1; have H : (if (l0.length : Int) = (l1.length : Int) then (laws_eqIntS.l0 k l0 l1 0) else (some false)) = some r := h; clear h
 by_cases c3 : (l0.length : Int) = (l1.length : Int)
 ·rw [if_pos c3] at H
  have c3b0 : ((l0.length : Int) == (l1.length : Int)) = true := beq_iff_eq.mpr c3; have c3b1 : ((l0.length : Int) != (l1.length : Int)) = false := bne_eq_false_iff_eq.mpr c3; have c3b2 : (l0.length == l1.length) = true := by first | simpa using c3 | (simp at c3 ⊢; omega)
  clear c3; have H' := qO H; clear H
  go_enter Try.func92, Try.ntmps92
  go_wp2
  repeat (go_quiet (fail); try go_wp2)
  go_loopg [5] k (fun kq v5 w' => ∃ (x5_1 : Int), v5 = .int .i64 x5_1 ∧ Aside0 (laws_eqIntS.l0 kq l0 l1 x5_1 = some r) ∧ Aside0 (kq ≤ k) ∧ Drawn0 w w')
  case atStart => exact ⟨(0), qa9, H', ⟨Nat.le_refl _⟩, qa20⟩
  case round =>
   clear H'
   try clear c1
   try clear p2
   try clear c3
   try clear c3b0
   try clear c3b1
   try clear c3b2
   obtain ⟨x5_1, rfl, HA, HK1, ⟨m1, rfl⟩⟩ := hrel
   cases gk with
   | zero => exact absurd HA.out (by simp [laws_eqIntS.l0])
   | succ k1 =>
    have H := HA.out; clear HA; simp only [laws_eqIntS.l0] at H
    by_cases c4 : x5_1 < (l0.length : Int)
    ·rw [if_pos c4] at H
     have c4b0 : decide (x5_1 < (l0.length : Int)) = true := decide_eq_true c4; clear c4
     by_cases c5 : 0 ≤ x5_1
     ·rw [if_pos c5] at H
      have c5b0 : decide (0 ≤ x5_1) = true := decide_eq_true c5; clear c5
      by_cases c6 : x5_1 < (l1.length : Int)
      ·rw [if_pos c6] at H
       have c6b0 : decide (x5_1 < (l1.length : Int)) = true := decide_eq_true c6; clear c6
       by_cases c7 : (rd l0 x5_1) = (rd l1 x5_1)
       ·rw [if_pos c7] at H
        have c7b0 : ((rd l0 x5_1) == (rd l1 x5_1)) = true := beq_iff_eq.mpr c7; have c7b1 : ((rd l0 x5_1) != (rd l1 x5_1)) = false := bne_eq_false_iff_eq.mpr c7; clear c7; have H' := qO H; clear H; have p101 : 0 ≤ (x5_1 : Int) := qT qa0; have q101 : x5_1 < (l0.length : Int) := qT qa0; obtain ⟨ad101, e101, hx101_0⟩ := Kd.at_int HR0.out x5_1 p101 q101
        cases e101
        replace p101 := eq_true p101; replace q101 := eq_true q101; have p102 : 0 ≤ (x5_1 : Int) := qT qa0; have q102 : x5_1 < (l1.length : Int) := qT qa0; obtain ⟨ad102, e102, hx102_0⟩ := Kd.at_int HR1.out x5_1 p102 q102
        cases e102
        replace p102 := eq_true p102; replace q102 := eq_true q102; go_wp2
        repeat (go_quiet (fail); try go_wp2)
        go_roundg k1
        case measure => have := HK1.out; omega
        case rel => exact ⟨(wrap64 (x5_1 + 1)), qa9, H', ⟨qa89⟩, qa20⟩
       ·rw [if_neg c7] at H
        have c7b0 : ((rd l0 x5_1) == (rd l1 x5_1)) = false := beq_eq_false_iff_ne.mpr c7; have c7b1 : ((rd l0 x5_1) != (rd l1 x5_1)) = true := bne_iff_ne.mpr c7; obtain rfl := Option.some.inj H; have p101 : 0 ≤ (x5_1 : Int) := qT qa0; have q101 : x5_1 < (l0.length : Int) := qT qa0; obtain ⟨ad101, e101, hx101_0⟩ := Kd.at_int HR0.out x5_1 p101 q101
        cases e101
        replace p101 := eq_true p101; replace q101 := eq_true q101; have p102 : 0 ≤ (x5_1 : Int) := qT qa0; have q102 : x5_1 < (l1.length : Int) := qT qa0; obtain ⟨ad102, e102, hx102_0⟩ := Kd.at_int HR1.out x5_1 p102 q102
        cases e102
        replace p102 := eq_true p102; replace q102 := eq_true q102; go_wp2
        repeat (go_quiet (fail); try go_wp2)
        go_ret
        exact ⟨qa9, qa20⟩
      ·rw [if_neg c6] at H
       exact absurd H qa109
     ·rw [if_neg c5] at H
      exact absurd H qa109
    ·rw [if_neg c4] at H
     have c4b0 : decide (x5_1 < (l0.length : Int)) = false := decide_eq_false c4; clear c4; obtain rfl := Option.some.inj H; go_wp2
     repeat (go_quiet (fail); try go_wp2)
     go_ret
     exact ⟨qa9, qa20⟩
 ·rw [if_neg c3] at H
  have c3b0 : ((l0.length : Int) == (l1.length : Int)) = false := beq_eq_false_iff_ne.mpr c3; have c3b1 : ((l0.length : Int) != (l1.length : Int)) = true := bne_iff_ne.mpr c3; have c3b2 : (l0.length == l1.length) = false := by first | simpa using c3 | (simp at c3 ⊢; omega)
  obtain rfl := Option.some.inj H
  go_enter Try.func92, Try.ntmps92
  go_wp2
  repeat (go_quiet (fail); try go_wp2)
  go_ret
  exact ⟨qa9, qa20⟩


def laws_eqTxn.f (k : Nat) (a0_0 : Int) (l0_1 : List Int) (l0_2 : List (S58)) (a1_0 : Int) (l1_1 : List Int) (l1_2 : List (S58)) : Option (Bool) := if a0_0 = a1_0 then ((laws_eqIntS.f k l0_1 l1_1).bind fun t103 => (if t103 = true then ((laws_eqPutS.f k l0_2 l1_2).bind fun t104 => (if t104 = true then (some true) else (some false))) else (some false))) else (some false)
set_option maxHeartbeats 8000000 in
set_option maxRecDepth 100000 in
theorem laws_eqTxn.calls (k : Nat) (a0_0 : Int) (A0_1 : Option Addr) (c0_1 : Nat) (l0_1 : List Int) (A0_2 : Option Addr) (c0_2 : Nat) (l0_2 : List (S58)) (a1_0 : Int) (A1_1 : Option Addr) (c1_1 : Nat) (l1_1 : List Int) (A1_2 : Option Addr) (c1_2 : Nat) (l1_2 : List (S58)) (r : Bool) (w : World) (hr0_1 : Kd.C (Kd.int .i64) w A0_1 l0_1.length l0_1) (hc0_1 : l0_1.length ≤ c0_1) (hr0_2 : Kd.C k58 w A0_2 l0_2.length l0_2) (hc0_2 : l0_2.length ≤ c0_2) (hr1_1 : Kd.C (Kd.int .i64) w A1_1 l1_1.length l1_1) (hc1_1 : l1_1.length ≤ c1_1) (hr1_2 : Kd.C k58 w A1_2 l1_2.length l1_2) (hc1_2 : l1_2.length ≤ c1_2) (h : laws_eqTxn.f k a0_0 l0_1 l0_2 a1_0 l1_1 l1_2 = some r) :
  Calls Try.prog 47 #[.agg #[.int .i64 a0_0, .slice A0_1 l0_1.length c0_1, .slice A0_2 l0_2.length c0_2], .agg #[.int .i64 a1_0, .slice A1_1 l1_1.length c1_1, .slice A1_2 l1_2.length c1_2]] w fun e w' => e = .returned (.bool r) ∧ Below w.heap.size w w' := by
 have hu65 := Try.underlying65; have HR0_1 := qO hr0_1; have HC0_1 := qO hc0_1; clear hr0_1 hc0_1; have HR0_2 := qO hr0_2; have HC0_2 := qO hc0_2; clear hr0_2 hc0_2; have HR1_1 := qO hr1_1; have HC1_1 := qO hc1_1; clear hr1_1 hc1_1; have HR1_2 := qO hr1_2; have HC1_2 := qO hc1_2; clear hr1_2 hc1_2; have HB := qO (Below.refl w.heap.size w); have H : (if a0_0 = a1_0 then ((laws_eqIntS.f k l0_1 l1_1).bind fun t103 => (if t103 = true then ((laws_eqPutS.f k l0_2 l1_2).bind fun t104 => (if t104 = true then (some true) else (some false))) else (some false))) else (some false)) = some r := h; clear h
 by_cases c3 : a0_0 = a1_0
 ·rw [if_pos c3] at H
  have c3b0 : (a0_0 == a1_0) = true := beq_iff_eq.mpr c3; have c3b1 : (a0_0 != a1_0) = false := bne_eq_false_iff_eq.mpr c3; clear c3; replace H := Option.bind_eq_some_iff.mp H; obtain ⟨t103, A40, H⟩ := H; replace H : (if t103 = true then ((laws_eqPutS.f k l0_2 l1_2).bind fun t104 => (if t104 = true then (some true) else (some false))) else (some false)) = some r := H; have A4 := qO A40; clear A40
  by_cases c5 : t103 = true
  ·subst c5
   have H1 : ((laws_eqPutS.f k l0_2 l1_2).bind fun t104 => (if t104 = true then (some true) else (some false))) = some r := by rw [if_pos rfl] at H; exact H
   clear H; have H := H1; clear H1; replace H := Option.bind_eq_some_iff.mp H; obtain ⟨t104, A60, H⟩ := H; replace H : (if t104 = true then (some true) else (some false)) = some r := H; have A6 := qO A60; clear A60
   by_cases c7 : t104 = true
   ·subst c7
    have H1 : (some true) = some r := by rw [if_pos rfl] at H; exact H
    clear H; have H := H1; clear H1; obtain rfl := Option.some.inj H
    go_enter Try.func47, Try.ntmps47
    go_wp2_with (first | ((with_reducible refine gate_dst (N := 2) rfl ?_); refine box_event ?hg (N := 2) ?hd (cs := #[.int .i64 a0_0, .slice A0_1 l0_1.length c0_1, .slice A0_2 l0_2.length c0_2]) (t := 65) ?hr ?_; (case hd => rfl); (case hg => rfl); (case hr => exact qa15); intro gb101 hg w8 hbox hb; have hx_ := qHX HB hb qa2; have n0_ := qO (below_step (below_step HB.out hx_) hb); have n1_ := qO (hbox); have n2_ := qO ((qa17 : w.heap.size ≤ gb101)); have n3_ := n2_; clear HB; have HB := n0_; have BK101 := n1_; have GW101 := n2_; have GE101 := n3_; clear n0_ n1_ n2_ n3_; clear hx_; clear hb hbox hg) | ((with_reducible refine gate_dst (N := 3) rfl ?_); refine box_event ?hg (N := 3) ?hd (cs := #[.int .i64 a1_0, .slice A1_1 l1_1.length c1_1, .slice A1_2 l1_2.length c1_2]) (t := 65) ?hr ?_; (case hd => rfl); (case hg => rfl); (case hr => exact qa15); intro gb102 hg w9 hbox hb; have hx_ := qHX HB hb qa2; have n0_ := qO (qB BK101.out hx_ hb); have n1_ := qO (below_step (below_step HB.out hx_) hb); have n2_ := qO (hbox); have n3_ := qO ((qa17 : w.heap.size ≤ gb102)); have n4_ := n3_; have n5_ := qO ((qa38 : gb101 ≠ gb102)); have n6_ := qO (Ne.symm n5_.out); clear BK101; clear HB; have BK101 := n0_; have HB := n1_; have BK102 := n2_; have GW102 := n3_; have GE102 := n4_; have NB101_102 := n5_; have NB102_101 := n6_; clear n0_ n1_ n2_ n3_ n4_ n5_ n6_; clear hx_; clear hb hbox hg; have hnb10 := NB101_102.out; have hnc10 := NB102_101.out; have hcz11_0 : w9.cell? ⟨gb101, 0, none⟩ = some (.int .i64 a0_0) := (blk_cell BK101.out 0).trans rfl; have hcz11_1 : w9.cell? ⟨gb101, 1, none⟩ = some (.slice A0_1 l0_1.length c0_1) := (blk_cell BK101.out 1).trans rfl; have hcz11_2 : w9.cell? ⟨gb101, 2, none⟩ = some (.slice A0_2 l0_2.length c0_2) := (blk_cell BK101.out 2).trans rfl; have hfz11_0 := blk_frozen BK101.out 0; have hfz11_1 := blk_frozen BK101.out 1; have hfz11_2 := blk_frozen BK101.out 2; have hcz12_0 : w9.cell? ⟨gb102, 0, none⟩ = some (.int .i64 a1_0) := (blk_cell BK102.out 0).trans rfl; have hcz12_1 : w9.cell? ⟨gb102, 1, none⟩ = some (.slice A1_1 l1_1.length c1_1) := (blk_cell BK102.out 1).trans rfl; have hcz12_2 : w9.cell? ⟨gb102, 2, none⟩ = some (.slice A1_2 l1_2.length c1_2) := (blk_cell BK102.out 2).trans rfl; have hfz12_0 := blk_frozen BK102.out 0; have hfz12_1 := blk_frozen BK102.out 1; have hfz12_2 := blk_frozen BK102.out 2) | ((with_reducible refine gate_callee (f := 92) rfl ?_); refine goesL_ (some 14) rfl rfl Try.func92 qa8 rfl #[.slice A0_1 l0_1.length c0_1, .slice A1_1 l1_1.length c1_1] rfl qa1 ?_; (with_reducible refine (laws_eqIntS.calls k _ _ l0_1 _ _ l1_1 true _ ?side1 ?side2 ?side3 ?side4 A4.out).mono ?_); (case side1 => exact qa40); (case side2 => exact HC0_1.out); (case side3 => exact qa84); (case side4 => exact HC1_1.out); rintro e w' ⟨rfl, ⟨nd, rfl⟩⟩; refine ⟨_, rfl, ?_⟩) | ((with_reducible refine gate_callee (f := 29) rfl ?_); refine goesL_ (some 20) rfl rfl Try.func29 qa8 rfl #[.slice A0_2 l0_2.length c0_2, .slice A1_2 l1_2.length c1_2] rfl qa1 ?_; (with_reducible refine (laws_eqPutS.calls k _ _ l0_2 _ _ l1_2 true _ ?side1 ?side2 ?side3 ?side4 A6.out).mono ?_); (case side1 => exact qa78); (case side2 => exact HC0_2.out); (case side3 => exact qa60); (case side4 => exact HC1_2.out); rintro e w13 ⟨rfl, hb⟩; have hx_ := qHX HB hb qa2; refine ⟨_, rfl, ?_⟩; have n0_ := qO (qB BK101.out hx_ hb); have n1_ := qO (qB BK102.out hx_ hb); have n2_ := qO (below_step (below_step HB.out hx_) hb); clear BK101; clear BK102; clear HB; have BK101 := n0_; have BK102 := n1_; have HB := n2_; clear n0_ n1_ n2_; clear hx_; (try clear hb); (try clear hb2); (try clear hk); (try clear hi)))
    go_ret
    exact ⟨qa4, qa5⟩
   ·replace c7 := Bool.eq_false_iff.mpr c7
    subst c7; have H1 : (some false) = some r := by rw [if_neg (show ¬ (false = true) by decide)] at H; exact H
    clear H; have H := H1; clear H1; obtain rfl := Option.some.inj H
    go_enter Try.func47, Try.ntmps47
    go_wp2_with (first | ((with_reducible refine gate_dst (N := 2) rfl ?_); refine box_event ?hg (N := 2) ?hd (cs := #[.int .i64 a0_0, .slice A0_1 l0_1.length c0_1, .slice A0_2 l0_2.length c0_2]) (t := 65) ?hr ?_; (case hd => rfl); (case hg => rfl); (case hr => exact qa15); intro gb101 hg w14 hbox hb; have hx_ := qHX HB hb qa2; have n0_ := qO (below_step (below_step HB.out hx_) hb); have n1_ := qO (hbox); have n2_ := qO ((qa17 : w.heap.size ≤ gb101)); have n3_ := n2_; clear HB; have HB := n0_; have BK101 := n1_; have GW101 := n2_; have GE101 := n3_; clear n0_ n1_ n2_ n3_; clear hx_; clear hb hbox hg) | ((with_reducible refine gate_dst (N := 3) rfl ?_); refine box_event ?hg (N := 3) ?hd (cs := #[.int .i64 a1_0, .slice A1_1 l1_1.length c1_1, .slice A1_2 l1_2.length c1_2]) (t := 65) ?hr ?_; (case hd => rfl); (case hg => rfl); (case hr => exact qa15); intro gb102 hg w15 hbox hb; have hx_ := qHX HB hb qa2; have n0_ := qO (qB BK101.out hx_ hb); have n1_ := qO (below_step (below_step HB.out hx_) hb); have n2_ := qO (hbox); have n3_ := qO ((qa17 : w.heap.size ≤ gb102)); have n4_ := n3_; have n5_ := qO ((qa38 : gb101 ≠ gb102)); have n6_ := qO (Ne.symm n5_.out); clear BK101; clear HB; have BK101 := n0_; have HB := n1_; have BK102 := n2_; have GW102 := n3_; have GE102 := n4_; have NB101_102 := n5_; have NB102_101 := n6_; clear n0_ n1_ n2_ n3_ n4_ n5_ n6_; clear hx_; clear hb hbox hg; have hnb16 := NB101_102.out; have hnc16 := NB102_101.out; have hcz17_0 : w15.cell? ⟨gb101, 0, none⟩ = some (.int .i64 a0_0) := (blk_cell BK101.out 0).trans rfl; have hcz17_1 : w15.cell? ⟨gb101, 1, none⟩ = some (.slice A0_1 l0_1.length c0_1) := (blk_cell BK101.out 1).trans rfl; have hcz17_2 : w15.cell? ⟨gb101, 2, none⟩ = some (.slice A0_2 l0_2.length c0_2) := (blk_cell BK101.out 2).trans rfl; have hfz17_0 := blk_frozen BK101.out 0; have hfz17_1 := blk_frozen BK101.out 1; have hfz17_2 := blk_frozen BK101.out 2; have hcz18_0 : w15.cell? ⟨gb102, 0, none⟩ = some (.int .i64 a1_0) := (blk_cell BK102.out 0).trans rfl; have hcz18_1 : w15.cell? ⟨gb102, 1, none⟩ = some (.slice A1_1 l1_1.length c1_1) := (blk_cell BK102.out 1).trans rfl; have hcz18_2 : w15.cell? ⟨gb102, 2, none⟩ = some (.slice A1_2 l1_2.length c1_2) := (blk_cell BK102.out 2).trans rfl; have hfz18_0 := blk_frozen BK102.out 0; have hfz18_1 := blk_frozen BK102.out 1; have hfz18_2 := blk_frozen BK102.out 2) | ((with_reducible refine gate_callee (f := 92) rfl ?_); refine goesL_ (some 14) rfl rfl Try.func92 qa8 rfl #[.slice A0_1 l0_1.length c0_1, .slice A1_1 l1_1.length c1_1] rfl qa1 ?_; (with_reducible refine (laws_eqIntS.calls k _ _ l0_1 _ _ l1_1 true _ ?side1 ?side2 ?side3 ?side4 A4.out).mono ?_); (case side1 => exact qa40); (case side2 => exact HC0_1.out); (case side3 => exact qa84); (case side4 => exact HC1_1.out); rintro e w' ⟨rfl, ⟨nd, rfl⟩⟩; refine ⟨_, rfl, ?_⟩) | ((with_reducible refine gate_callee (f := 29) rfl ?_); refine goesL_ (some 20) rfl rfl Try.func29 qa8 rfl #[.slice A0_2 l0_2.length c0_2, .slice A1_2 l1_2.length c1_2] rfl qa1 ?_; (with_reducible refine (laws_eqPutS.calls k _ _ l0_2 _ _ l1_2 false _ ?side1 ?side2 ?side3 ?side4 A6.out).mono ?_); (case side1 => exact qa78); (case side2 => exact HC0_2.out); (case side3 => exact qa60); (case side4 => exact HC1_2.out); rintro e w19 ⟨rfl, hb⟩; have hx_ := qHX HB hb qa2; refine ⟨_, rfl, ?_⟩; have n0_ := qO (qB BK101.out hx_ hb); have n1_ := qO (qB BK102.out hx_ hb); have n2_ := qO (below_step (below_step HB.out hx_) hb); clear BK101; clear BK102; clear HB; have BK101 := n0_; have BK102 := n1_; have HB := n2_; clear n0_ n1_ n2_; clear hx_; (try clear hb); (try clear hb2); (try clear hk); (try clear hi)))
    go_ret
    exact ⟨qa4, qa5⟩
  ·replace c5 := Bool.eq_false_iff.mpr c5
   subst c5; have H1 : (some false) = some r := by rw [if_neg (show ¬ (false = true) by decide)] at H; exact H
   clear H; have H := H1; clear H1; obtain rfl := Option.some.inj H
   go_enter Try.func47, Try.ntmps47
   go_wp2_with (first | ((with_reducible refine gate_dst (N := 2) rfl ?_); refine box_event ?hg (N := 2) ?hd (cs := #[.int .i64 a0_0, .slice A0_1 l0_1.length c0_1, .slice A0_2 l0_2.length c0_2]) (t := 65) ?hr ?_; (case hd => rfl); (case hg => rfl); (case hr => exact qa15); intro gb101 hg w20 hbox hb; have hx_ := qHX HB hb qa2; have n0_ := qO (below_step (below_step HB.out hx_) hb); have n1_ := qO (hbox); have n2_ := qO ((qa17 : w.heap.size ≤ gb101)); have n3_ := n2_; clear HB; have HB := n0_; have BK101 := n1_; have GW101 := n2_; have GE101 := n3_; clear n0_ n1_ n2_ n3_; clear hx_; clear hb hbox hg) | ((with_reducible refine gate_dst (N := 3) rfl ?_); refine box_event ?hg (N := 3) ?hd (cs := #[.int .i64 a1_0, .slice A1_1 l1_1.length c1_1, .slice A1_2 l1_2.length c1_2]) (t := 65) ?hr ?_; (case hd => rfl); (case hg => rfl); (case hr => exact qa15); intro gb102 hg w21 hbox hb; have hx_ := qHX HB hb qa2; have n0_ := qO (qB BK101.out hx_ hb); have n1_ := qO (below_step (below_step HB.out hx_) hb); have n2_ := qO (hbox); have n3_ := qO ((qa17 : w.heap.size ≤ gb102)); have n4_ := n3_; have n5_ := qO ((qa38 : gb101 ≠ gb102)); have n6_ := qO (Ne.symm n5_.out); clear BK101; clear HB; have BK101 := n0_; have HB := n1_; have BK102 := n2_; have GW102 := n3_; have GE102 := n4_; have NB101_102 := n5_; have NB102_101 := n6_; clear n0_ n1_ n2_ n3_ n4_ n5_ n6_; clear hx_; clear hb hbox hg; have hnb22 := NB101_102.out; have hnc22 := NB102_101.out; have hcz23_0 : w21.cell? ⟨gb101, 0, none⟩ = some (.int .i64 a0_0) := (blk_cell BK101.out 0).trans rfl; have hcz23_1 : w21.cell? ⟨gb101, 1, none⟩ = some (.slice A0_1 l0_1.length c0_1) := (blk_cell BK101.out 1).trans rfl; have hcz23_2 : w21.cell? ⟨gb101, 2, none⟩ = some (.slice A0_2 l0_2.length c0_2) := (blk_cell BK101.out 2).trans rfl; have hfz23_0 := blk_frozen BK101.out 0; have hfz23_1 := blk_frozen BK101.out 1; have hfz23_2 := blk_frozen BK101.out 2; have hcz24_0 : w21.cell? ⟨gb102, 0, none⟩ = some (.int .i64 a1_0) := (blk_cell BK102.out 0).trans rfl; have hcz24_1 : w21.cell? ⟨gb102, 1, none⟩ = some (.slice A1_1 l1_1.length c1_1) := (blk_cell BK102.out 1).trans rfl; have hcz24_2 : w21.cell? ⟨gb102, 2, none⟩ = some (.slice A1_2 l1_2.length c1_2) := (blk_cell BK102.out 2).trans rfl; have hfz24_0 := blk_frozen BK102.out 0; have hfz24_1 := blk_frozen BK102.out 1; have hfz24_2 := blk_frozen BK102.out 2) | ((with_reducible refine gate_callee (f := 92) rfl ?_); refine goesL_ (some 14) rfl rfl Try.func92 qa8 rfl #[.slice A0_1 l0_1.length c0_1, .slice A1_1 l1_1.length c1_1] rfl qa1 ?_; (with_reducible refine (laws_eqIntS.calls k _ _ l0_1 _ _ l1_1 false _ ?side1 ?side2 ?side3 ?side4 A4.out).mono ?_); (case side1 => exact qa40); (case side2 => exact HC0_1.out); (case side3 => exact qa84); (case side4 => exact HC1_1.out); rintro e w' ⟨rfl, ⟨nd, rfl⟩⟩; refine ⟨_, rfl, ?_⟩))
   go_ret
   exact ⟨qa4, qa5⟩
 ·rw [if_neg c3] at H
  have c3b0 : (a0_0 == a1_0) = false := beq_eq_false_iff_ne.mpr c3; have c3b1 : (a0_0 != a1_0) = true := bne_iff_ne.mpr c3; obtain rfl := Option.some.inj H
  go_enter Try.func47, Try.ntmps47
  go_wp2_with (first | ((with_reducible refine gate_dst (N := 2) rfl ?_); refine box_event ?hg (N := 2) ?hd (cs := #[.int .i64 a0_0, .slice A0_1 l0_1.length c0_1, .slice A0_2 l0_2.length c0_2]) (t := 65) ?hr ?_; (case hd => rfl); (case hg => rfl); (case hr => exact qa15); intro gb101 hg w25 hbox hb; have hx_ := qHX HB hb qa2; have n0_ := qO (below_step (below_step HB.out hx_) hb); have n1_ := qO (hbox); have n2_ := qO ((qa17 : w.heap.size ≤ gb101)); have n3_ := n2_; clear HB; have HB := n0_; have BK101 := n1_; have GW101 := n2_; have GE101 := n3_; clear n0_ n1_ n2_ n3_; clear hx_; clear hb hbox hg) | ((with_reducible refine gate_dst (N := 3) rfl ?_); refine box_event ?hg (N := 3) ?hd (cs := #[.int .i64 a1_0, .slice A1_1 l1_1.length c1_1, .slice A1_2 l1_2.length c1_2]) (t := 65) ?hr ?_; (case hd => rfl); (case hg => rfl); (case hr => exact qa15); intro gb102 hg w26 hbox hb; have hx_ := qHX HB hb qa2; have n0_ := qO (qB BK101.out hx_ hb); have n1_ := qO (below_step (below_step HB.out hx_) hb); have n2_ := qO (hbox); have n3_ := qO ((qa17 : w.heap.size ≤ gb102)); have n4_ := n3_; have n5_ := qO ((qa38 : gb101 ≠ gb102)); have n6_ := qO (Ne.symm n5_.out); clear BK101; clear HB; have BK101 := n0_; have HB := n1_; have BK102 := n2_; have GW102 := n3_; have GE102 := n4_; have NB101_102 := n5_; have NB102_101 := n6_; clear n0_ n1_ n2_ n3_ n4_ n5_ n6_; clear hx_; clear hb hbox hg; have hnb27 := NB101_102.out; have hnc27 := NB102_101.out; have hcz28_0 : w26.cell? ⟨gb101, 0, none⟩ = some (.int .i64 a0_0) := (blk_cell BK101.out 0).trans rfl; have hcz28_1 : w26.cell? ⟨gb101, 1, none⟩ = some (.slice A0_1 l0_1.length c0_1) := (blk_cell BK101.out 1).trans rfl; have hcz28_2 : w26.cell? ⟨gb101, 2, none⟩ = some (.slice A0_2 l0_2.length c0_2) := (blk_cell BK101.out 2).trans rfl; have hfz28_0 := blk_frozen BK101.out 0; have hfz28_1 := blk_frozen BK101.out 1; have hfz28_2 := blk_frozen BK101.out 2; have hcz29_0 : w26.cell? ⟨gb102, 0, none⟩ = some (.int .i64 a1_0) := (blk_cell BK102.out 0).trans rfl; have hcz29_1 : w26.cell? ⟨gb102, 1, none⟩ = some (.slice A1_1 l1_1.length c1_1) := (blk_cell BK102.out 1).trans rfl; have hcz29_2 : w26.cell? ⟨gb102, 2, none⟩ = some (.slice A1_2 l1_2.length c1_2) := (blk_cell BK102.out 2).trans rfl; have hfz29_0 := blk_frozen BK102.out 0; have hfz29_1 := blk_frozen BK102.out 1; have hfz29_2 := blk_frozen BK102.out 2))
  go_ret
  exact ⟨qa4, qa5⟩

end Go.Proofs.Ytfiboooflebdpaa.Q
