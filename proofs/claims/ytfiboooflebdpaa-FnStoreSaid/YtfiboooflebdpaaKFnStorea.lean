/- Texts of the claim on FnStore, gathered by a program of this session: what the program's functions compute (proved by walks), and the plain part. -/
import Derived.Test.YtfiboooflebdpaaProg
import Derived.Shelf.Abstract
import Derived.Lib.SliceRun
import Derived.Below
import Derived.Deep.Draws
import Derived.Deep.AppendLies
import Derived.Maps.AppendAt
import Derived.OwnWalk
import Derived.Laws.BytesArg
import Derived.Laws.MakeOwn
import Derived.Laws.OwnMore
import Derived.Deep.OwnRows
import Derived.Tactics
import Derived.Lib.ConvBytes
import Derived.Laws.Slices
import Derived.WalkKit
import Derived.KernelRfl
import Derived.RowKit3
import Derived.Deep.LoopGhost
import Derived.Deep.QuietTactic
import Derived.BigQuiet
import Derived.WideLaws
import Derived.Deep.DeepCutAuto
import Derived.Deep.CutBlock
import Derived.Deep.RegionHeld3
import Derived.Laws.Rows
import Derived.Lib.AppendStr
import Derived.ArgAppend
import Derived.Laws.IdiomCopy
import Derived.OrdersHeld
import Derived.Laws.BitsLemmas
import Derived.RowKit
import Derived.Test.YtfiboooflebdpaaKFnStoreWWords
import Derived.Test.YtfiboooflebdpaaKFnStoreWLast
import Derived.Test.YtfiboooflebdpaaKFnStoreWTab
import Derived.Test.YtfiboooflebdpaaKFnStoreWQPut
import Derived.Test.YtfiboooflebdpaaKFnStoreWApart
import Derived.Test.YtfiboooflebdpaaKFnStoreWArr
import Derived.Test.YtfiboooflebdpaaKFnStoreWZeros
import Derived.Test.YtfiboooflebdpaaKFnStoreWFoot
import Derived.Test.YtfiboooflebdpaaKFnStoreWKept
import Derived.Test.YtfiboooflebdpaaKFnStoreWShare
import Derived.Test.YtfiboooflebdpaaKFnStoreWN
import Derived.Test.YtfiboooflebdpaaKFnStoreWEqStruct
import Derived.Test.YtfiboooflebdpaaKFnStoreWRepsOne
import Derived.Test.YtfiboooflebdpaaKFnStoreWGuard
import Derived.Test.YtfiboooflebdpaaKFnStoreWNEv
import Derived.Test.YtfiboooflebdpaaKFnStoreWMore
namespace Go.Proofs.Ytfiboooflebdpaa.Q
open Go.RowKit Go.Proofs.YtfiboooflebdpaaW.PrintWords Go.Proofs.YtfiboooflebdpaaW.PrintLast Go.Proofs.YtfiboooflebdpaaW.PrintMore
attribute [local go_sem] max2_int min2_int max_two min_two max_three min_three max_four min_four
set_option linter.unusedVariables false
set_option linter.unusedSimpArgs false



def errW : Option Int → Value
 | none => .nilIface
 | some c => .iface 0 (.int .i64 c)
theorem errW_none : errW none = .nilIface := rfl
theorem errW_some (c : Int) : errW (some c) = .iface 0 (.int .i64 c) := rfl

theorem info3 : (Try.prog.info? 3).map (fun i => (i.zero, i.size, i.bytes)) = some (some (.int .i64 0), 1, 8) := by kernel_rfl
theorem info41 : (Try.prog.info? 41).map (fun i => (i.zero, i.size, i.bytes)) = some (some (.slice none 0 0), 1, 24) := by kernel_rfl
theorem info43 : (Try.prog.info? 43).map (fun i => (i.zero, i.size, i.bytes)) = some (some (.agg #[(.int .i64 0), (.int .i64 0)]), 2, 16) := by kernel_rfl
theorem info58 : (Try.prog.info? 58).map (fun i => (i.zero, i.size, i.bytes)) = some (some (.agg #[(.int .i64 0), (.int .i64 0)]), 2, 16) := by kernel_rfl
-- the values' own types
/-! #### struct type 141 -/
structure S141 where
 f0 : Int
 f1 : Int
def z141 : S141 := ⟨(0 : Int), (0 : Int)⟩
def k141 : Kd S141 := Kd.iso (Kd.pair (Kd.int .i64) (Kd.int .i64)) (fun x : S141 => (x.f0, x.f1))
theorem k141_heap : Kd.Heap k141 := Kd.heap_iso _ (Kd.heap_pair (Kd.heap_int .i64) (Kd.heap_int .i64))
theorem k141_open {w : World} {x : S141} {cs : List Value} (h : k141.K w x cs) : cs = [.int .i64 x.f0, .int .i64 x.f1] := by
 obtain ⟨_, _, rfl, rfl, rfl⟩ := h
 exact rfl
theorem k141_openM {w : World} {base : Nat} {ok : Nat → Prop} {x : S141} {cs : List Value} (h : k141.M w base ok x cs) : cs = [.int .i64 x.f0, .int .i64 x.f1] := by
 obtain ⟨_, _, rfl, rfl, rfl⟩ := h
 exact rfl
theorem k141_mk (w : World) (x : S141)  : k141.K w x [.int .i64 x.f0, .int .i64 x.f1] := ⟨[.int .i64 x.f0], [.int .i64 x.f1], rfl, rfl, rfl⟩
theorem k141_mkM (w : World) (base : Nat) (ok : Nat → Prop) (x : S141)  : k141.M w base ok x [.int .i64 x.f0, .int .i64 x.f1] := ⟨[.int .i64 x.f0], [.int .i64 x.f1], rfl, rfl, rfl⟩
theorem k141_mkF (W : World) (ok : Nat → Prop) (x : S141) : Kd.FK k141 W ok x [.int .i64 x.f0, .int .i64 x.f1] := fun W2 _ => k141_mk W2 x
def rd_T141 (xs : List S141) (i : Int) : S141 := xs.getD i.toNat z141
theorem at_T141 {w : World} {A : Option Addr} {n : Nat} {xs : List S141} (h : Kd.C k141 w A n xs) (i : Int) (h0 : 0 ≤ i) (h1 : i < n) : ∃ ad , A = some ad ∧ w.cell? (ad.add (i.toNat * 2)) = some (.int .i64 (rd_T141 xs i).f0) ∧ w.cell? ⟨(ad.add (i.toNat * 2)).block, (ad.add (i.toNat * 2)).off + 1, none⟩ = some (.int .i64 (rd_T141 xs i).f1) := by
 obtain ⟨ad, c, e, _, hK, hc0⟩ := Kd.C_get h z141 i h0 h1
 have hc : ∀ j u, c[j]? = some u → w.cell? (ad.add (i.toNat * 2 + j)) = some u := hc0
 obtain rfl := k141_open hK
 exact ⟨ad, e, hc 0 _ rfl, by rw [← add_field _ _ 1 (by omega)]; exact hc 1 _ rfl⟩

def rd_L2 (xs : List (List S141)) (i : Int) : (List S141) := xs.getD i.toNat ([] : List S141)
theorem at_L2 {w : World} {A : Option Addr} {n : Nat} {xs : List (List S141)} (h : Kd.C (Kd.slice 141 k141) w A n xs) (i : Int) (h0 : 0 ≤ i) (h1 : i < n) : ∃ ad A0 c0, A = some ad ∧ w.cell? (ad.add i.toNat) = some (.slice A0 (rd_L2 xs i).length c0) ∧ (rd_L2 xs i).length ≤ c0 ∧ k141.C w A0 (rd_L2 xs i).length (rd_L2 xs i) := by
 obtain ⟨ad, c, e, _, hK, hc0⟩ := Kd.C_get h ([] : List S141) i h0 h1
 have hc : ∀ j u, c[j]? = some u → w.cell? (ad.add (i.toNat * 1 + j)) = some u := hc0
 obtain ⟨A0, c0, rfl, l0, g0⟩ := hK
 exact ⟨ad, A0, c0, e, by have hq := hc 0 _ rfl; rwa [Nat.mul_one, Nat.add_zero] at hq, l0, g0⟩

/-! #### struct type 43 -/
structure S43 where
 f0 : Int
 f1 : Int
def z43 : S43 := ⟨(0 : Int), (0 : Int)⟩
def k43 : Kd S43 := Kd.iso (Kd.pair (Kd.int .i64) (Kd.int .i64)) (fun x : S43 => (x.f0, x.f1))
theorem k43_heap : Kd.Heap k43 := Kd.heap_iso _ (Kd.heap_pair (Kd.heap_int .i64) (Kd.heap_int .i64))
theorem k43_open {w : World} {x : S43} {cs : List Value} (h : k43.K w x cs) : cs = [.int .i64 x.f0, .int .i64 x.f1] := by
 obtain ⟨_, _, rfl, rfl, rfl⟩ := h
 exact rfl
theorem k43_openM {w : World} {base : Nat} {ok : Nat → Prop} {x : S43} {cs : List Value} (h : k43.M w base ok x cs) : cs = [.int .i64 x.f0, .int .i64 x.f1] := by
 obtain ⟨_, _, rfl, rfl, rfl⟩ := h
 exact rfl
theorem k43_mk (w : World) (x : S43)  : k43.K w x [.int .i64 x.f0, .int .i64 x.f1] := ⟨[.int .i64 x.f0], [.int .i64 x.f1], rfl, rfl, rfl⟩
theorem k43_mkM (w : World) (base : Nat) (ok : Nat → Prop) (x : S43)  : k43.M w base ok x [.int .i64 x.f0, .int .i64 x.f1] := ⟨[.int .i64 x.f0], [.int .i64 x.f1], rfl, rfl, rfl⟩
theorem k43_mkF (W : World) (ok : Nat → Prop) (x : S43) : Kd.FK k43 W ok x [.int .i64 x.f0, .int .i64 x.f1] := fun W2 _ => k43_mk W2 x
def rd_T43 (xs : List S43) (i : Int) : S43 := xs.getD i.toNat z43
theorem at_T43 {w : World} {A : Option Addr} {n : Nat} {xs : List S43} (h : Kd.C k43 w A n xs) (i : Int) (h0 : 0 ≤ i) (h1 : i < n) : ∃ ad , A = some ad ∧ w.cell? (ad.add (i.toNat * 2)) = some (.int .i64 (rd_T43 xs i).f0) ∧ w.cell? ⟨(ad.add (i.toNat * 2)).block, (ad.add (i.toNat * 2)).off + 1, none⟩ = some (.int .i64 (rd_T43 xs i).f1) := by
 obtain ⟨ad, c, e, _, hK, hc0⟩ := Kd.C_get h z43 i h0 h1
 have hc : ∀ j u, c[j]? = some u → w.cell? (ad.add (i.toNat * 2 + j)) = some u := hc0
 obtain rfl := k43_open hK
 exact ⟨ad, e, hc 0 _ rfl, by rw [← add_field _ _ 1 (by omega)]; exact hc 1 _ rfl⟩

def rd_L4 (xs : List (List S43)) (i : Int) : (List S43) := xs.getD i.toNat ([] : List S43)
theorem at_L4 {w : World} {A : Option Addr} {n : Nat} {xs : List (List S43)} (h : Kd.C (Kd.slice 43 k43) w A n xs) (i : Int) (h0 : 0 ≤ i) (h1 : i < n) : ∃ ad A0 c0, A = some ad ∧ w.cell? (ad.add i.toNat) = some (.slice A0 (rd_L4 xs i).length c0) ∧ (rd_L4 xs i).length ≤ c0 ∧ k43.C w A0 (rd_L4 xs i).length (rd_L4 xs i) := by
 obtain ⟨ad, c, e, _, hK, hc0⟩ := Kd.C_get h ([] : List S43) i h0 h1
 have hc : ∀ j u, c[j]? = some u → w.cell? (ad.add (i.toNat * 1 + j)) = some u := hc0
 obtain ⟨A0, c0, rfl, l0, g0⟩ := hK
 exact ⟨ad, A0, c0, e, by have hq := hc 0 _ rfl; rwa [Nat.mul_one, Nat.add_zero] at hq, l0, g0⟩

def rd_L5 (xs : List (List (List S43))) (i : Int) : (List (List S43)) := xs.getD i.toNat ([] : List (List S43))
theorem at_L5 {w : World} {A : Option Addr} {n : Nat} {xs : List (List (List S43))} (h : Kd.C (Kd.slice 41 (Kd.slice 43 k43)) w A n xs) (i : Int) (h0 : 0 ≤ i) (h1 : i < n) : ∃ ad A0 c0, A = some ad ∧ w.cell? (ad.add i.toNat) = some (.slice A0 (rd_L5 xs i).length c0) ∧ (rd_L5 xs i).length ≤ c0 ∧ (Kd.slice 43 k43).C w A0 (rd_L5 xs i).length (rd_L5 xs i) := by
 obtain ⟨ad, c, e, _, hK, hc0⟩ := Kd.C_get h ([] : List (List S43)) i h0 h1
 have hc : ∀ j u, c[j]? = some u → w.cell? (ad.add (i.toNat * 1 + j)) = some u := hc0
 obtain ⟨A0, c0, rfl, l0, g0⟩ := hK
 exact ⟨ad, A0, c0, e, by have hq := hc 0 _ rfl; rwa [Nat.mul_one, Nat.add_zero] at hq, l0, g0⟩

/-! #### struct type 28 -/
structure S28 where
 f0 : (List (List S43))
 f1 : Int
def z28 : S28 := ⟨([] : List (List S43)), (0 : Int)⟩
def k28 : Kd S28 := Kd.iso (Kd.pair (Kd.slice 41 (Kd.slice 43 k43)) (Kd.int .i64)) (fun x : S28 => (x.f0, x.f1))
theorem k28_heap : Kd.Heap k28 := Kd.heap_iso _ (Kd.heap_pair (Kd.heap_slice 41 (Kd.heap_slice 43 k43_heap)) (Kd.heap_int .i64))
theorem k28_open {w : World} {x : S28} {cs : List Value} (h : k28.K w x cs) : ∃ A0 c0, cs = [.slice A0 x.f0.length c0, .int .i64 x.f1] ∧ x.f0.length ≤ c0 ∧ (Kd.slice 43 k43).C w A0 x.f0.length x.f0 := by
 obtain ⟨_, _, rfl, ⟨A0, c0, rfl, l0, g0⟩, rfl⟩ := h
 exact ⟨A0, c0, rfl, l0, g0⟩
theorem k28_openM {w : World} {base : Nat} {ok : Nat → Prop} {x : S28} {cs : List Value} (h : k28.M w base ok x cs) : ∃ v0, cs = [v0, .int .i64 x.f1] ∧ (Kd.slice 43 k43).R 41 w base ok v0 x.f0 := by
 obtain ⟨_, _, rfl, ⟨v0, rfl, g0⟩, rfl⟩ := h
 exact ⟨v0, rfl, g0⟩
theorem k28_mk (w : World) (x : S28) {A0 : Option Addr} {c0 : Nat} (l0 : x.f0.length ≤ c0) (g0 : (Kd.slice 43 k43).C w A0 x.f0.length x.f0) : k28.K w x [.slice A0 x.f0.length c0, .int .i64 x.f1] := ⟨[.slice A0 x.f0.length c0], [.int .i64 x.f1], rfl, ⟨A0, c0, rfl, l0, g0⟩, rfl⟩
theorem k28_mkM (w : World) (base : Nat) (ok : Nat → Prop) (x : S28) {v0 : Value} (g0 : (Kd.slice 43 k43).R 41 w base ok v0 x.f0) : k28.M w base ok x [v0, .int .i64 x.f1] := ⟨[v0], [.int .i64 x.f1], rfl, ⟨v0, rfl, g0⟩, rfl⟩
theorem k28_openF {W : World} {ok : Nat → Prop} {x : S28} {cs : List Value} (h : Kd.FK k28 W ok x cs) : ∃ A0 c0, cs = [.slice A0 x.f0.length c0, .int .i64 x.f1] ∧ x.f0.length ≤ c0 ∧ Kd.F (Kd.slice 43 k43) W ok A0 x.f0.length x.f0 := by
 obtain ⟨A0, c0, rfl, l0, _⟩ := k28_open (Kd.FK_now h)
 exact ⟨A0, c0, rfl, l0, (fun W' hW => by obtain ⟨A0_, c0_, he, l0_, g0_⟩ := k28_open (h W' hW); injection (Option.some.inj (show some (Value.slice A0 x.f0.length c0) = some (Value.slice A0_ x.f0.length c0_) from congrArg (fun l => l[0]?) he)) with ha_ _ _; rw [ha_]; exact g0_)⟩
theorem k28_mkF (W : World) (ok : Nat → Prop) (x : S28) {A0 : Option Addr} {c0 : Nat} (l0 : x.f0.length ≤ c0) (g0 : Kd.F (Kd.slice 43 k43) W ok A0 x.f0.length x.f0) : Kd.FK k28 W ok x [.slice A0 x.f0.length c0, .int .i64 x.f1] := fun W2 hW => k28_mk W2 x l0 (g0 W2 hW)
def rd_T28 (xs : List S28) (i : Int) : S28 := xs.getD i.toNat z28
theorem at_T28 {w : World} {A : Option Addr} {n : Nat} {xs : List S28} (h : Kd.C k28 w A n xs) (i : Int) (h0 : 0 ≤ i) (h1 : i < n) : ∃ ad A0 c0, A = some ad ∧ w.cell? (ad.add (i.toNat * 2)) = some (.slice A0 (rd_T28 xs i).f0.length c0) ∧ w.cell? ⟨(ad.add (i.toNat * 2)).block, (ad.add (i.toNat * 2)).off + 1, none⟩ = some (.int .i64 (rd_T28 xs i).f1) ∧ (rd_T28 xs i).f0.length ≤ c0 ∧ (Kd.slice 43 k43).C w A0 (rd_T28 xs i).f0.length (rd_T28 xs i).f0 := by
 obtain ⟨ad, c, e, _, hK, hc0⟩ := Kd.C_get h z28 i h0 h1
 have hc : ∀ j u, c[j]? = some u → w.cell? (ad.add (i.toNat * 2 + j)) = some u := hc0
 obtain ⟨A0, c0, rfl, l0, g0⟩ := k28_open hK
 exact ⟨ad, A0, c0, e, hc 0 _ rfl, by rw [← add_field _ _ 1 (by omega)]; exact hc 1 _ rfl, l0, g0⟩

/-! #### struct type 76 -/
structure S76 where
 f0 : Int
 f1 : Int
def z76 : S76 := ⟨(0 : Int), (0 : Int)⟩
def k76 : Kd S76 := Kd.iso (Kd.pair (Kd.int .i64) (Kd.int .i64)) (fun x : S76 => (x.f0, x.f1))
theorem k76_heap : Kd.Heap k76 := Kd.heap_iso _ (Kd.heap_pair (Kd.heap_int .i64) (Kd.heap_int .i64))
theorem k76_open {w : World} {x : S76} {cs : List Value} (h : k76.K w x cs) : cs = [.int .i64 x.f0, .int .i64 x.f1] := by
 obtain ⟨_, _, rfl, rfl, rfl⟩ := h
 exact rfl
theorem k76_openM {w : World} {base : Nat} {ok : Nat → Prop} {x : S76} {cs : List Value} (h : k76.M w base ok x cs) : cs = [.int .i64 x.f0, .int .i64 x.f1] := by
 obtain ⟨_, _, rfl, rfl, rfl⟩ := h
 exact rfl
theorem k76_mk (w : World) (x : S76)  : k76.K w x [.int .i64 x.f0, .int .i64 x.f1] := ⟨[.int .i64 x.f0], [.int .i64 x.f1], rfl, rfl, rfl⟩
theorem k76_mkM (w : World) (base : Nat) (ok : Nat → Prop) (x : S76)  : k76.M w base ok x [.int .i64 x.f0, .int .i64 x.f1] := ⟨[.int .i64 x.f0], [.int .i64 x.f1], rfl, rfl, rfl⟩
theorem k76_mkF (W : World) (ok : Nat → Prop) (x : S76) : Kd.FK k76 W ok x [.int .i64 x.f0, .int .i64 x.f1] := fun W2 _ => k76_mk W2 x
def rd_T76 (xs : List S76) (i : Int) : S76 := xs.getD i.toNat z76
theorem at_T76 {w : World} {A : Option Addr} {n : Nat} {xs : List S76} (h : Kd.C k76 w A n xs) (i : Int) (h0 : 0 ≤ i) (h1 : i < n) : ∃ ad , A = some ad ∧ w.cell? (ad.add (i.toNat * 2)) = some (.int .i64 (rd_T76 xs i).f0) ∧ w.cell? ⟨(ad.add (i.toNat * 2)).block, (ad.add (i.toNat * 2)).off + 1, none⟩ = some (.int .i64 (rd_T76 xs i).f1) := by
 obtain ⟨ad, c, e, _, hK, hc0⟩ := Kd.C_get h z76 i h0 h1
 have hc : ∀ j u, c[j]? = some u → w.cell? (ad.add (i.toNat * 2 + j)) = some u := hc0
 obtain rfl := k76_open hK
 exact ⟨ad, e, hc 0 _ rfl, by rw [← add_field _ _ 1 (by omega)]; exact hc 1 _ rfl⟩

/-! #### struct type 58 -/
structure S58 where
 f0 : Int
 f1 : Int
def z58 : S58 := ⟨(0 : Int), (0 : Int)⟩
def k58 : Kd S58 := Kd.iso (Kd.pair (Kd.int .i64) (Kd.int .i64)) (fun x : S58 => (x.f0, x.f1))
theorem k58_heap : Kd.Heap k58 := Kd.heap_iso _ (Kd.heap_pair (Kd.heap_int .i64) (Kd.heap_int .i64))
theorem k58_open {w : World} {x : S58} {cs : List Value} (h : k58.K w x cs) : cs = [.int .i64 x.f0, .int .i64 x.f1] := by
 obtain ⟨_, _, rfl, rfl, rfl⟩ := h
 exact rfl
theorem k58_openM {w : World} {base : Nat} {ok : Nat → Prop} {x : S58} {cs : List Value} (h : k58.M w base ok x cs) : cs = [.int .i64 x.f0, .int .i64 x.f1] := by
 obtain ⟨_, _, rfl, rfl, rfl⟩ := h
 exact rfl
theorem k58_mk (w : World) (x : S58)  : k58.K w x [.int .i64 x.f0, .int .i64 x.f1] := ⟨[.int .i64 x.f0], [.int .i64 x.f1], rfl, rfl, rfl⟩
theorem k58_mkM (w : World) (base : Nat) (ok : Nat → Prop) (x : S58)  : k58.M w base ok x [.int .i64 x.f0, .int .i64 x.f1] := ⟨[.int .i64 x.f0], [.int .i64 x.f1], rfl, rfl, rfl⟩
theorem k58_mkF (W : World) (ok : Nat → Prop) (x : S58) : Kd.FK k58 W ok x [.int .i64 x.f0, .int .i64 x.f1] := fun W2 _ => k58_mk W2 x
def rd_T58 (xs : List S58) (i : Int) : S58 := xs.getD i.toNat z58
theorem at_T58 {w : World} {A : Option Addr} {n : Nat} {xs : List S58} (h : Kd.C k58 w A n xs) (i : Int) (h0 : 0 ≤ i) (h1 : i < n) : ∃ ad , A = some ad ∧ w.cell? (ad.add (i.toNat * 2)) = some (.int .i64 (rd_T58 xs i).f0) ∧ w.cell? ⟨(ad.add (i.toNat * 2)).block, (ad.add (i.toNat * 2)).off + 1, none⟩ = some (.int .i64 (rd_T58 xs i).f1) := by
 obtain ⟨ad, c, e, _, hK, hc0⟩ := Kd.C_get h z58 i h0 h1
 have hc : ∀ j u, c[j]? = some u → w.cell? (ad.add (i.toNat * 2 + j)) = some u := hc0
 obtain rfl := k58_open hK
 exact ⟨ad, e, hc 0 _ rfl, by rw [← add_field _ _ 1 (by omega)]; exact hc 1 _ rfl⟩

def rd_L9 (xs : List (List S58)) (i : Int) : (List S58) := xs.getD i.toNat ([] : List S58)
theorem at_L9 {w : World} {A : Option Addr} {n : Nat} {xs : List (List S58)} (h : Kd.C (Kd.slice 58 k58) w A n xs) (i : Int) (h0 : 0 ≤ i) (h1 : i < n) : ∃ ad A0 c0, A = some ad ∧ w.cell? (ad.add i.toNat) = some (.slice A0 (rd_L9 xs i).length c0) ∧ (rd_L9 xs i).length ≤ c0 ∧ k58.C w A0 (rd_L9 xs i).length (rd_L9 xs i) := by
 obtain ⟨ad, c, e, _, hK, hc0⟩ := Kd.C_get h ([] : List S58) i h0 h1
 have hc : ∀ j u, c[j]? = some u → w.cell? (ad.add (i.toNat * 1 + j)) = some u := hc0
 obtain ⟨A0, c0, rfl, l0, g0⟩ := hK
 exact ⟨ad, A0, c0, e, by have hq := hc 0 _ rfl; rwa [Nat.mul_one, Nat.add_zero] at hq, l0, g0⟩

def rd_L11 (xs : List (List Int)) (i : Int) : (List Int) := xs.getD i.toNat ([] : List Int)
theorem at_L11 {w : World} {A : Option Addr} {n : Nat} {xs : List (List Int)} (h : Kd.C (Kd.slice 3 (Kd.int .i64)) w A n xs) (i : Int) (h0 : 0 ≤ i) (h1 : i < n) : ∃ ad A0 c0, A = some ad ∧ w.cell? (ad.add i.toNat) = some (.slice A0 (rd_L11 xs i).length c0) ∧ (rd_L11 xs i).length ≤ c0 ∧ (Kd.int .i64).C w A0 (rd_L11 xs i).length (rd_L11 xs i) := by
 obtain ⟨ad, c, e, _, hK, hc0⟩ := Kd.C_get h ([] : List Int) i h0 h1
 have hc : ∀ j u, c[j]? = some u → w.cell? (ad.add (i.toNat * 1 + j)) = some u := hc0
 obtain ⟨A0, c0, rfl, l0, g0⟩ := hK
 exact ⟨ad, A0, c0, e, by have hq := hc 0 _ rfl; rwa [Nat.mul_one, Nat.add_zero] at hq, l0, g0⟩

/-! #### struct type 65 -/
structure S65 where
 f0 : Int
 f1 : (List Int)
 f2 : (List S58)
def z65 : S65 := ⟨(0 : Int), ([] : List Int), ([] : List S58)⟩
def k65 : Kd S65 := Kd.iso (Kd.pair (Kd.int .i64) (Kd.pair (Kd.slice 3 (Kd.int .i64)) (Kd.slice 58 k58))) (fun x : S65 => (x.f0, x.f1, x.f2))
theorem k65_heap : Kd.Heap k65 := Kd.heap_iso _ (Kd.heap_pair (Kd.heap_int .i64) (Kd.heap_pair (Kd.heap_slice 3 (Kd.heap_int .i64)) (Kd.heap_slice 58 k58_heap)))
theorem k65_open {w : World} {x : S65} {cs : List Value} (h : k65.K w x cs) : ∃ A1 c1 A2 c2, cs = [.int .i64 x.f0, .slice A1 x.f1.length c1, .slice A2 x.f2.length c2] ∧ x.f1.length ≤ c1 ∧ (Kd.int .i64).C w A1 x.f1.length x.f1 ∧ x.f2.length ≤ c2 ∧ k58.C w A2 x.f2.length x.f2 := by
 obtain ⟨_, _, rfl, rfl, ⟨_, _, rfl, ⟨A1, c1, rfl, l1, g1⟩, ⟨A2, c2, rfl, l2, g2⟩⟩⟩ := h
 exact ⟨A1, c1, A2, c2, rfl, l1, g1, l2, g2⟩
theorem k65_openM {w : World} {base : Nat} {ok : Nat → Prop} {x : S65} {cs : List Value} (h : k65.M w base ok x cs) : ∃ v1 v2, cs = [.int .i64 x.f0, v1, v2] ∧ (Kd.int .i64).R 3 w base ok v1 x.f1 ∧ k58.R 58 w base ok v2 x.f2 := by
 obtain ⟨_, _, rfl, rfl, ⟨_, _, rfl, ⟨v1, rfl, g1⟩, ⟨v2, rfl, g2⟩⟩⟩ := h
 exact ⟨v1, v2, rfl, g1, g2⟩
theorem k65_mk (w : World) (x : S65) {A1 : Option Addr} {c1 : Nat} (l1 : x.f1.length ≤ c1) (g1 : (Kd.int .i64).C w A1 x.f1.length x.f1) {A2 : Option Addr} {c2 : Nat} (l2 : x.f2.length ≤ c2) (g2 : k58.C w A2 x.f2.length x.f2) : k65.K w x [.int .i64 x.f0, .slice A1 x.f1.length c1, .slice A2 x.f2.length c2] := ⟨[.int .i64 x.f0], [.slice A1 x.f1.length c1, .slice A2 x.f2.length c2], rfl, rfl, ⟨[.slice A1 x.f1.length c1], [.slice A2 x.f2.length c2], rfl, ⟨A1, c1, rfl, l1, g1⟩, ⟨A2, c2, rfl, l2, g2⟩⟩⟩
theorem k65_mkM (w : World) (base : Nat) (ok : Nat → Prop) (x : S65) {v1 : Value} (g1 : (Kd.int .i64).R 3 w base ok v1 x.f1) {v2 : Value} (g2 : k58.R 58 w base ok v2 x.f2) : k65.M w base ok x [.int .i64 x.f0, v1, v2] := ⟨[.int .i64 x.f0], [v1, v2], rfl, rfl, ⟨[v1], [v2], rfl, ⟨v1, rfl, g1⟩, ⟨v2, rfl, g2⟩⟩⟩
theorem k65_openF {W : World} {ok : Nat → Prop} {x : S65} {cs : List Value} (h : Kd.FK k65 W ok x cs) : ∃ A1 c1 A2 c2, cs = [.int .i64 x.f0, .slice A1 x.f1.length c1, .slice A2 x.f2.length c2] ∧ x.f1.length ≤ c1 ∧ Kd.F (Kd.int .i64) W ok A1 x.f1.length x.f1 ∧ x.f2.length ≤ c2 ∧ Kd.F k58 W ok A2 x.f2.length x.f2 := by
 obtain ⟨A1, c1, A2, c2, rfl, l1, _, l2, _⟩ := k65_open (Kd.FK_now h)
 exact ⟨A1, c1, A2, c2, rfl, l1, (fun W' hW => by obtain ⟨A1_, c1_, A2_, c2_, he, l1_, g1_, l2_, g2_⟩ := k65_open (h W' hW); injection (Option.some.inj (show some (Value.slice A1 x.f1.length c1) = some (Value.slice A1_ x.f1.length c1_) from congrArg (fun l => l[1]?) he)) with ha_ _ _; rw [ha_]; exact g1_), l2, (fun W' hW => by obtain ⟨A1_, c1_, A2_, c2_, he, l1_, g1_, l2_, g2_⟩ := k65_open (h W' hW); injection (Option.some.inj (show some (Value.slice A2 x.f2.length c2) = some (Value.slice A2_ x.f2.length c2_) from congrArg (fun l => l[2]?) he)) with ha_ _ _; rw [ha_]; exact g2_)⟩
theorem k65_mkF (W : World) (ok : Nat → Prop) (x : S65) {A1 : Option Addr} {c1 : Nat} (l1 : x.f1.length ≤ c1) (g1 : Kd.F (Kd.int .i64) W ok A1 x.f1.length x.f1) {A2 : Option Addr} {c2 : Nat} (l2 : x.f2.length ≤ c2) (g2 : Kd.F k58 W ok A2 x.f2.length x.f2) : Kd.FK k65 W ok x [.int .i64 x.f0, .slice A1 x.f1.length c1, .slice A2 x.f2.length c2] := fun W2 hW => k65_mk W2 x l1 (g1 W2 hW) l2 (g2 W2 hW)
def rd_T65 (xs : List S65) (i : Int) : S65 := xs.getD i.toNat z65
theorem at_T65 {w : World} {A : Option Addr} {n : Nat} {xs : List S65} (h : Kd.C k65 w A n xs) (i : Int) (h0 : 0 ≤ i) (h1 : i < n) : ∃ ad A1 c1 A2 c2, A = some ad ∧ w.cell? (ad.add (i.toNat * 3)) = some (.int .i64 (rd_T65 xs i).f0) ∧ w.cell? ⟨(ad.add (i.toNat * 3)).block, (ad.add (i.toNat * 3)).off + 1, none⟩ = some (.slice A1 (rd_T65 xs i).f1.length c1) ∧ w.cell? ⟨(ad.add (i.toNat * 3)).block, (ad.add (i.toNat * 3)).off + 2, none⟩ = some (.slice A2 (rd_T65 xs i).f2.length c2) ∧ (rd_T65 xs i).f1.length ≤ c1 ∧ (Kd.int .i64).C w A1 (rd_T65 xs i).f1.length (rd_T65 xs i).f1 ∧ (rd_T65 xs i).f2.length ≤ c2 ∧ k58.C w A2 (rd_T65 xs i).f2.length (rd_T65 xs i).f2 := by
 obtain ⟨ad, c, e, _, hK, hc0⟩ := Kd.C_get h z65 i h0 h1
 have hc : ∀ j u, c[j]? = some u → w.cell? (ad.add (i.toNat * 3 + j)) = some u := hc0
 obtain ⟨A1, c1, A2, c2, rfl, l1, g1, l2, g2⟩ := k65_open hK
 exact ⟨ad, A1, c1, A2, c2, e, hc 0 _ rfl, by rw [← add_field _ _ 1 (by omega)]; exact hc 1 _ rfl, by rw [← add_field _ _ 2 (by omega)]; exact hc 2 _ rfl, l1, g1, l2, g2⟩

def rd_L13 (xs : List (List (List S141))) (i : Int) : (List (List S141)) := xs.getD i.toNat ([] : List (List S141))
theorem at_L13 {w : World} {A : Option Addr} {n : Nat} {xs : List (List (List S141))} (h : Kd.C (Kd.slice 122 (Kd.slice 141 k141)) w A n xs) (i : Int) (h0 : 0 ≤ i) (h1 : i < n) : ∃ ad A0 c0, A = some ad ∧ w.cell? (ad.add i.toNat) = some (.slice A0 (rd_L13 xs i).length c0) ∧ (rd_L13 xs i).length ≤ c0 ∧ (Kd.slice 141 k141).C w A0 (rd_L13 xs i).length (rd_L13 xs i) := by
 obtain ⟨ad, c, e, _, hK, hc0⟩ := Kd.C_get h ([] : List (List S141)) i h0 h1
 have hc : ∀ j u, c[j]? = some u → w.cell? (ad.add (i.toNat * 1 + j)) = some u := hc0
 obtain ⟨A0, c0, rfl, l0, g0⟩ := hK
 exact ⟨ad, A0, c0, e, by have hq := hc 0 _ rfl; rwa [Nat.mul_one, Nat.add_zero] at hq, l0, g0⟩

/-! #### struct type 24 -/
structure S24 where
 f0 : (List (List S141))
 f1 : Int
def z24 : S24 := ⟨([] : List (List S141)), (0 : Int)⟩
def k24 : Kd S24 := Kd.iso (Kd.pair (Kd.slice 122 (Kd.slice 141 k141)) (Kd.int .i64)) (fun x : S24 => (x.f0, x.f1))
theorem k24_heap : Kd.Heap k24 := Kd.heap_iso _ (Kd.heap_pair (Kd.heap_slice 122 (Kd.heap_slice 141 k141_heap)) (Kd.heap_int .i64))
theorem k24_open {w : World} {x : S24} {cs : List Value} (h : k24.K w x cs) : ∃ A0 c0, cs = [.slice A0 x.f0.length c0, .int .i64 x.f1] ∧ x.f0.length ≤ c0 ∧ (Kd.slice 141 k141).C w A0 x.f0.length x.f0 := by
 obtain ⟨_, _, rfl, ⟨A0, c0, rfl, l0, g0⟩, rfl⟩ := h
 exact ⟨A0, c0, rfl, l0, g0⟩
theorem k24_openM {w : World} {base : Nat} {ok : Nat → Prop} {x : S24} {cs : List Value} (h : k24.M w base ok x cs) : ∃ v0, cs = [v0, .int .i64 x.f1] ∧ (Kd.slice 141 k141).R 122 w base ok v0 x.f0 := by
 obtain ⟨_, _, rfl, ⟨v0, rfl, g0⟩, rfl⟩ := h
 exact ⟨v0, rfl, g0⟩
theorem k24_mk (w : World) (x : S24) {A0 : Option Addr} {c0 : Nat} (l0 : x.f0.length ≤ c0) (g0 : (Kd.slice 141 k141).C w A0 x.f0.length x.f0) : k24.K w x [.slice A0 x.f0.length c0, .int .i64 x.f1] := ⟨[.slice A0 x.f0.length c0], [.int .i64 x.f1], rfl, ⟨A0, c0, rfl, l0, g0⟩, rfl⟩
theorem k24_mkM (w : World) (base : Nat) (ok : Nat → Prop) (x : S24) {v0 : Value} (g0 : (Kd.slice 141 k141).R 122 w base ok v0 x.f0) : k24.M w base ok x [v0, .int .i64 x.f1] := ⟨[v0], [.int .i64 x.f1], rfl, ⟨v0, rfl, g0⟩, rfl⟩
theorem k24_openF {W : World} {ok : Nat → Prop} {x : S24} {cs : List Value} (h : Kd.FK k24 W ok x cs) : ∃ A0 c0, cs = [.slice A0 x.f0.length c0, .int .i64 x.f1] ∧ x.f0.length ≤ c0 ∧ Kd.F (Kd.slice 141 k141) W ok A0 x.f0.length x.f0 := by
 obtain ⟨A0, c0, rfl, l0, _⟩ := k24_open (Kd.FK_now h)
 exact ⟨A0, c0, rfl, l0, (fun W' hW => by obtain ⟨A0_, c0_, he, l0_, g0_⟩ := k24_open (h W' hW); injection (Option.some.inj (show some (Value.slice A0 x.f0.length c0) = some (Value.slice A0_ x.f0.length c0_) from congrArg (fun l => l[0]?) he)) with ha_ _ _; rw [ha_]; exact g0_)⟩
theorem k24_mkF (W : World) (ok : Nat → Prop) (x : S24) {A0 : Option Addr} {c0 : Nat} (l0 : x.f0.length ≤ c0) (g0 : Kd.F (Kd.slice 141 k141) W ok A0 x.f0.length x.f0) : Kd.FK k24 W ok x [.slice A0 x.f0.length c0, .int .i64 x.f1] := fun W2 hW => k24_mk W2 x l0 (g0 W2 hW)
def rd_T24 (xs : List S24) (i : Int) : S24 := xs.getD i.toNat z24
theorem at_T24 {w : World} {A : Option Addr} {n : Nat} {xs : List S24} (h : Kd.C k24 w A n xs) (i : Int) (h0 : 0 ≤ i) (h1 : i < n) : ∃ ad A0 c0, A = some ad ∧ w.cell? (ad.add (i.toNat * 2)) = some (.slice A0 (rd_T24 xs i).f0.length c0) ∧ w.cell? ⟨(ad.add (i.toNat * 2)).block, (ad.add (i.toNat * 2)).off + 1, none⟩ = some (.int .i64 (rd_T24 xs i).f1) ∧ (rd_T24 xs i).f0.length ≤ c0 ∧ (Kd.slice 141 k141).C w A0 (rd_T24 xs i).f0.length (rd_T24 xs i).f0 := by
 obtain ⟨ad, c, e, _, hK, hc0⟩ := Kd.C_get h z24 i h0 h1
 have hc : ∀ j u, c[j]? = some u → w.cell? (ad.add (i.toNat * 2 + j)) = some u := hc0
 obtain ⟨A0, c0, rfl, l0, g0⟩ := k24_open hK
 exact ⟨ad, A0, c0, e, hc 0 _ rfl, by rw [← add_field _ _ 1 (by omega)]; exact hc 1 _ rfl, l0, g0⟩

def rd_L15 (xs : List (List S76)) (i : Int) : (List S76) := xs.getD i.toNat ([] : List S76)
theorem at_L15 {w : World} {A : Option Addr} {n : Nat} {xs : List (List S76)} (h : Kd.C (Kd.slice 76 k76) w A n xs) (i : Int) (h0 : 0 ≤ i) (h1 : i < n) : ∃ ad A0 c0, A = some ad ∧ w.cell? (ad.add i.toNat) = some (.slice A0 (rd_L15 xs i).length c0) ∧ (rd_L15 xs i).length ≤ c0 ∧ k76.C w A0 (rd_L15 xs i).length (rd_L15 xs i) := by
 obtain ⟨ad, c, e, _, hK, hc0⟩ := Kd.C_get h ([] : List S76) i h0 h1
 have hc : ∀ j u, c[j]? = some u → w.cell? (ad.add (i.toNat * 1 + j)) = some u := hc0
 obtain ⟨A0, c0, rfl, l0, g0⟩ := hK
 exact ⟨ad, A0, c0, e, by have hq := hc 0 _ rfl; rwa [Nat.mul_one, Nat.add_zero] at hq, l0, g0⟩

/-! #### struct type 75 -/
structure S75 where
 f0 : Int
 f1 : (List Int)
 f2 : (List S76)
def z75 : S75 := ⟨(0 : Int), ([] : List Int), ([] : List S76)⟩
def k75 : Kd S75 := Kd.iso (Kd.pair (Kd.int .i64) (Kd.pair (Kd.slice 3 (Kd.int .i64)) (Kd.slice 76 k76))) (fun x : S75 => (x.f0, x.f1, x.f2))
theorem k75_heap : Kd.Heap k75 := Kd.heap_iso _ (Kd.heap_pair (Kd.heap_int .i64) (Kd.heap_pair (Kd.heap_slice 3 (Kd.heap_int .i64)) (Kd.heap_slice 76 k76_heap)))
theorem k75_open {w : World} {x : S75} {cs : List Value} (h : k75.K w x cs) : ∃ A1 c1 A2 c2, cs = [.int .i64 x.f0, .slice A1 x.f1.length c1, .slice A2 x.f2.length c2] ∧ x.f1.length ≤ c1 ∧ (Kd.int .i64).C w A1 x.f1.length x.f1 ∧ x.f2.length ≤ c2 ∧ k76.C w A2 x.f2.length x.f2 := by
 obtain ⟨_, _, rfl, rfl, ⟨_, _, rfl, ⟨A1, c1, rfl, l1, g1⟩, ⟨A2, c2, rfl, l2, g2⟩⟩⟩ := h
 exact ⟨A1, c1, A2, c2, rfl, l1, g1, l2, g2⟩
theorem k75_openM {w : World} {base : Nat} {ok : Nat → Prop} {x : S75} {cs : List Value} (h : k75.M w base ok x cs) : ∃ v1 v2, cs = [.int .i64 x.f0, v1, v2] ∧ (Kd.int .i64).R 3 w base ok v1 x.f1 ∧ k76.R 76 w base ok v2 x.f2 := by
 obtain ⟨_, _, rfl, rfl, ⟨_, _, rfl, ⟨v1, rfl, g1⟩, ⟨v2, rfl, g2⟩⟩⟩ := h
 exact ⟨v1, v2, rfl, g1, g2⟩
theorem k75_mk (w : World) (x : S75) {A1 : Option Addr} {c1 : Nat} (l1 : x.f1.length ≤ c1) (g1 : (Kd.int .i64).C w A1 x.f1.length x.f1) {A2 : Option Addr} {c2 : Nat} (l2 : x.f2.length ≤ c2) (g2 : k76.C w A2 x.f2.length x.f2) : k75.K w x [.int .i64 x.f0, .slice A1 x.f1.length c1, .slice A2 x.f2.length c2] := ⟨[.int .i64 x.f0], [.slice A1 x.f1.length c1, .slice A2 x.f2.length c2], rfl, rfl, ⟨[.slice A1 x.f1.length c1], [.slice A2 x.f2.length c2], rfl, ⟨A1, c1, rfl, l1, g1⟩, ⟨A2, c2, rfl, l2, g2⟩⟩⟩
theorem k75_mkM (w : World) (base : Nat) (ok : Nat → Prop) (x : S75) {v1 : Value} (g1 : (Kd.int .i64).R 3 w base ok v1 x.f1) {v2 : Value} (g2 : k76.R 76 w base ok v2 x.f2) : k75.M w base ok x [.int .i64 x.f0, v1, v2] := ⟨[.int .i64 x.f0], [v1, v2], rfl, rfl, ⟨[v1], [v2], rfl, ⟨v1, rfl, g1⟩, ⟨v2, rfl, g2⟩⟩⟩
theorem k75_openF {W : World} {ok : Nat → Prop} {x : S75} {cs : List Value} (h : Kd.FK k75 W ok x cs) : ∃ A1 c1 A2 c2, cs = [.int .i64 x.f0, .slice A1 x.f1.length c1, .slice A2 x.f2.length c2] ∧ x.f1.length ≤ c1 ∧ Kd.F (Kd.int .i64) W ok A1 x.f1.length x.f1 ∧ x.f2.length ≤ c2 ∧ Kd.F k76 W ok A2 x.f2.length x.f2 := by
 obtain ⟨A1, c1, A2, c2, rfl, l1, _, l2, _⟩ := k75_open (Kd.FK_now h)
 exact ⟨A1, c1, A2, c2, rfl, l1, (fun W' hW => by obtain ⟨A1_, c1_, A2_, c2_, he, l1_, g1_, l2_, g2_⟩ := k75_open (h W' hW); injection (Option.some.inj (show some (Value.slice A1 x.f1.length c1) = some (Value.slice A1_ x.f1.length c1_) from congrArg (fun l => l[1]?) he)) with ha_ _ _; rw [ha_]; exact g1_), l2, (fun W' hW => by obtain ⟨A1_, c1_, A2_, c2_, he, l1_, g1_, l2_, g2_⟩ := k75_open (h W' hW); injection (Option.some.inj (show some (Value.slice A2 x.f2.length c2) = some (Value.slice A2_ x.f2.length c2_) from congrArg (fun l => l[2]?) he)) with ha_ _ _; rw [ha_]; exact g2_)⟩
theorem k75_mkF (W : World) (ok : Nat → Prop) (x : S75) {A1 : Option Addr} {c1 : Nat} (l1 : x.f1.length ≤ c1) (g1 : Kd.F (Kd.int .i64) W ok A1 x.f1.length x.f1) {A2 : Option Addr} {c2 : Nat} (l2 : x.f2.length ≤ c2) (g2 : Kd.F k76 W ok A2 x.f2.length x.f2) : Kd.FK k75 W ok x [.int .i64 x.f0, .slice A1 x.f1.length c1, .slice A2 x.f2.length c2] := fun W2 hW => k75_mk W2 x l1 (g1 W2 hW) l2 (g2 W2 hW)
def rd_T75 (xs : List S75) (i : Int) : S75 := xs.getD i.toNat z75
theorem at_T75 {w : World} {A : Option Addr} {n : Nat} {xs : List S75} (h : Kd.C k75 w A n xs) (i : Int) (h0 : 0 ≤ i) (h1 : i < n) : ∃ ad A1 c1 A2 c2, A = some ad ∧ w.cell? (ad.add (i.toNat * 3)) = some (.int .i64 (rd_T75 xs i).f0) ∧ w.cell? ⟨(ad.add (i.toNat * 3)).block, (ad.add (i.toNat * 3)).off + 1, none⟩ = some (.slice A1 (rd_T75 xs i).f1.length c1) ∧ w.cell? ⟨(ad.add (i.toNat * 3)).block, (ad.add (i.toNat * 3)).off + 2, none⟩ = some (.slice A2 (rd_T75 xs i).f2.length c2) ∧ (rd_T75 xs i).f1.length ≤ c1 ∧ (Kd.int .i64).C w A1 (rd_T75 xs i).f1.length (rd_T75 xs i).f1 ∧ (rd_T75 xs i).f2.length ≤ c2 ∧ k76.C w A2 (rd_T75 xs i).f2.length (rd_T75 xs i).f2 := by
 obtain ⟨ad, c, e, _, hK, hc0⟩ := Kd.C_get h z75 i h0 h1
 have hc : ∀ j u, c[j]? = some u → w.cell? (ad.add (i.toNat * 3 + j)) = some u := hc0
 obtain ⟨A1, c1, A2, c2, rfl, l1, g1, l2, g2⟩ := k75_open hK
 exact ⟨ad, A1, c1, A2, c2, e, hc 0 _ rfl, by rw [← add_field _ _ 1 (by omega)]; exact hc 1 _ rfl, by rw [← add_field _ _ 2 (by omega)]; exact hc 2 _ rfl, l1, g1, l2, g2⟩

def rd_L18 (xs : List (List Int)) (i : Int) : (List Int) := xs.getD i.toNat ([] : List Int)
theorem at_L18 {w : World} {A : Option Addr} {n : Nat} {xs : List (List Int)} (h : Kd.C (Kd.slice 5 (Kd.int .u8)) w A n xs) (i : Int) (h0 : 0 ≤ i) (h1 : i < n) : ∃ ad A0 c0, A = some ad ∧ w.cell? (ad.add i.toNat) = some (.slice A0 (rd_L18 xs i).length c0) ∧ (rd_L18 xs i).length ≤ c0 ∧ (Kd.int .u8).C w A0 (rd_L18 xs i).length (rd_L18 xs i) := by
 obtain ⟨ad, c, e, _, hK, hc0⟩ := Kd.C_get h ([] : List Int) i h0 h1
 have hc : ∀ j u, c[j]? = some u → w.cell? (ad.add (i.toNat * 1 + j)) = some u := hc0
 obtain ⟨A0, c0, rfl, l0, g0⟩ := hK
 exact ⟨ad, A0, c0, e, by have hq := hc 0 _ rfl; rwa [Nat.mul_one, Nat.add_zero] at hq, l0, g0⟩

end Go.Proofs.Ytfiboooflebdpaa.Q
namespace Go.Proofs.Ytfiboooflebdpaa.Q
open Go.RowKit Go.Proofs.YtfiboooflebdpaaW.PrintWords
theorem qzA {α : Type} (l : List α) (i : Nat) (a : α) : l.toArray.setIfInBounds i a = (l.set i a).toArray := List.setIfInBounds_toArray l i a
theorem qzB {α : Type} {a b : α} {t : List α} : (a :: t).set 0 b = b :: t := rfl
theorem qzC {α : Type} {a b : α} {t : List α} {n : Nat} : (a :: t).set (n + 1) b = a :: t.set n b := rfl
theorem qbN {B : Nat} {w W : World} (h : Below B w W) (n : Nat) : Below B w (W.drewN n) := pw_below_drewN h n
theorem qbA {w W : World} (h : Below w.heap.size w W) (o : Obj) : Below w.heap.size w (W.alloc o) := below_alloc h o
theorem qbD {base : Nat} {w W : World} (h : Below base w W) : Below base w W.drew := below_drew1 h
theorem qbS {w W : World} {g j : Nat} {v : Value} (h : Below w.heap.size w W) (hg : w.heap.size ≤ g) : Below w.heap.size w (W.setCell ⟨g, j, none⟩ v) := below_set h hg
theorem qO {p : Prop} (h : p) : Aside0 p := ⟨h⟩
theorem qT {p : Prop} [Decidable p] (h : decide p = true) : p := of_decide_eq_true h
theorem qL (w : World) (a : Addr) {v : Value} (h : w.cell? a = some v) : a.block < w.heap.size := World.block_lt_of_cell? w a h
theorem qkN {w : World} {g : Nat} {o : Obj} (h : w.heap[g]? = some o) (n : Nat) : (w.drewN n).heap[g]? = some o := h
theorem qkD {w : World} {g : Nat} {o : Obj} (h : w.heap[g]? = some o) : w.drew.heap[g]? = some o := h
theorem qkA {w : World} {g : Nat} {o : Obj} (h : w.heap[g]? = some o) (o' : Obj) : (w.alloc o').heap[g]? = some o := blk_alloc h o'
theorem qB {Wf W wn : World} {g : Nat} {o : Obj} (h : Wf.heap[g]? = some o) (hx : Below Wf.heap.size Wf W) (hb : Below W.heap.size W wn) : wn.heap[g]? = some o := blk_below (blk_below h hx) hb
theorem qHX {B : Nat} {v Wf W wn : World} (_h : Aside0 (Below B v Wf)) (_hb : Below W.heap.size W wn) (hx : Below Wf.heap.size Wf W) : Below Wf.heap.size Wf W := hx
theorem qa0 {P : Prop} (h : P := by (try simp only [List.map_toArray, List.map_cons, List.map_nil]); first | done | rfl | (simp only [List.length_drop, List.length_take]; rfl)) : P := h
theorem qa1 {P : Prop} (h : P := by with_reducible repeat (first | refine qbN ?_ _ | refine qbD ?_ | refine qbA ?_ _ | exact Below.refl _ _)) : P := h
theorem qa2 {P : Prop} (h : P := by first | (with_reducible assumption) | assumption) : P := h
theorem qa3 {P : Prop} (h : P := by simp only [Act.put, qzA, qzB, qzC, i64_w, i32_w]; rfl) : P := h
theorem qa4 {P : Prop} (h : P := by (with_reducible repeat (first | refine qkN ?_ _ | refine qkD ?_ | refine qkA ?_ _)); exact BK101.out) : P := h
theorem qa5 {P : Prop} (h : P := by repeat (first | (with_reducible first | exact HB.out | apply qbA | apply qbN | apply qbD | refine qbS ?_ GE101.out) | exact HB.out)) : P := h
theorem qa6 {P : Prop} (h : P := by repeat (first | (with_reducible first | exact HB.out | apply q73bA | apply q73bN | apply q73bD | refine q73bS ?_ GE101.out | refine q73bS ?_ GE102.out) | exact HB.out)) : P := h
theorem qa7 {P : Prop} (h : P := by kernel_rfl) : P := h
theorem qa8 {P : Prop} (h : P := by rw [hg]; exact Nat.ne_of_lt (blk_lt (g := gb101) (o := .cells #[.slice A0_0 l0_0.length c0_0, .int .i64 a0_1] 28 (0, 0)) (by (with_reducible repeat (first | refine qkN ?_ _ | refine qkD ?_ | refine qkA ?_ _)); exact BK101.out))) : P := h
theorem qa9 {P : Prop} (h : P := by first | rfl | (simp [errW_none, errW_some] <;> rfl) | (simp [*, errW_none, errW_some] <;> rfl)) : P := h
theorem qa10 {P : Prop} (h : P := by intro w'; go_simp; with_reducible rfl) : P := h
theorem qa11 {P : Prop} (h : P := by repeat (first | exact (Kd.C_below HR0_0.out HB.out) | with_reducible first | refine Kd.C_alloc ?_ _ | refine Kd.C_drewN ?_ _ | refine Kd.C_drew ?_)) : P := h
theorem qa12 {P : Prop} (h : P := by rw [hg]; exact Nat.ne_of_lt (blk_lt (g := gb101) (o := .cells #[.slice (some ad103) l0_0.length c0_0, .int .i64 a0_1] 28 (0, 0)) (by (with_reducible repeat (first | refine qkN ?_ _ | refine qkD ?_ | refine qkA ?_ _)); exact BK101.out))) : P := h
theorem qa13 {P : Prop} (h : P := by repeat (first | (with_reducible first | exact HK.out | apply KeepBut.set_ | apply keep_drewN | apply keep_drew | apply keep_alloc | refine keep_far ?_ GW101.out _ | refine keep_far ?_ GW106.out _) | exact HK.out)) : P := h
theorem qa14 {P : Prop} (h : P := by repeat (first | (with_reducible first | exact HI0.out | apply IsS128.alloc | apply IsS128.drewN | apply IsS128.drew | apply IsS128.set_1 | apply IsS128.set_2 | refine IsS128.far ?_ NB0_101.out _ | refine IsS128.far ?_ NB0_106.out _) | exact HI0.out)) : P := h
theorem qa15 {P : Prop} (h : P := by repeat (first | (with_reducible first | exact HI0.out | apply IsS128.alloc | apply IsS128.drewN | apply IsS128.drew | apply IsS128.set_1 | apply IsS128.set_2) | exact HI0.out)) : P := h
theorem qa16 {P : Prop} (h : P := by first | (go_simp; done) | (go_simp; rfl)) : P := h
theorem qa17 {P : Prop} (h : P := by rw [hg]; exact (below_size (below_step HB.out hx_))) : P := h
theorem qa18 {P : Prop} (h : P := by first | rfl | (simp; done) | (simp [*]; done)) : P := h
theorem qa19 {P : Prop} (h : P := by repeat (first | (with_reducible first | exact HB.out | apply qbA | apply qbN | apply qbD | refine qbS ?_ GE101.out | refine qbS ?_ GE102.out) | exact HB.out)) : P := h
theorem qa20 {P : Prop} (h : P := by show Act.put _ (some _) _ = _; simp only [Act.put, qzA, qzB, qzC, i64_w, i32_w]; rfl) : P := h
theorem qa21 {P : Prop} (h : P := by repeat (first | (with_reducible first | exact HK.out | apply KeepBut.set_ | apply keep_drewN | apply keep_drew | apply keep_alloc) | exact HK.out)) : P := h
theorem qa22 {P : Prop} (h : P := by repeat (first | (with_reducible first | exact HB.out | apply qbA | apply qbN | apply qbD | refine qbS ?_ (IsS128.ge HI0.out)) | exact HB.out)) : P := h
theorem qa23 {P : Prop} (h : P := by (with_reducible repeat (first | refine qkN ?_ _ | refine qkD ?_ | refine qkA ?_ _)); refine blk_far ?_ NB101_106.out _; (with_reducible repeat (first | refine qkN ?_ _ | refine qkD ?_ | refine qkA ?_ _)); refine blk_far ?_ NB101_106.out _; (with_reducible repeat (first | refine qkN ?_ _ | refine qkD ?_ | refine qkA ?_ _)); exact BK101.out) : P := h
theorem qa24 {P : Prop} (h : P := by (with_reducible repeat (first | refine q73kN ?_ _ | refine q73kD ?_ | refine q73kA ?_ _)); exact BK101.out) : P := h
theorem qa25 {P : Prop} (h : P := by repeat (first | (with_reducible first | exact HB.out | apply qbA | apply qbN | apply qbD | refine qbS ?_ (IsS128.ge HI0.out) | refine qbS ?_ GE101.out | refine qbS ?_ GE106.out) | exact HB.out)) : P := h
theorem qa26 {P : Prop} (h : P := by (with_reducible repeat (first | refine qkN ?_ _ | refine qkD ?_ | refine qkA ?_ _)); exact BK102.out) : P := h
theorem qa27 {P : Prop} (h : P := by (with_reducible repeat (first | refine q73kN ?_ _ | refine q73kD ?_ | refine q73kA ?_ _)); exact BK102.out) : P := h
theorem qa28 {P : Prop} (h : P := by show Act.put _ (some _) _ = _; simp only [Act.put, q73zA, q73zB, q73zC, i64_w, i32_w]; rfl) : P := h
theorem qa29 {P : Prop} (h : P := by rw [hg]; exact (below_size (by repeat (first | (with_reducible first | exact HB.out | apply qbA | apply qbN | apply qbD | refine qbS ?_ GE101.out) | exact HB.out)))) : P := h
theorem qa30 {P : Prop} (h : P := by repeat (first | (with_reducible first | exact HB.out | apply qbA | apply qbN | apply qbD | refine qbS ?_ GE105.out | refine qbS ?_ GE115.out | refine qbS ?_ GE122.out) | exact HB.out)) : P := h
theorem qa31 {P : Prop} (h : P := by (with_reducible repeat (first | refine qkN ?_ _ | refine qkD ?_ | refine qkA ?_ _)); exact BK106.out) : P := h
theorem qa32 {P : Prop} (h : P := by repeat (first | (with_reducible first | exact HB.out | apply qbA | apply qbN | apply qbD | refine qbS ?_ GE101.out | refine qbS ?_ GE102.out | refine qbS ?_ GE106.out) | exact HB.out)) : P := h
theorem qa33 {P : Prop} (h : P := by repeat (first | (with_reducible exact HR108_0.out) | (with_reducible refine Kd.C_alloc ?_ _) | (with_reducible refine Kd.C_drewN ?_ _) | (with_reducible refine Kd.C_drew ?_) | exact HR108_0.out)) : P := h
theorem qa34 {P : Prop} (h : P := by omega) : P := h
theorem qa35 {P : Prop} (h : P := by (with_reducible repeat (first | refine qkN ?_ _ | refine qkD ?_ | refine qkA ?_ _)); refine blk_put (cs := #[.slice none 0 0, .int .i64 0]) ?_ 1 _ rfl; (with_reducible repeat (first | refine qkN ?_ _ | refine qkD ?_ | refine qkA ?_ _)); refine blk_put (cs := #[.slice none 0 0, .int .i64 0]) ?_ 0 _ rfl; (with_reducible repeat (first | refine qkN ?_ _ | refine qkD ?_ | refine qkA ?_ _)); exact BK102.out) : P := h
theorem qa36 {P : Prop} (h : P := by refine (Kd.S_reads' (e := 41) (base := w.heap.size) (ok := fun k_ => ((True ∧ some k_ ≠ (.slice Ao13 t101.length co13 : Value).ownBlock) ∧ some k_ ≠ (.slice Ao26 t116.length co26 : Value).ownBlock)) (n := t109.length) (c := co20) ?_).2.2; exact (by (with_reducible repeat (first | apply Kd.S_alloc | apply Kd.S_drewN | apply Kd.S_drew)); exact (Kd.S_mono (Kd.S_far (p := ⟨gb122, 1, none⟩) (Kd.S_far (p := ⟨gb122, 0, none⟩) (Kd.S_types HO111.out BK122.out (by decide)) (fun _ hk => hk.2) (.slice Ao26 t116.length co26)) (fun _ hk => hk.2) (.int .i64 t119)) (fun _ h_ => h_.1)))) : P := h
theorem qa37 {P : Prop} (h : P := by refine (Kd.S_reads' (e := 41) (base := w.heap.size) (ok := fun k_ => ((True ∧ some k_ ≠ (.slice Ao13 t101.length co13 : Value).ownBlock) ∧ some k_ ≠ (.slice Ao20 t109.length co20 : Value).ownBlock)) (n := t116.length) (c := co26) ?_).2.2; exact (by (with_reducible repeat (first | apply Kd.S_alloc | apply Kd.S_drewN | apply Kd.S_drew)); exact (Kd.S_mono (Kd.S_far (p := ⟨gb122, 1, none⟩) (Kd.S_far (p := ⟨gb122, 0, none⟩) (Kd.S_types HO118.out BK122.out (by decide)) (fun _ hk => hk.2) (.slice Ao26 t116.length co26)) (fun _ hk => hk.2) (.int .i64 t119)) (fun _ h_ => h_.1)))) : P := h
theorem qa38 {P : Prop} (h : P := by rw [hg]; exact (below_size (by repeat (first | (with_reducible first | exact HB.out | apply qbA | apply qbN | apply qbD) | exact HB.out)))) : P := h
theorem qa39 {P : Prop} (h : P := by first | (rw [add_block]; exact hn107_0) | (show (Addr.add _ _).block ≠ _; rw [add_block]; exact hn107_0) | exact hn107_0) : P := h
theorem qa40 {P : Prop} (h : P := by first | (rw [add_block]; exact hn107_1) | (show (Addr.add _ _).block ≠ _; rw [add_block]; exact hn107_1) | exact hn107_1) : P := h
theorem qa41 {P : Prop} (h : P := by exact (below_size (by repeat (first | (with_reducible first | exact HB.out | apply q73bA | apply q73bN | apply q73bD | refine q73bS ?_ GE101.out | refine q73bS ?_ GE102.out) | exact HB.out)))) : P := h
theorem qa42 {P : Prop} (h : P := by (with_reducible repeat (first | refine qkN ?_ _ | refine qkD ?_ | refine qkA ?_ _)); refine blk_put (cs := #[.int .i64 ((rd_T43 (rd_L4 l0_0 x3_2) x4_3).f0), .int .i64 0]) ?_ 1 _ rfl; (with_reducible repeat (first | refine qkN ?_ _ | refine qkD ?_ | refine qkA ?_ _)); refine blk_put (cs := #[.int .i64 0, .int .i64 0]) ?_ 0 _ rfl; (with_reducible repeat (first | refine qkN ?_ _ | refine qkD ?_ | refine qkA ?_ _)); exact BK106.out) : P := h
theorem qa43 {P : Prop} (h : P := by repeat (first | (with_reducible first | exact HK.out | apply KeepBut.set_ | apply keep_drewN | apply keep_drew | apply keep_alloc | refine keep_far ?_ GW101.out _) | exact HK.out)) : P := h
theorem qa44 {P : Prop} (h : P := by rw [hg]; exact Nat.ne_of_lt (blk_lt (g := gb102) (o := .cells #[.slice none 0 0, .int .i64 0] 28 (0, 0)) (by (with_reducible repeat (first | refine qkN ?_ _ | refine qkD ?_ | refine qkA ?_ _)); exact BK102.out))) : P := h
theorem qa45 {P : Prop} (h : P := by (with_reducible repeat (first | refine qkN ?_ _ | refine qkD ?_ | refine qkA ?_ _)); refine blk_put (cs := #[.slice Ao26 t116.length co26, .int .i64 0]) ?_ 1 _ rfl; (with_reducible repeat (first | refine qkN ?_ _ | refine qkD ?_ | refine qkA ?_ _)); refine blk_put (cs := #[.slice none 0 0, .int .i64 0]) ?_ 0 _ rfl; (with_reducible repeat (first | refine qkN ?_ _ | refine qkD ?_ | refine qkA ?_ _)); exact BK122.out) : P := h
theorem qa46 {P : Prop} (h : P := by exact (Reps.c2 (show Kd.M k43 _ _ _ (⟨(wrap64 (t106 + 1)), (rd_T58 l1 x5_1).f1⟩ : S43) [.int .i64 (wrap64 (t106 + 1)), .int .i64 ((rd_T58 l1 x5_1).f1)] from (k43_mkM _ _ _ (⟨(wrap64 (t106 + 1)), (rd_T58 l1 x5_1).f1⟩ : S43) )) (Reps.none _ _))) : P := h
theorem qa47 {P : Prop} (h : P := by repeat (first | (with_reducible first | exact HI0.out | apply IsS128.alloc | apply IsS128.drewN | apply IsS128.drew | apply IsS128.set_1 | apply IsS128.set_2 | refine IsS128.far ?_ NB0_101.out _) | exact HI0.out)) : P := h
theorem qa48 {P : Prop} (h : P := by exact (by repeat (first | (with_reducible first | exact HB.out | apply q73bA | apply q73bN | apply q73bD | refine q73bS ?_ GE101.out | refine q73bS ?_ GE102.out) | exact HB.out))) : P := h
theorem qa49 {P : Prop} (h : P := by (with_reducible repeat (first | apply Kd.N_alloc | apply Kd.N_drewN | apply Kd.N_drew)); exact HO_102000.out) : P := h
theorem qa50 {P : Prop} (h : P := by (with_reducible repeat (first | apply Kd.R_alloc | apply Kd.R_drewN | apply Kd.R_drew)); exact HO_6.out) : P := h
theorem qa51 {P : Prop} (h : P := by repeat (first | exact (by repeat (first | (with_reducible exact HR108_0.out) | (with_reducible refine Kd.C_alloc ?_ _) | (with_reducible refine Kd.C_drewN ?_ _) | (with_reducible refine Kd.C_drew ?_) | exact HR108_0.out)) | with_reducible first | refine Kd.C_alloc ?_ _ | refine Kd.C_drewN ?_ _ | refine Kd.C_drew ?_)) : P := h
theorem qa52 {P : Prop} (h : P := by simp only [Act.put, qzA, qzB, qzC, i64_w, i32_w, hji3]; rfl) : P := h
theorem qa53 {P : Prop} (h : P := by (with_reducible repeat (first | refine qkN ?_ _ | refine qkD ?_ | refine qkA ?_ _)); refine blk_far ?_ NB105_122.out _; (with_reducible repeat (first | refine qkN ?_ _ | refine qkD ?_ | refine qkA ?_ _)); refine blk_far ?_ NB105_122.out _; (with_reducible repeat (first | refine qkN ?_ _ | refine qkD ?_ | refine qkA ?_ _)); exact BK105.out) : P := h
theorem qa54 {P : Prop} (h : P := by (with_reducible repeat (first | refine qkN ?_ _ | refine qkD ?_ | refine qkA ?_ _)); refine blk_far ?_ NB115_122.out _; (with_reducible repeat (first | refine qkN ?_ _ | refine qkD ?_ | refine qkA ?_ _)); refine blk_far ?_ NB115_122.out _; (with_reducible repeat (first | refine qkN ?_ _ | refine qkD ?_ | refine qkA ?_ _)); exact BK115.out) : P := h
theorem qa55 {P : Prop} (h : P := by rintro w' ⟨s0, s1, s2, s3⟩; go_simp; with_reducible rfl) : P := h
theorem qa56 {P : Prop} (h : P := by rw [hg]; exact (keep_size (w := w) (g := g) (row := none) (by repeat (first | (with_reducible first | exact HK.out | apply KeepBut.set_ | apply keep_drewN | apply keep_drew | apply keep_alloc | refine keep_far ?_ GW101.out _ | refine keep_far ?_ GW106.out _) | exact HK.out)))) : P := h
theorem qa57 {P : Prop} (h : P := by repeat (first | (with_reducible first | exact HB.out | apply qbA | apply qbN | apply qbD | refine qbS ?_ (IsS128.ge HI0.out) | refine qbS ?_ GE101.out) | exact HB.out)) : P := h
theorem qa58 {P : Prop} (h : P := by (with_reducible repeat (first | apply Kd.V_alloc | apply Kd.V_drewN | apply Kd.V_drew)); exact HL108_0.out) : P := h
theorem qa59 {P : Prop} (h : P := by repeat (first | (with_reducible first | exact HB.out | apply qbA | apply qbN | apply qbD | refine qbS ?_ GE101.out | refine qbS ?_ GE106.out) | exact HB.out)) : P := h
theorem qa60 {P : Prop} (h : P := by (with_reducible repeat (first | apply Kd.S_alloc | apply Kd.S_drewN | apply Kd.S_drew)); exact HO_106000.out) : P := h
theorem qa61 {P : Prop} (h : P := by (with_reducible repeat (first | apply Kd.S_alloc | apply Kd.S_drewN | apply Kd.S_drew)); exact HO_116000.out) : P := h
theorem qa62 {P : Prop} (h : P := by (with_reducible repeat (first | apply Kd.S_alloc | apply Kd.S_drewN | apply Kd.S_drew)); exact HO_123000.out) : P := h
theorem qa63 {P : Prop} (h : P := by repeat (first | exact (Kd.C_below HR1.out HB.out) | with_reducible first | refine Kd.C_alloc ?_ _ | refine Kd.C_drewN ?_ _ | refine Kd.C_drew ?_)) : P := h
theorem qa64 {P : Prop} (h : P := by repeat (first | (with_reducible first | exact HK.out | apply KeepBut.set_ | apply keep_drewN | apply keep_drew | apply keep_alloc | refine keep_far ?_ GW101.out _ | refine keep_far ?_ GW106.out _ | refine keep_far ?_ GW137.out _) | exact HK.out)) : P := h
theorem qa65 {P : Prop} (h : P := by (with_reducible repeat (first | apply Kd.V_alloc | apply Kd.V_drewN | apply Kd.V_drew)); exact HO_107000.out) : P := h
theorem qa66 {P : Prop} (h : P := by rw [hg]; exact Nat.ne_of_gt (blk_lt (g := gb101) (o := .cells #[.slice (some ad103) l0_0.length c0_0, .int .i64 a0_1] 28 (0, 0)) (by (with_reducible repeat (first | refine qkN ?_ _ | refine qkD ?_ | refine qkA ?_ _)); exact BK101.out))) : P := h
theorem qa67 {P : Prop} (h : P := by repeat (first | (with_reducible first | exact HB.out | apply qbA | apply qbN | apply qbD) | exact HB.out)) : P := h
theorem qa68 {P : Prop} (h : P := by repeat (first | exact Drawn0.refl _ | apply Drawn0.step)) : P := h
theorem qa69 {P : Prop} (h : P := by decide) : P := h
theorem qa70 {P : Prop} (h : P := by rw [hw]; exact (by (with_reducible repeat (first | refine qkN ?_ _ | refine qkD ?_ | refine qkA ?_ _)); refine blk_put (cs := #[.int .i64 ((rd_T58 l1 x32_1).f0), .int .i64 0]) ?_ 1 _ rfl; (with_reducible repeat (first | refine qkN ?_ _ | refine qkD ?_ | refine qkA ?_ _)); refine blk_put (cs := #[.int .i64 0, .int .i64 0]) ?_ 0 _ rfl; (with_reducible repeat (first | refine qkN ?_ _ | refine qkD ?_ | refine qkA ?_ _)); exact BK109.out)) : P := h
theorem qa71 {P : Prop} (h : P := by (with_reducible repeat (first | apply Kd.S_alloc | apply Kd.S_drewN | apply Kd.S_drew)); exact (Kd.S_mono (Kd.S_far (p := ⟨gb122, 1, none⟩) (Kd.S_far (p := ⟨gb122, 0, none⟩) (Kd.S_types HO103.out BK122.out (by decide)) (fun _ hk => hk.2) (.slice Ao26 t116.length co26)) (fun _ hk => hk.2) (.int .i64 t119)) (fun _ h_ => h_.1))) : P := h
theorem qa72 {P : Prop} (h : P := by (with_reducible repeat (first | apply Kd.R_alloc | apply Kd.R_drewN | apply Kd.R_drew)); exact (Kd.R_mono (Kd.R_far (p := ⟨gb122, 1, none⟩) (Kd.R_far (p := ⟨gb122, 0, none⟩) (Kd.R_types HO108.out BK122.out (by decide)) (fun _ hk => hk.2) (.slice Ao26 t116.length co26)) (fun _ hk => hk.2) (.int .i64 t119)) (fun _ h_ => h_.1))) : P := h
theorem qa73 {P : Prop} (h : P := by (with_reducible repeat (first | apply Kd.S_alloc | apply Kd.S_drewN | apply Kd.S_drew)); exact (Kd.S_mono (Kd.S_far (p := ⟨gb122, 1, none⟩) (Kd.S_far (p := ⟨gb122, 0, none⟩) (Kd.S_types HO111.out BK122.out (by decide)) (fun _ hk => hk.2) (.slice Ao26 t116.length co26)) (fun _ hk => hk.2) (.int .i64 t119)) (fun _ h_ => h_.1))) : P := h
theorem qa74 {P : Prop} (h : P := by (with_reducible repeat (first | apply Kd.S_alloc | apply Kd.S_drewN | apply Kd.S_drew)); exact (Kd.S_mono (Kd.S_far (p := ⟨gb122, 1, none⟩) (Kd.S_far (p := ⟨gb122, 0, none⟩) (Kd.S_types HO118.out BK122.out (by decide)) (fun _ hk => hk.2) (.slice Ao26 t116.length co26)) (fun _ hk => hk.2) (.int .i64 t119)) (fun _ h_ => h_.1))) : P := h
theorem qa75 {P : Prop} (h : P := by (with_reducible repeat (first | refine qkN ?_ _ | refine qkD ?_ | refine qkA ?_ _)); exact BK105.out) : P := h
theorem qa76 {P : Prop} (h : P := by rw [hg]; exact (keep_size (w := w) (g := g) (row := none) (by repeat (first | (with_reducible first | exact HK.out | apply KeepBut.set_ | apply keep_drewN | apply keep_drew | apply keep_alloc) | exact HK.out)))) : P := h
theorem qa77 {P : Prop} (h : P := by (with_reducible repeat (first | apply Kd.R_alloc | apply Kd.R_drewN | apply Kd.R_drew)); exact HO119.out) : P := h
theorem qa78 {P : Prop} (h : P := by rw [← hq_]; exact (by repeat (first | (with_reducible first | exact HB.out | apply qbA | apply qbN | apply qbD | refine qbS ?_ GE101.out | refine qbS ?_ GE102.out) | exact HB.out))) : P := h
theorem qa79 {P : Prop} (h : P := by have := qL _ _ hx107_0; first | rwa [add_block] at this | exact this) : P := h
theorem qa80 {P : Prop} (h : P := by exact (below_size (by repeat (first | (with_reducible first | exact HB.out | apply qbA | apply qbN | apply qbD | refine qbS ?_ GE101.out | refine qbS ?_ GE102.out | refine qbS ?_ GE106.out) | exact HB.out)))) : P := h
theorem qa81 {P : Prop} (h : P := by (with_reducible repeat (first | apply Kd.R_alloc | apply Kd.R_drewN | apply Kd.R_drew)); exact HO108.out) : P := h
theorem qa82 {P : Prop} (h : P := by repeat (first | (with_reducible first | exact HI0.out | apply IsS128.alloc | apply IsS128.drewN | apply IsS128.drew | apply IsS128.set_1 | apply IsS128.set_2 | refine IsS128.far ?_ NB0_101.out _ | refine IsS128.far ?_ NB0_106.out _ | refine IsS128.far ?_ NB0_137.out _) | exact HI0.out)) : P := h
theorem qa83 {P : Prop} (h : P := by rw [hw]; exact (by (with_reducible repeat (first | apply Kd.S_alloc | apply Kd.S_drewN | apply Kd.S_drew)); exact Kd.S_mono (Kd.S_far (p := ⟨gb109, 1, none⟩) (Kd.S_far (p := ⟨gb109, 0, none⟩) (Kd.S_types HO_108000.out BK109.out (by decide)) (fun _ hk => hk.2) (.int .i64 ((rd_T58 l1 x32_1).f0))) (fun _ hk => hk.2) (.int .i64 ((rd_T58 l1 x32_1).f1))) (fun _ hk => trivial))) : P := h
theorem qa84 {P : Prop} (h : P := by exact (by repeat (first | (with_reducible first | exact HB.out | apply qbA | apply qbN | apply qbD | refine qbS ?_ GE101.out | refine qbS ?_ GE102.out | refine qbS ?_ GE106.out) | exact HB.out))) : P := h
theorem qa85 {P : Prop} (h : P := by rw [hw]; exact (by (with_reducible repeat (first | refine qkN ?_ _ | refine qkD ?_ | refine qkA ?_ _)); refine blk_far ?_ NB101_109.out _; (with_reducible repeat (first | refine qkN ?_ _ | refine qkD ?_ | refine qkA ?_ _)); refine blk_far ?_ NB101_109.out _; (with_reducible repeat (first | refine qkN ?_ _ | refine qkD ?_ | refine qkA ?_ _)); exact BK101.out)) : P := h
theorem qa86 {P : Prop} (h : P := by rw [hw]; exact (by (with_reducible repeat (first | refine qkN ?_ _ | refine qkD ?_ | refine qkA ?_ _)); refine blk_far ?_ NB102_109.out _; (with_reducible repeat (first | refine qkN ?_ _ | refine qkD ?_ | refine qkA ?_ _)); refine blk_far ?_ NB102_109.out _; (with_reducible repeat (first | refine qkN ?_ _ | refine qkD ?_ | refine qkA ?_ _)); exact BK102.out)) : P := h
theorem qa87 {P : Prop} (h : P := by rw [hw]; exact (by (with_reducible repeat (first | refine qkN ?_ _ | refine qkD ?_ | refine qkA ?_ _)); refine blk_far ?_ NB107_109.out _; (with_reducible repeat (first | refine qkN ?_ _ | refine qkD ?_ | refine qkA ?_ _)); refine blk_far ?_ NB107_109.out _; (with_reducible repeat (first | refine qkN ?_ _ | refine qkD ?_ | refine qkA ?_ _)); exact BK107.out)) : P := h
theorem qa88 {P : Prop} (h : P := by (with_reducible repeat (first | refine qkN ?_ _ | refine qkD ?_ | refine qkA ?_ _)); exact BK115.out) : P := h
theorem qa89 {P : Prop} (h : P := by repeat (first | exact (Kd.C_below HR0_0.out (by repeat (first | (with_reducible first | exact HB.out | apply qbA | apply qbN | apply qbD | refine qbS ?_ GE101.out) | exact HB.out))) | with_reducible first | refine Kd.C_alloc ?_ _ | refine Kd.C_drewN ?_ _ | refine Kd.C_drew ?_)) : P := h
theorem qa90 {P : Prop} (h : P := by exact (fun k_ hk => ⟨(Nat.le_trans (below_size (by repeat (first | (with_reducible first | exact HB.out | apply q73bA | apply q73bN | apply q73bD | refine q73bS ?_ GE101.out | refine q73bS ?_ GE102.out) | exact HB.out))) hk), Kd.fresh' (Kd.R_lt (by (with_reducible repeat (first | apply Kd.R_alloc | apply Kd.R_drewN | apply Kd.R_drew)); exact HO125.out)) k_ hk⟩)) : P := h
theorem qa91 {P : Prop} (h : P := by exact (fun k_ hk => ⟨(Nat.le_trans (below_size (by repeat (first | (with_reducible first | exact HB.out | apply q73bA | apply q73bN | apply q73bD | refine q73bS ?_ GE101.out | refine q73bS ?_ GE102.out) | exact HB.out))) hk), Kd.fresh' (Kd.R_lt (by (with_reducible repeat (first | apply Kd.R_alloc | apply Kd.R_drewN | apply Kd.R_drew)); exact HO140.out)) k_ hk⟩)) : P := h
theorem qa92 {P : Prop} (h : P := by exact (fun k_ hk => ⟨(Nat.le_trans (below_size (by repeat (first | (with_reducible first | exact HB.out | apply q73bA | apply q73bN | apply q73bD | refine q73bS ?_ GE101.out | refine q73bS ?_ GE102.out) | exact HB.out))) hk), Kd.fresh' (Kd.R_lt (by (with_reducible repeat (first | apply Kd.R_alloc | apply Kd.R_drewN | apply Kd.R_drew)); exact HO155.out)) k_ hk⟩)) : P := h
theorem qa93 {P : Prop} (h : P := by (with_reducible repeat (first | refine qkN ?_ _ | refine qkD ?_ | refine qkA ?_ _)); exact BK122.out) : P := h
theorem qa94 {P : Prop} (h : P := by first | exact Kd.S_nil _ _ _ _ _ | exact Kd.N_nil _ _ _ _ _ | exact Kd.V_nil _ _ _ _ _ | exact Kd.Q_nil _ _ _ _ _ | exact Kd.R_nil _ _ _ _ _) : P := h
theorem qa95 {P : Prop} (h : P := by (with_reducible repeat (first | refine q73kN ?_ _ | refine q73kD ?_ | refine q73kA ?_ _)); refine blk_far ?_ (by have h_ := Kd.N_away HO_102000.out (fun _ hk => hk.1.2.2.1); intro e_; exact h_ (by rw [e_]; rfl)) _; (with_reducible repeat (first | refine q73kN ?_ _ | refine q73kD ?_ | refine q73kA ?_ _)); exact BK101.out) : P := h
theorem qa96 {P : Prop} (h : P := by (with_reducible repeat (first | refine q73kN ?_ _ | refine q73kD ?_ | refine q73kA ?_ _)); refine blk_far ?_ (by have h_ := Kd.N_away HO_102000.out (fun _ hk => hk.1.2.2.2); intro e_; exact h_ (by rw [e_]; rfl)) _; (with_reducible repeat (first | refine q73kN ?_ _ | refine q73kD ?_ | refine q73kA ?_ _)); exact BK102.out) : P := h
theorem qa97 {P : Prop} (h : P := by repeat (first | (with_reducible first | exact HB.out | apply qbA | apply qbN | apply qbD | refine qbS ?_ GE101.out | refine qbS ?_ GE105.out) | exact HB.out)) : P := h
theorem qa98 {P : Prop} (h : P := by repeat (first | (with_reducible first | exact HB.out | apply qbA | apply qbN | apply qbD | refine qbS ?_ GE101.out | refine qbS ?_ GE102.out | refine qbS ?_ GE107.out) | exact HB.out)) : P := h
theorem qa99 {P : Prop} (h : P := by (with_reducible repeat (first | refine qkN ?_ _ | refine qkD ?_ | refine qkA ?_ _)); exact BK107.out) : P := h
theorem qa100 {P : Prop} (h : P := by repeat (first | (with_reducible first | exact HB.out | apply qbA | apply qbN | apply qbD | refine qbS ?_ (IsS128.ge HI0.out) | refine qbS ?_ GE101.out | refine qbS ?_ GE106.out | refine qbS ?_ GE137.out) | exact HB.out)) : P := h
theorem qa101 {P : Prop} (h : P := by (with_reducible repeat (first | apply Kd.S_alloc | apply Kd.S_drewN | apply Kd.S_drew)); exact HO_107000.out) : P := h
theorem qa102 {P : Prop} (h : P := by rw [← hq_]; exact (by (with_reducible repeat (first | refine qkN ?_ _ | refine qkD ?_ | refine qkA ?_ _)); exact BK101.out)) : P := h
theorem qa103 {P : Prop} (h : P := by rw [← hq_]; exact (by (with_reducible repeat (first | refine qkN ?_ _ | refine qkD ?_ | refine qkA ?_ _)); exact BK102.out)) : P := h
theorem qa104 {P : Prop} (h : P := by rw [hg]; exact Nat.ne_of_lt (blk_lt (g := gb101) (o := .cells #[.slice none 0 0, .int .i64 0] 28 (0, 0)) (by (with_reducible repeat (first | refine qkN ?_ _ | refine qkD ?_ | refine qkA ?_ _)); exact BK101.out))) : P := h
theorem qa105 {P : Prop} (h : P := by (with_reducible repeat (first | apply Kd.V_alloc | apply Kd.V_drewN | apply Kd.V_drew)); exact HO124.out) : P := h
theorem qa106 {P : Prop} (h : P := by (with_reducible repeat (first | apply Kd.S_alloc | apply Kd.S_drewN | apply Kd.S_drew)); exact HO103.out) : P := h
theorem qa107 {P : Prop} (h : P := by repeat (first | exact (Kd.S_reads' HO_116000.out).2.2 | with_reducible first | refine Kd.C_alloc ?_ _ | refine Kd.C_drewN ?_ _ | refine Kd.C_drew ?_)) : P := h
theorem qa108 {P : Prop} (h : P := by rintro w' ⟨s0, s1, s2, s3, s4, s5, s6⟩; go_simp; with_reducible rfl) : P := h
theorem qa109 {P : Prop} (h : P := by (with_reducible repeat (first | refine qkN ?_ _ | refine qkD ?_ | refine qkA ?_ _)); refine blk_put (cs := #[.int .i64 t102, .int .i64 0]) ?_ 1 _ rfl; (with_reducible repeat (first | refine qkN ?_ _ | refine qkD ?_ | refine qkA ?_ _)); refine blk_put (cs := #[.int .i64 0, .int .i64 0]) ?_ 0 _ rfl; (with_reducible repeat (first | refine qkN ?_ _ | refine qkD ?_ | refine qkA ?_ _)); exact BK101.out) : P := h
theorem qa110 {P : Prop} (h : P := by (with_reducible repeat (first | refine qkN ?_ _ | refine qkD ?_ | refine qkA ?_ _)); refine blk_put (cs := #[u107000, .int .i64 a0_1]) ?_ 0 _ rfl; (with_reducible repeat (first | refine qkN ?_ _ | refine qkD ?_ | refine qkA ?_ _)); exact BK106.out) : P := h
theorem qa111 {P : Prop} (h : P := by rintro w' ⟨s0, s1⟩; go_simp; with_reducible rfl) : P := h
theorem qa112 {P : Prop} (h : P := by exact (Reps.c2 (show Kd.M k43 _ _ _ (⟨(wrap64 (t106 + 1)), (rd_T58 l1 x32_1).f1⟩ : S43) [.int .i64 (wrap64 (t106 + 1)), .int .i64 ((rd_T58 l1 x32_1).f1)] from (k43_mkM _ _ _ (⟨(wrap64 (t106 + 1)), (rd_T58 l1 x32_1).f1⟩ : S43))) (Reps.none _ _))) : P := h
theorem qa113 {P : Prop} (h : P := by rw [hw]; exact (by repeat (first | (with_reducible first | exact HB.out | apply qbA | apply qbN | apply qbD | refine qbS ?_ GE101.out | refine qbS ?_ GE102.out | refine qbS ?_ GE107.out | refine qbS ?_ GE109.out) | exact HB.out))) : P := h
theorem qa114 {P : Prop} (h : P := by rw [hg]; exact (below_size (by repeat (first | (with_reducible first | exact HB.out | apply q73bA | apply q73bN | apply q73bD | refine q73bS ?_ GE101.out) | exact HB.out)))) : P := h
theorem qa115 {P : Prop} (h : P := by repeat (first | exact (Kd.C_below HR1_0.out HB.out) | with_reducible first | refine Kd.C_alloc ?_ _ | refine Kd.C_drewN ?_ _ | refine Kd.C_drew ?_)) : P := h
theorem qa116 {P : Prop} (h : P := by (with_reducible repeat (first | refine qkN ?_ _ | refine qkD ?_ | refine qkA ?_ _)); refine blk_far ?_ NB101_105.out _; (with_reducible repeat (first | refine qkN ?_ _ | refine qkD ?_ | refine qkA ?_ _)); refine blk_far ?_ NB101_105.out _; (with_reducible repeat (first | refine qkN ?_ _ | refine qkD ?_ | refine qkA ?_ _)); exact BK101.out) : P := h
theorem qa117 {P : Prop} (h : P := by (with_reducible repeat (first | refine qkN ?_ _ | refine qkD ?_ | refine qkA ?_ _)); refine blk_far ?_ NB102_106.out _; (with_reducible repeat (first | refine qkN ?_ _ | refine qkD ?_ | refine qkA ?_ _)); refine blk_far ?_ NB102_106.out _; (with_reducible repeat (first | refine qkN ?_ _ | refine qkD ?_ | refine qkA ?_ _)); exact BK102.out) : P := h
theorem qa118 {P : Prop} (h : P := by rw [hg]; exact Nat.ne_of_lt (blk_lt (g := gb106) (o := .cells #[.slice Ao26 t122.length co26, .int .i64 t125] 28 (0, 0)) (by (with_reducible repeat (first | refine qkN ?_ _ | refine qkD ?_ | refine qkA ?_ _)); exact BK106.out))) : P := h
theorem qa119 {P : Prop} (h : P := by rw [hg]; exact Nat.ne_of_gt (blk_lt (g := gb101) (o := .cells #[.slice A0_0 l0_0.length c0_0, .int .i64 a0_1] 28 (0, 0)) (by (with_reducible repeat (first | refine qkN ?_ _ | refine qkD ?_ | refine qkA ?_ _)); exact BK101.out))) : P := h
theorem qa120 {P : Prop} (h : P := by simp) : P := h
theorem qa121 {P : Prop} (h : P := by rw [hg]; exact Nat.ne_of_lt (blk_lt (g := gb107) (o := .cells #[u108000, .int .i64 (wrap64 (t106 + 1))] 28 (0, 0)) (by (with_reducible repeat (first | refine qkN ?_ _ | refine qkD ?_ | refine qkA ?_ _)); exact BK107.out))) : P := h
theorem qa122 {P : Prop} (h : P := by repeat (first | (with_reducible first | exact HB.out | apply qbA | apply qbN | apply qbD | refine qbS ?_ GE105.out) | exact HB.out)) : P := h
theorem qa123 {P : Prop} (h : P := by (with_reducible repeat (first | refine qkN ?_ _ | refine qkD ?_ | refine qkA ?_ _)); refine blk_far ?_ NB101_106.out _; (with_reducible repeat (first | refine qkN ?_ _ | refine qkD ?_ | refine qkA ?_ _)); exact BK101.out) : P := h
theorem qa124 {P : Prop} (h : P := by (with_reducible repeat (first | refine qkN ?_ _ | refine qkD ?_ | refine qkA ?_ _)); refine blk_far ?_ NB102_106.out _; (with_reducible repeat (first | refine qkN ?_ _ | refine qkD ?_ | refine qkA ?_ _)); exact BK102.out) : P := h
theorem qa125 {P : Prop} (h : P := by (with_reducible repeat (first | apply Kd.S_alloc | apply Kd.S_drewN | apply Kd.S_drew)); exact (Kd.S_mono (Kd.S_far (p := ⟨gb115, 1, none⟩) (Kd.S_far (p := ⟨gb115, 0, none⟩) (Kd.S_types HO103.out BK115.out (by decide)) (fun _ hk => hk.2) (.slice Ao20 t109.length co20)) (fun _ hk => hk.2) (.int .i64 t112)) (fun _ h_ => h_.1))) : P := h
theorem qa126 {P : Prop} (h : P := by (with_reducible repeat (first | apply Kd.S_alloc | apply Kd.S_drewN | apply Kd.S_drew)); exact (Kd.S_mono (Kd.S_far (p := ⟨gb115, 1, none⟩) (Kd.S_far (p := ⟨gb115, 0, none⟩) (Kd.S_types HO111.out BK115.out (by decide)) (fun _ hk => hk.2) (.slice Ao20 t109.length co20)) (fun _ hk => hk.2) (.int .i64 t112)) (fun _ h_ => h_.1))) : P := h
theorem qa127 {P : Prop} (h : P := by (with_reducible repeat (first | apply Kd.S_alloc | apply Kd.S_drewN | apply Kd.S_drew)); exact HO_108000.out) : P := h
theorem qa128 {P : Prop} (h : P := by exact (fun k_ hk => (Nat.le_trans (below_size (by repeat (first | (with_reducible first | exact HB.out | apply q73bA | apply q73bN | apply q73bD | refine q73bS ?_ GE101.out | refine q73bS ?_ GE102.out) | exact HB.out))) hk))) : P := h
theorem qa129 {P : Prop} (h : P := by repeat (first | (with_reducible first | exact HB.out | apply qbA | apply qbN | apply qbD | refine qbS ?_ GE101.out | refine qbS ?_ GE102.out | refine qbS ?_ GE107.out | refine qbS ?_ GE109.out) | exact HB.out)) : P := h
theorem qa130 {P : Prop} (h : P := by (with_reducible repeat (first | apply Kd.V_alloc | apply Kd.V_drewN | apply Kd.V_drew)); exact Kd.V_mono HL108_0.out (fun _ hk => ⟨⟨hk.1.1.1.1, ⟨hk.1.1.2, ⟨hk.2, ⟨hk.1.1.1.2.1, hk.1.1.1.2.2⟩⟩⟩⟩, hk.1.2⟩)) : P := h
theorem qa131 {P : Prop} (h : P := by (with_reducible repeat (first | apply Kd.V_alloc | apply Kd.V_drewN | apply Kd.V_drew)); exact Kd.V_mono HL108_0.out (fun _ hk => ⟨⟨hk.1.1.1.1, ⟨hk.1.1.2, ⟨hk.1.2, ⟨hk.1.1.1.2.1, hk.1.1.1.2.2⟩⟩⟩⟩, hk.2⟩)) : P := h
theorem qa132 {P : Prop} (h : P := by (with_reducible repeat (first | apply Kd.V_alloc | apply Kd.V_drewN | apply Kd.V_drew)); exact Kd.V_mono HL108_0.out (fun _ hk => ⟨⟨hk.1, ⟨hk.2.2.2.1, ⟨hk.2.2.1, ⟨hk.2.2.2.2.1, hk.2.2.2.2.2⟩⟩⟩⟩, hk.2.1⟩)) : P := h
theorem qa133 {P : Prop} (h : P := by (with_reducible repeat (first | refine qkN ?_ _ | refine qkD ?_ | refine qkA ?_ _)); exact BK109.out) : P := h
theorem qa134 {P : Prop} (h : P := by repeat (first | (with_reducible exact HR110_0.out) | (with_reducible refine Kd.C_alloc ?_ _) | (with_reducible refine Kd.C_drewN ?_ _) | (with_reducible refine Kd.C_drew ?_) | exact HR110_0.out)) : P := h
theorem qa135 {P : Prop} (h : P := by rw [hg]; exact (below_size (by repeat (first | (with_reducible first | exact HB.out | apply q73bA | apply q73bN | apply q73bD) | exact HB.out)))) : P := h
theorem qa136 {P : Prop} (h : P := by (with_reducible repeat (first | apply Kd.S_alloc | apply Kd.S_drewN | apply Kd.S_drew)); exact Kd.S_mono HO103.out (fun _ hk => ⟨hk.1.2, hk.2⟩)) : P := h
theorem qa137 {P : Prop} (h : P := by (with_reducible repeat (first | apply Kd.S_alloc | apply Kd.S_drewN | apply Kd.S_drew)); exact Kd.S_mono HO111.out (fun _ hk => ⟨hk.1.2, hk.2⟩)) : P := h
theorem qa138 {P : Prop} (h : P := by (with_reducible repeat (first | apply Kd.S_alloc | apply Kd.S_drewN | apply Kd.S_drew)); exact Kd.S_mono HO118.out (fun _ hk => ⟨hk.1.2, hk.2⟩)) : P := h
theorem qa139 {P : Prop} (h : P := by (with_reducible repeat (first | apply Kd.N_alloc | apply Kd.N_drewN | apply Kd.N_drew)); exact Kd.N_mono HO_102000.out (fun _ hk => ⟨⟨hk.1.1.1, ⟨hk.2, ⟨hk.1.1.2.1, hk.1.1.2.2⟩⟩⟩, hk.1.2⟩)) : P := h
theorem qa140 {P : Prop} (h : P := by (with_reducible repeat (first | apply Kd.N_alloc | apply Kd.N_drewN | apply Kd.N_drew)); exact Kd.N_mono HO_102000.out (fun _ hk => ⟨⟨hk.1.1.1, ⟨hk.1.2, ⟨hk.1.1.2.1, hk.1.1.2.2⟩⟩⟩, hk.2⟩)) : P := h
theorem qa141 {P : Prop} (h : P := by (with_reducible repeat (first | apply Kd.N_alloc | apply Kd.N_drewN | apply Kd.N_drew)); exact Kd.N_mono HO_102000.out (fun _ hk => ⟨⟨hk.1, ⟨hk.2.2.1, ⟨hk.2.2.2.1, hk.2.2.2.2⟩⟩⟩, hk.2.1⟩)) : P := h
theorem qa142 {P : Prop} (h : P := by (with_reducible repeat (first | apply Kd.V_alloc | apply Kd.V_drewN | apply Kd.V_drew)); exact Kd.V_mono HL108_0.out (fun _ hk => ⟨⟨hk.1.1.1, ⟨hk.1.2, ⟨hk.1.1.2.1, hk.1.1.2.2⟩⟩⟩, hk.2⟩)) : P := h
theorem qa143 {P : Prop} (h : P := by repeat (first | (with_reducible first | exact HB.out | apply qbA | apply qbN | apply qbD | refine qbS ?_ GE101.out | refine qbS ?_ GE102.out | refine qbS ?_ GE103.out) | exact HB.out)) : P := h
theorem qa144 {P : Prop} (h : P := by (with_reducible repeat (first | apply Kd.S_alloc | apply Kd.S_drewN | apply Kd.S_drew)); exact HO105.out) : P := h
theorem qa145 {P : Prop} (h : P := by (with_reducible repeat (first | apply Kd.V_alloc | apply Kd.V_drewN | apply Kd.V_drew)); exact HO0_0.out) : P := h
theorem qa146 {P : Prop} (h : P := by (with_reducible repeat (first | apply Kd.V_alloc | apply Kd.V_drewN | apply Kd.V_drew)); exact HO114.out) : P := h
theorem qa147 {P : Prop} (h : P := by (with_reducible repeat (first | apply Kd.R_alloc | apply Kd.R_drewN | apply Kd.R_drew)); exact HO140.out) : P := h
theorem qa148 {P : Prop} (h : P := by (with_reducible repeat (first | apply Kd.S_alloc | apply Kd.S_drewN | apply Kd.S_drew)); exact HO111.out) : P := h
theorem qa149 {P : Prop} (h : P := by first | rfl | (simp [errW_none, errW_some] <;> rfl) | (simp only [← hji19]; first | rfl | (simp [errW_none, errW_some] <;> rfl)) | (simp [*, errW_none, errW_some] <;> rfl)) : P := h
theorem qa150 {P : Prop} (h : P := by assumption) : P := h
theorem qa151 {P : Prop} (h : P := by exact (by (with_reducible repeat (first | apply Kd.S_alloc | apply Kd.S_drewN | apply Kd.S_drew)); exact Kd.S_mono HO_107000.out (fun k_ hk => ⟨trivial, fun e_ => hk.2 e_⟩))) : P := h
theorem qa152 {P : Prop} (h : P := by rw [hg]; exact (keep_size (w := w) (g := g) (row := none) (by repeat (first | (with_reducible first | exact HK.out | apply KeepBut.set_ | apply keep_drewN | apply keep_drew | apply keep_alloc | refine keep_far ?_ GW101.out _) | exact HK.out)))) : P := h
theorem qa153 {P : Prop} (h : P := by repeat (first | (with_reducible first | exact HB.out | apply qbA | apply qbN | apply qbD | refine qbS ?_ GE105.out | refine qbS ?_ GE115.out) | exact HB.out)) : P := h
theorem qa154 {P : Prop} (h : P := by rw [hg]; exact Nat.ne_of_lt (blk_lt (g := gb101) (o := .cells #[.slice A0_0 l0_0.length c0_0, .int .i64 a0_1] 28 (0, 0)) (by (with_reducible repeat (first | refine q73kN ?_ _ | refine q73kD ?_ | refine q73kA ?_ _)); exact BK101.out))) : P := h
theorem qa155 {P : Prop} (h : P := by rw [hg]; exact Nat.ne_of_gt (blk_lt (g := gb101) (o := .cells #[.slice A0_0 l0_0.length c0_0, .int .i64 a0_1] 28 (0, 0)) (by (with_reducible repeat (first | refine q73kN ?_ _ | refine q73kD ?_ | refine q73kA ?_ _)); exact BK101.out))) : P := h
theorem qa156 {P : Prop} (h : P := by rw [hg]; exact Nat.ne_of_lt (blk_lt (g := gb105) (o := .cells #[.slice Ao13 t101.length co13, .int .i64 t104] 28 (0, 0)) (by (with_reducible repeat (first | refine qkN ?_ _ | refine qkD ?_ | refine qkA ?_ _)); exact BK105.out))) : P := h
theorem qa157 {P : Prop} (h : P := by rw [hg]; exact Nat.ne_of_gt (blk_lt (g := gb105) (o := .cells #[.slice Ao13 t101.length co13, .int .i64 t104] 28 (0, 0)) (by (with_reducible repeat (first | refine qkN ?_ _ | refine qkD ?_ | refine qkA ?_ _)); exact BK105.out))) : P := h
theorem qa158 {P : Prop} (h : P := by (with_reducible repeat (first | apply Kd.S_alloc | apply Kd.S_drewN | apply Kd.S_drew)); exact HO118.out) : P := h
theorem qa159 {P : Prop} (h : P := by repeat (first | exact (Kd.S_reads' HO_106000.out).2.2 | with_reducible first | refine Kd.C_alloc ?_ _ | refine Kd.C_drewN ?_ _ | refine Kd.C_drew ?_)) : P := h
theorem qa160 {P : Prop} (h : P := by (with_reducible repeat (first | apply Kd.R_alloc | apply Kd.R_drewN | apply Kd.R_drew)); exact HO_7.out) : P := h
theorem qa161 {P : Prop} (h : P := by first | exact q110 | exact qT (by first | (with_reducible assumption) | assumption) | (have e_ := (Kd.S_reads' HO_108000.out).1; omega)) : P := h
theorem qa162 {P : Prop} (h : P := by repeat (first | exact (Kd.V_reads' HO114.out).2.2 | with_reducible first | refine Kd.C_alloc ?_ _ | refine Kd.C_drewN ?_ _ | refine Kd.C_drew ?_)) : P := h
theorem qa163 {P : Prop} (h : P := by repeat (first | exact (Kd.V_reads' HO124.out).2.2 | with_reducible first | refine Kd.C_alloc ?_ _ | refine Kd.C_drewN ?_ _ | refine Kd.C_drew ?_)) : P := h
theorem qa164 {P : Prop} (h : P := by have := HK1.out; omega) : P := h
theorem qa165 {P : Prop} (h : P := by rw [hg]; exact (below_size (by repeat (first | (with_reducible first | exact HB.out | apply qbA | apply qbN | apply qbD | refine qbS ?_ GE105.out | refine qbS ?_ GE115.out) | exact HB.out)))) : P := h
theorem qa166 {P : Prop} (h : P := by repeat (first | (with_reducible first | exact HB.out | apply qbA | apply qbN | apply qbD | refine qbS ?_ GE101.out | refine qbS ?_ GE102.out | refine qbS ?_ GE117.out) | exact HB.out)) : P := h
theorem qa167 {P : Prop} (h : P := by first | rfl | (simp [errW_none, errW_some] <;> rfl) | (simp only [← hji3]; first | rfl | (simp [errW_none, errW_some] <;> rfl)) | (simp [*, errW_none, errW_some] <;> rfl)) : P := h
theorem qa168 {P : Prop} (h : P := by first | rfl | (simp [errW_none, errW_some] <;> rfl) | (simp only [← hji7]; first | rfl | (simp [errW_none, errW_some] <;> rfl)) | (simp [*, errW_none, errW_some] <;> rfl)) : P := h
theorem qa169 {P : Prop} (h : P := by have := HJ1.out; have := HK2.out; have := HK3.out; omega) : P := h
theorem qa170 {P : Prop} (h : P := by rw [hg]; exact (below_size (by repeat (first | (with_reducible first | exact HB.out | apply qbA | apply qbN | apply qbD | refine qbS ?_ GE105.out) | exact HB.out)))) : P := h
theorem qa171 {P : Prop} (h : P := by (with_reducible repeat (first | apply Kd.R_alloc | apply Kd.R_drewN | apply Kd.R_drew)); exact HO125.out) : P := h
theorem qa172 {P : Prop} (h : P := by (with_reducible repeat (first | apply Kd.R_alloc | apply Kd.R_drewN | apply Kd.R_drew)); exact HO155.out) : P := h
theorem qa173 {P : Prop} (h : P := by (with_reducible repeat (first | refine qkN ?_ _ | refine qkD ?_ | refine qkA ?_ _)); exact BK137.out) : P := h
theorem qa174 {P : Prop} (h : P := by first | exact q108 | exact q73T (by assumption) | (have e_ := (Kd.N_reads' HO_102000.out).1; omega)) : P := h
theorem qa175 {P : Prop} (h : P := by exact (below_size (by repeat (first | (with_reducible first | exact HB.out | apply qbA | apply qbN | apply qbD | refine qbS ?_ GE101.out) | exact HB.out)))) : P := h
theorem qa176 {P : Prop} (h : P := by exact (by (with_reducible repeat (first | apply Kd.R_alloc | apply Kd.R_drewN | apply Kd.R_drew)); exact Kd.R_mono HO118.out (fun _ hk => ⟨hk.1.1, hk.2⟩))) : P := h
theorem qa177 {P : Prop} (h : P := by (with_reducible repeat (first | apply Kd.R_alloc | apply Kd.R_drewN | apply Kd.R_drew)); exact Kd.R_mono HO125.out (fun _ hk => ⟨hk.1.1, hk.2⟩)) : P := h
theorem qa178 {P : Prop} (h : P := by exact (by (with_reducible repeat (first | apply Kd.R_alloc | apply Kd.R_drewN | apply Kd.R_drew)); exact Kd.R_mono HO133.out (fun _ hk => ⟨hk.1.1, hk.2⟩))) : P := h
theorem qa179 {P : Prop} (h : P := by (with_reducible repeat (first | apply Kd.R_alloc | apply Kd.R_drewN | apply Kd.R_drew)); exact Kd.R_mono HO140.out (fun _ hk => ⟨hk.1.1, hk.2⟩)) : P := h
theorem qa180 {P : Prop} (h : P := by exact (by (with_reducible repeat (first | apply Kd.R_alloc | apply Kd.R_drewN | apply Kd.R_drew)); exact Kd.R_mono HO148.out (fun _ hk => ⟨hk.1.1, hk.2⟩))) : P := h
theorem qa181 {P : Prop} (h : P := by (with_reducible repeat (first | apply Kd.R_alloc | apply Kd.R_drewN | apply Kd.R_drew)); exact Kd.R_mono HO155.out (fun _ hk => ⟨hk.1.1, hk.2⟩)) : P := h
theorem qa182 {P : Prop} (h : P := by have := HJ2.out; have := HJ9.out; have := HK3.out; have := HK4.out; omega) : P := h
theorem qa183 {P : Prop} (h : P := by repeat (first | (with_reducible first | exact HB.out | apply q73bA | apply q73bN | apply q73bD | refine q73bS ?_ GE101.out) | exact HB.out)) : P := h
theorem qa184 {P : Prop} (h : P := by rw [hg]; exact (below_size (by repeat (first | (with_reducible first | exact HBW.out | apply qbA | apply qbN | apply qbD) | exact HBW.out)))) : P := h
theorem qa185 {P : Prop} (h : P := by first | exact Kd.R_nil _ _ _ _ _ | exact Kd.N_nil _ _ _ _ _ | exact Kd.V_nil _ _ _ _ _ | exact Kd.Q_nil _ _ _ _ _ | exact Kd.S_nil _ _ _ _ _) : P := h
theorem qa186 {P : Prop} (h : P := by repeat (first | exact (Kd.R_reads' HO140.out).2.2 | with_reducible first | refine Kd.C_alloc ?_ _ | refine Kd.C_drewN ?_ _ | refine Kd.C_drew ?_)) : P := h
theorem qa187 {P : Prop} (h : P := by repeat (first | exact (Kd.C_below HR0.out HB.out) | with_reducible first | refine Kd.C_alloc ?_ _ | refine Kd.C_drewN ?_ _ | refine Kd.C_drew ?_)) : P := h
theorem qa188 {P : Prop} (h : P := by repeat (first | exact (Kd.R_reads' HO119.out).2.2 | with_reducible first | refine Kd.C_alloc ?_ _ | refine Kd.C_drewN ?_ _ | refine Kd.C_drew ?_)) : P := h
theorem qa189 {P : Prop} (h : P := by repeat (first | exact (Kd.S_reads' HO103.out).2.2 | with_reducible first | refine Kd.C_alloc ?_ _ | refine Kd.C_drewN ?_ _ | refine Kd.C_drew ?_)) : P := h
theorem qa190 {P : Prop} (h : P := by repeat (first | exact (Kd.S_reads' HO111.out).2.2 | with_reducible first | refine Kd.C_alloc ?_ _ | refine Kd.C_drewN ?_ _ | refine Kd.C_drew ?_)) : P := h
theorem qa191 {P : Prop} (h : P := by first | omega | exact Nat.le_refl _) : P := h
theorem qa192 {P : Prop} (h : P := by exact (by repeat (first | (with_reducible first | exact HB.out | apply qbA | apply qbN | apply qbD | refine qbS ?_ GE101.out) | exact HB.out))) : P := h
theorem qa193 {P : Prop} (h : P := by have := HJ2.out; first | omega | exact Nat.le_refl _) : P := h
theorem qa194 {P : Prop} (h : P := by repeat (first | (with_reducible first | exact HB.out | apply q73bA | apply q73bN | apply q73bD) | exact HB.out)) : P := h
theorem qa195 {P : Prop} (h : P := by (with_reducible repeat (first | apply Kd.R_alloc | apply Kd.R_drewN | apply Kd.R_drew)); exact HO121.out) : P := h
theorem qa196 {P : Prop} (h : P := by (with_reducible repeat (first | apply Kd.R_alloc | apply Kd.R_drewN | apply Kd.R_drew)); exact HO118.out) : P := h
theorem qa197 {P : Prop} (h : P := by (with_reducible repeat (first | apply Kd.R_alloc | apply Kd.R_drewN | apply Kd.R_drew)); exact HO136.out) : P := h
theorem qa198 {P : Prop} (h : P := by (with_reducible repeat (first | apply Kd.R_alloc | apply Kd.R_drewN | apply Kd.R_drew)); exact HO133.out) : P := h
theorem qa199 {P : Prop} (h : P := by (with_reducible repeat (first | apply Kd.R_alloc | apply Kd.R_drewN | apply Kd.R_drew)); exact HO151.out) : P := h
theorem qa200 {P : Prop} (h : P := by (with_reducible repeat (first | apply Kd.R_alloc | apply Kd.R_drewN | apply Kd.R_drew)); exact HO148.out) : P := h
theorem qa201 {P : Prop} (h : P := by (with_reducible repeat (first | apply Kd.V_alloc | apply Kd.V_drewN | apply Kd.V_drew)); exact HO111.out) : P := h
theorem qa202 {P : Prop} (h : P := by (with_reducible repeat (first | apply Kd.S_alloc | apply Kd.S_drewN | apply Kd.S_drew)); exact HO104.out) : P := h
theorem qa203 {P : Prop} (h : P := by (with_reducible repeat (first | apply Kd.R_alloc | apply Kd.R_drewN | apply Kd.R_drew)); exact HO113.out) : P := h
theorem qa204 {P : Prop} (h : P := by (with_reducible repeat (first | apply Kd.R_alloc | apply Kd.R_drewN | apply Kd.R_drew)); exact HO103.out) : P := h
theorem qa205 {P : Prop} (h : P := by (with_reducible repeat (first | apply Kd.R_alloc | apply Kd.R_drewN | apply Kd.R_drew)); exact HO_3.out) : P := h
theorem qa206 {P : Prop} (h : P := by exact (fun _ _ => trivial)) : P := h
theorem qa207 {P : Prop} (h : P := by exact (Reps.none _ _)) : P := h
theorem qa208 {P : Prop} (h : P := by exact (Kd.S_reads' HO_116000.out).2.1) : P := h
theorem qa209 {P : Prop} (h : P := by injection e104) : P := h
theorem qa210 {P : Prop} (h : P := by rintro w' ⟨s0, s1, s2, s3, s4⟩; go_simp; with_reducible rfl) : P := h
theorem qa211 {P : Prop} (h : P := by exact (fun k_ hk => .inr ⟨trivial, Nat.le_trans HSZ_.out hk⟩)) : P := h
theorem qa212 {P : Prop} (h : P := by exact (Kd.S_reads' HO111.out).2.1) : P := h
theorem qa213 {P : Prop} (h : P := by injection e107) : P := h
theorem qa214 {P : Prop} (h : P := by rintro w' ⟨s0, s1, s2⟩; go_simp; with_reducible rfl) : P := h
theorem qa215 {P : Prop} (h : P := by injection e103) : P := h
theorem qa216 {P : Prop} (h : P := by have := HK1.out; have := HK2.out; omega) : P := h
theorem qa217 {P : Prop} (h : P := by unfold SrcOK at h2 ⊢; omega) : P := h
theorem qPu {P : Program} {ops : Array Oper} {Q : Exit → Act → World → Prop} {md : Region.Mode} {S : World → Prop} {ds : List Nat} (i N : Nat) {oi : Oper} {v : Value} {fuel : Nat} {l : Array Bool} {a : Act} {w : World} (l' : Array Bool) (hi : ops[i]? = some oi) (hN : oi.dst = some N) (hc : Go.Proofs.YtfiboooflebdpaaW.PrintLast.anyB md ops l l' i = true) (hy : ∀ w, (execOp a.eval oi).run P w = .ok (.value v) w) {a' : Act} (ha : a.put (some N) v = a') (h : Go.Proofs.YtfiboooflebdpaaW.PrintLast.wpAnyLast P md ops Q S ds fuel l' a' w) (hQ : ∀ c a w, Q (.panic c) (a.put oi.dst v) w → Q (.panic c) a w := by exact fun _ _ _ h => h) (hw : Region.wanted oi (yielded ops a.tmps) = true := by rfl) : Go.Proofs.YtfiboooflebdpaaW.PrintLast.wpAnyLast P md ops Q S ds (fuel + 1) l a w := Go.Proofs.YtfiboooflebdpaaW.PrintLast.pure_ l' hi hN hc hQ (.inl ⟨hw, hy⟩) ha h
theorem qTk {P : Program} {ops : Array Oper} {Q : Exit → Act → World → Prop} {md : Region.Mode} {S : World → Prop} {ds : List Nat} (i N : Nat) {oi : Oper} {v : Value} {fuel : Nat} {l : Array Bool} {a : Act} {w : World} (l' : Array Bool) (hi : ops[i]? = some oi) (hN : oi.dst = some N) (hc : Go.Proofs.YtfiboooflebdpaaW.PrintLast.takeB md ops ds l l' i = true) (hy : ∀ w, S w → (execOp a.eval oi).run P w = .ok (.value v) w) (hS : S w) {a' : Act} (ha : a.put (some N) v = a') (h : Go.Proofs.YtfiboooflebdpaaW.PrintLast.wpAnyLast P md ops Q S ds fuel l' a' w) (hQ : ∀ c a w, Q (.panic c) (a.put oi.dst v) w → Q (.panic c) a w := by exact fun _ _ _ h => h) (hw : Region.wanted oi (yielded ops a.tmps) = true := by rfl) : Go.Proofs.YtfiboooflebdpaaW.PrintLast.wpAnyLast P md ops Q S ds (fuel + 1) l a w := Go.Proofs.YtfiboooflebdpaaW.PrintLast.take_ l' hi hN hc hQ (.inl ⟨hw, hy⟩) hS ha h
theorem qX {P : Program} {ops : Array Oper} {Q : Exit → Act → World → Prop} {o : Oper} {rest : List Oper} {a : Act} {W : World} (N : Tmp) (cs : Array Value) (t : TypeId) (h : ∀ g, g = W.heap.size → ∀ w1, w1.heap[g]? = some (.cells cs t (0, 0)) → Below W.heap.size W w1 → wpList P ops Q rest (a.put o.dst (.pointer (some ⟨g, 0, none⟩))) w1) (hd : o.dst = some N := by rfl) (hgd : o.guard = none := by rfl) (hrun : (execOp a.eval o).run P W = .ok (.value (.pointer (some ⟨W.heap.size, 0, none⟩))) (W.alloc (.cells cs t (0, 0))) := by first | (go_simp; done) | (go_simp; rfl)) : wpList P ops Q (o :: rest) a W := box_event hgd hd hrun h
theorem qc0 {w : World} {g : Nat} {t : TypeId} {x0 : Value} {l : List Value} (h : w.heap[g]? = some (.cells (x0 :: l).toArray t (0, 0))) : w.cell? ⟨g, 0, none⟩ = some x0 := (blk_cell h 0).trans (by simp)
theorem qc1 {w : World} {g : Nat} {t : TypeId} {x0 x1 : Value} {l : List Value} (h : w.heap[g]? = some (.cells (x0 :: x1 :: l).toArray t (0, 0))) : w.cell? ⟨g, 1, none⟩ = some x1 := (blk_cell h 1).trans (by simp)
theorem qc2 {w : World} {g : Nat} {t : TypeId} {x0 x1 x2 : Value} {l : List Value} (h : w.heap[g]? = some (.cells (x0 :: x1 :: x2 :: l).toArray t (0, 0))) : w.cell? ⟨g, 2, none⟩ = some x2 := (blk_cell h 2).trans (by simp)
theorem qc3 {w : World} {g : Nat} {t : TypeId} {x0 x1 x2 x3 : Value} {l : List Value} (h : w.heap[g]? = some (.cells (x0 :: x1 :: x2 :: x3 :: l).toArray t (0, 0))) : w.cell? ⟨g, 3, none⟩ = some x3 := (blk_cell h 3).trans (by simp)
theorem qc4 {w : World} {g : Nat} {t : TypeId} {x0 x1 x2 x3 x4 : Value} {l : List Value} (h : w.heap[g]? = some (.cells (x0 :: x1 :: x2 :: x3 :: x4 :: l).toArray t (0, 0))) : w.cell? ⟨g, 4, none⟩ = some x4 := (blk_cell h 4).trans (by simp)
theorem qc5 {w : World} {g : Nat} {t : TypeId} {x0 x1 x2 x3 x4 x5 : Value} {l : List Value} (h : w.heap[g]? = some (.cells (x0 :: x1 :: x2 :: x3 :: x4 :: x5 :: l).toArray t (0, 0))) : w.cell? ⟨g, 5, none⟩ = some x5 := (blk_cell h 5).trans (by simp)
theorem qb1 {w : World} {g : Nat} {t : TypeId} {x0 : Value} (h : w.heap[g]? = some (.cells #[x0] t (0, 0))) : w.cell? ⟨g, 0, none⟩ = some x0 ∧ w.frozen? ⟨g, 0, none⟩ = false := ⟨qc0 h, blk_frozen h 0⟩
theorem qb2 {w : World} {g : Nat} {t : TypeId} {x0 x1 : Value} (h : w.heap[g]? = some (.cells #[x0, x1] t (0, 0))) : w.cell? ⟨g, 0, none⟩ = some x0 ∧ w.cell? ⟨g, 1, none⟩ = some x1 ∧ w.frozen? ⟨g, 0, none⟩ = false ∧ w.frozen? ⟨g, 1, none⟩ = false := ⟨qc0 h, qc1 h, blk_frozen h 0, blk_frozen h 1⟩
theorem qb3 {w : World} {g : Nat} {t : TypeId} {x0 x1 x2 : Value} (h : w.heap[g]? = some (.cells #[x0, x1, x2] t (0, 0))) : w.cell? ⟨g, 0, none⟩ = some x0 ∧ w.cell? ⟨g, 1, none⟩ = some x1 ∧ w.cell? ⟨g, 2, none⟩ = some x2 ∧ w.frozen? ⟨g, 0, none⟩ = false ∧ w.frozen? ⟨g, 1, none⟩ = false ∧ w.frozen? ⟨g, 2, none⟩ = false := ⟨qc0 h, qc1 h, qc2 h, blk_frozen h 0, blk_frozen h 1, blk_frozen h 2⟩
theorem qb4 {w : World} {g : Nat} {t : TypeId} {x0 x1 x2 x3 : Value} (h : w.heap[g]? = some (.cells #[x0, x1, x2, x3] t (0, 0))) : w.cell? ⟨g, 0, none⟩ = some x0 ∧ w.cell? ⟨g, 1, none⟩ = some x1 ∧ w.cell? ⟨g, 2, none⟩ = some x2 ∧ w.cell? ⟨g, 3, none⟩ = some x3 ∧ w.frozen? ⟨g, 0, none⟩ = false ∧ w.frozen? ⟨g, 1, none⟩ = false ∧ w.frozen? ⟨g, 2, none⟩ = false ∧ w.frozen? ⟨g, 3, none⟩ = false := ⟨qc0 h, qc1 h, qc2 h, qc3 h, blk_frozen h 0, blk_frozen h 1, blk_frozen h 2, blk_frozen h 3⟩
theorem qb5 {w : World} {g : Nat} {t : TypeId} {x0 x1 x2 x3 x4 : Value} (h : w.heap[g]? = some (.cells #[x0, x1, x2, x3, x4] t (0, 0))) : w.cell? ⟨g, 0, none⟩ = some x0 ∧ w.cell? ⟨g, 1, none⟩ = some x1 ∧ w.cell? ⟨g, 2, none⟩ = some x2 ∧ w.cell? ⟨g, 3, none⟩ = some x3 ∧ w.cell? ⟨g, 4, none⟩ = some x4 ∧ w.frozen? ⟨g, 0, none⟩ = false ∧ w.frozen? ⟨g, 1, none⟩ = false ∧ w.frozen? ⟨g, 2, none⟩ = false ∧ w.frozen? ⟨g, 3, none⟩ = false ∧ w.frozen? ⟨g, 4, none⟩ = false := ⟨qc0 h, qc1 h, qc2 h, qc3 h, qc4 h, blk_frozen h 0, blk_frozen h 1, blk_frozen h 2, blk_frozen h 3, blk_frozen h 4⟩
@[reducible] def qt : Bool := true
@[reducible] def qf : Bool := false
end Go.Proofs.Ytfiboooflebdpaa.Q
namespace Go.Proofs.Ytfiboooflebdpaa.Q
open Go.RowKit Go.Proofs.YtfiboooflebdpaaW.PrintWords Go.Proofs.YtfiboooflebdpaaW.PrintLast Go.Proofs.YtfiboooflebdpaaW.PrintMore
attribute [local go_sem] max2_int min2_int max_two min_two max_three min_three max_four min_four
set_option linter.unusedVariables false
set_option linter.unusedSimpArgs false

def impl_within.f (a0 : Int) (a1 : Int) (a2 : Int) : Option (Bool) := if a0 ≥ a1 then (some (decide (a0 ≤ a2))) else (some false)
set_option maxHeartbeats 8000000 in
set_option maxRecDepth 100000 in
theorem impl_within.calls (a0 : Int) (a1 : Int) (a2 : Int) (r : Bool) (w : World) (h : impl_within.f a0 a1 a2 = some r) :
  Calls Try.prog 65 #[.int .i64 a0, .int .i64 a1, .int .i64 a2] w fun e w' => e = .returned (.bool r) ∧ Drawn0 w w' := by
 have H : (if a0 ≥ a1 then (some (decide (a0 ≤ a2))) else (some false)) = some r := h; clear h
 by_cases c4 : a0 ≥ a1
 ·rw [if_pos c4] at H
  have c4b0 : decide (a1 ≤ a0) = true := decide_eq_true c4; clear c4; obtain rfl := Option.some.inj H
  go_enter Try.func65, Try.ntmps65
  go_wp2
  go_ret
  exact ⟨qa18, qa68⟩
 ·rw [if_neg c4] at H
  have c4b0 : decide (a1 ≤ a0) = false := decide_eq_false c4; clear c4; obtain rfl := Option.some.inj H
  go_enter Try.func65, Try.ntmps65
  go_wp2
  go_ret
  exact ⟨qa18, qa68⟩


def impl_IsInt.f (a0 : Int) : Option (Bool) := (impl_within.f a0 (-2147483648) 2147483647).bind fun t101 => (some t101)
set_option maxHeartbeats 8000000 in
set_option maxRecDepth 100000 in
theorem impl_IsInt.calls (a0 : Int) (r : Bool) (w : World) (h : impl_IsInt.f a0 = some r) :
  Calls Try.prog 111 #[.int .i64 a0] w fun e w' => e = .returned (.bool r) ∧ Drawn0 w w' := by
 have H : ((impl_within.f a0 (-2147483648) 2147483647).bind fun t101 => (some t101)) = some r := h; clear h; replace H := Option.bind_eq_some_iff.mp H; obtain ⟨t101, A20, H⟩ := H; replace H : (some t101) = some r := H; have A2 := qO A20; clear A20; obtain rfl := Option.some.inj H
 go_enter Try.func111, Try.ntmps111
 go_wp2_with (first | ((with_reducible refine gate_callee (f := 65) rfl ?_); refine goesL_ (some 4) rfl rfl Try.func65 qa7 rfl #[.int .i64 a0, .int .i64 (-2147483648), .int .i64 2147483647] rfl qa0 ?_; (with_reducible refine (impl_within.calls a0 (-2147483648) 2147483647 t101 _ A2.out).mono ?_); rintro e w' ⟨rfl, ⟨nd, rfl⟩⟩; refine ⟨_, rfl, ?_⟩))
 go_ret
 exact ⟨qa18, qa68⟩


def impl_fits.f (a0 : Int) (a1 : Int) : Option (Bool) := if (Int.tmod a0 2) = 1 then ((impl_within.f a1 0 8).bind fun t101 => (some t101)) else ((impl_IsInt.f a1).bind fun t102 => (some t102))
set_option maxHeartbeats 8000000 in
set_option maxRecDepth 100000 in
theorem impl_fits.calls (a0 : Int) (a1 : Int) (r : Bool) (w : World) (h : impl_fits.f a0 a1 = some r) :
  Calls Try.prog 66 #[.int .i64 a0, .int .i64 a1] w fun e w' => e = .returned (.bool r) ∧ Drawn0 w w' := by
 have H : (if (Int.tmod a0 2) = 1 then ((impl_within.f a1 0 8).bind fun t101 => (some t101)) else ((impl_IsInt.f a1).bind fun t102 => (some t102))) = some r := h; clear h
 by_cases c3 : (Int.tmod a0 2) = 1
 ·rw [if_pos c3] at H
  have c3b0 : ((Int.tmod a0 2) == 1) = true := beq_iff_eq.mpr c3; have c3b1 : ((Int.tmod a0 2) != 1) = false := bne_eq_false_iff_eq.mpr c3; clear c3; replace H := Option.bind_eq_some_iff.mp H; obtain ⟨t101, A40, H⟩ := H; replace H : (some t101) = some r := H; have A4 := qO A40; clear A40; obtain rfl := Option.some.inj H
  go_enter Try.func66, Try.ntmps66
  go_wp2_with (first | ((with_reducible refine gate_callee (f := 65) rfl ?_); refine goesL_ (some 9) rfl rfl Try.func65 qa7 rfl #[.int .i64 a1, .int .i64 0, .int .i64 8] rfl qa0 ?_; (with_reducible refine (impl_within.calls a1 0 8 t101 _ A4.out).mono ?_); rintro e w' ⟨rfl, ⟨nd, rfl⟩⟩; refine ⟨_, rfl, ?_⟩))
  go_ret
  exact ⟨qa18, qa68⟩
 ·rw [if_neg c3] at H
  have c3b0 : ((Int.tmod a0 2) == 1) = false := beq_eq_false_iff_ne.mpr c3; have c3b1 : ((Int.tmod a0 2) != 1) = true := bne_iff_ne.mpr c3; replace H := Option.bind_eq_some_iff.mp H; obtain ⟨t102, A50, H⟩ := H; replace H : (some t102) = some r := H; have A5 := qO A50; clear A50; obtain rfl := Option.some.inj H
  go_enter Try.func66, Try.ntmps66
  go_wp2_with (first | ((with_reducible refine gate_callee (f := 111) rfl ?_); refine goesL_ (some 11) rfl rfl Try.func111 qa7 rfl #[.int .i64 a1] rfl qa0 ?_; (with_reducible refine (impl_IsInt.calls a1 t102 _ A5.out).mono ?_); rintro e w' ⟨rfl, ⟨nd, rfl⟩⟩; refine ⟨_, rfl, ?_⟩))
  go_ret
  exact ⟨qa18, qa68⟩


mutual
def impl_StoreOK.j0 : Nat → Bool → List (List (S43)) → Int → Option (Bool)
 | 0, _, _, _ => none
 | k + 1, x16, x102000, x102001 => if x16 = true then (some false) else (impl_StoreOK.l0 k x102000 (x102000.length : Int) 0 x102000 x102001)
def impl_StoreOK.l0 : Nat → List (List (S43)) → Int → Int → List (List (S43)) → Int → Option (Bool)
 | 0, _, _, _, _, _ => none
 | k + 1, x18, x19, x20, x102000, x102001 => if x20 < x19 then (if 0 ≤ x20 then (if x20 < (x18.length : Int) then (impl_StoreOK.l1 k x20 (rd_L4 x18 x20) x18 x19 x20 (rd_L4 x18 x20) ((rd_L4 x18 x20).length : Int) 0 x102000 x102001) else (none)) else (none)) else (some true)
def impl_StoreOK.l1 : Nat → Int → List (S43) → List (List (S43)) → Int → Int → List (S43) → Int → Int → List (List (S43)) → Int → Option (Bool)
 | 0, _, _, _, _, _, _, _, _, _, _ => none
 | k + 1, x3, x4, x18, x19, x20, x25, x26, x27, x102000, x102001 => if x27 < x26 then (if 0 ≤ x27 then (if x27 < (x25.length : Int) then ((impl_within.f ((rd_T43 x25 x27).f0) 1 x102001).bind fun t106 => (if t106 = true then (if x27 > 0 then (if 0 ≤ (wrap64 (x27 - 1)) then (if (wrap64 (x27 - 1)) < (x4.length : Int) then (if ((rd_T43 x4 (wrap64 (x27 - 1))).f0) ≥ ((rd_T43 x25 x27).f0) then (some false) else ((impl_fits.f x3 ((rd_T43 x25 x27).f1)).bind fun t108 => (if t108 = true then (impl_StoreOK.l1 k x3 x4 x18 x19 x20 x25 x26 (wrap64 (x27 + 1)) x102000 x102001) else (some false)))) else (none)) else (none)) else ((impl_fits.f x3 ((rd_T43 x25 x27).f1)).bind fun t109 => (if t109 = true then (impl_StoreOK.l1 k x3 x4 x18 x19 x20 x25 x26 (wrap64 (x27 + 1)) x102000 x102001) else (some false)))) else (some false))) else (none)) else (none)) else (impl_StoreOK.l0 k x18 x19 (wrap64 (x20 + 1)) x102000 x102001)
end
def impl_StoreOK.f (k : Nat) (l0_0 : List (List (S43))) (a0_1 : Int) : Option (Bool) := if (l0_0.length : Int) = 16 then ((impl_within.f a0_1 0 100000).bind fun t102 => (impl_StoreOK.j0 k (!t102) l0_0 a0_1)) else (impl_StoreOK.j0 k true l0_0 a0_1)
set_option maxHeartbeats 8000000 in
set_option maxRecDepth 100000 in
theorem impl_StoreOK.calls (k : Nat) (A0_0 : Option Addr) (c0_0 : Nat) (l0_0 : List (List (S43))) (a0_1 : Int) (r : Bool) (w : World) (hr0_0 : Kd.C (Kd.slice 43 k43) w A0_0 l0_0.length l0_0) (hc0_0 : l0_0.length ≤ c0_0) (h : impl_StoreOK.f k l0_0 a0_1 = some r) :
  Calls Try.prog 22 #[.agg #[.slice A0_0 l0_0.length c0_0, .int .i64 a0_1]] w fun e w' => e = .returned (.bool r) ∧ Below w.heap.size w w' := by
 have hu28 := Try.underlying28; have hu43 := Try.underlying43; have HR0_0 := qO hr0_0; have HC0_0 := qO hc0_0; clear hr0_0 hc0_0; have HB := qO (Below.refl w.heap.size w); have H : (if (l0_0.length : Int) = 16 then ((impl_within.f a0_1 0 100000).bind fun t102 => (impl_StoreOK.j0 k (!t102) l0_0 a0_1)) else (impl_StoreOK.j0 k true l0_0 a0_1)) = some r := h; clear h; have HC2 := qO H; clear H
 go_enter Try.func22, Try.ntmps22
 go_upto_region 1 with (first | ((with_reducible refine gate_dst (N := 1) rfl ?_); refine qX 1 #[.slice A0_0 l0_0.length c0_0, .int .i64 a0_1] 28 ?_; intro gb101 hg w3 hbox hb; have BK101 := qO (hbox); have GW101 := qO ((qa38 : w.heap.size ≤ gb101)); have GE101 := qO ((qa38 : w.heap.size ≤ gb101)); replace HB := qO (below_step qa67 hb); clear hb hbox hg))
 repeat (go_quiet (first | ((with_reducible refine gate_dst (N := 1) rfl ?_); refine qX 1 #[.slice A0_0 l0_0.length c0_0, .int .i64 a0_1] 28 ?_; intro gb101 hg w3 hbox hb; have BK101 := qO (hbox); have GW101 := qO ((qa38 : w.heap.size ≤ gb101)); have GE101 := qO ((qa38 : w.heap.size ≤ gb101)); replace HB := qO (below_step qa67 hb); clear hb hbox hg)); go_upto_region 1 with (first | ((with_reducible refine gate_dst (N := 1) rfl ?_); refine qX 1 #[.slice A0_0 l0_0.length c0_0, .int .i64 a0_1] 28 ?_; intro gb101 hg w3 hbox hb; have BK101 := qO (hbox); have GW101 := qO ((qa38 : w.heap.size ≤ gb101)); have GE101 := qO ((qa38 : w.heap.size ≤ gb101)); replace HB := qO (below_step qa67 hb); clear hb hbox hg)))
 (try simp only [Act.put, qzA, qzB, qzC])
 go_cut [16] (fun v16 wc => ∃ (kq : Nat) (x16_1 : Bool), v16 = .bool x16_1 ∧ Aside0 (impl_StoreOK.j0 kq x16_1 l0_0 a0_1 = some r) ∧ Aside0 (kq ≤ k) ∧ Aside0 (wc.heap[gb101]? = some (.cells #[(.slice A0_0 l0_0.length c0_0), .int .i64 a0_1] 28 (0, 0))) ∧ Aside0 (Below w.heap.size w wc))
 case first =>
  have H := HC2.out; clear HC2
  by_cases c4 : (l0_0.length : Int) = 16
  ·rw [if_pos c4] at H
   have c4b0 : ((l0_0.length : Int) == 16) = true := beq_iff_eq.mpr c4; have c4b1 : ((l0_0.length : Int) != 16) = false := bne_eq_false_iff_eq.mpr c4; clear c4; (first | rw [c4b0] | (simp only [i64_w, i32_w]; rw [c4b0]) | skip); replace H := Option.bind_eq_some_iff.mp H; obtain ⟨t102, A50, H⟩ := H; replace H : (impl_StoreOK.j0 k (!t102) l0_0 a0_1) = some r := H; have A5 := qO A50; clear A50; have H' := qO H; clear H; obtain ⟨hcz6_0, hcz6_1, hfz6_0, hfz6_1⟩ := qb2 BK101.out
   go_wp2_with (first | (go_at_call 65; (with_reducible refine (impl_within.calls a0_1 0 100000 t102 _ A5.out).mono ?_); rintro e w' ⟨rfl, ⟨nd, rfl⟩⟩; (try first | exact ⟨rfl, _, World.drewN_drewN _ _ _⟩ | exact ⟨rfl, _, Eq.trans (World.drewN_drewN _ _ _) (congrArg (World.drewN _) (Nat.add_assoc _ _ _))⟩)))
   repeat (go_quiet (first | (go_at_call 65; (with_reducible refine (impl_within.calls a0_1 0 100000 t102 _ A5.out).mono ?_); rintro e w' ⟨rfl, ⟨nd, rfl⟩⟩; (try first | exact ⟨rfl, _, World.drewN_drewN _ _ _⟩ | exact ⟨rfl, _, Eq.trans (World.drewN_drewN _ _ _) (congrArg (World.drewN _) (Nat.add_assoc _ _ _))⟩))); try go_wp2_with (first | (go_at_call 65; (with_reducible refine (impl_within.calls a0_1 0 100000 t102 _ A5.out).mono ?_); rintro e w' ⟨rfl, ⟨nd, rfl⟩⟩; (try first | exact ⟨rfl, _, World.drewN_drewN _ _ _⟩ | exact ⟨rfl, _, Eq.trans (World.drewN_drewN _ _ _) (congrArg (World.drewN _) (Nat.add_assoc _ _ _))⟩))))
   go_meet
   case rel => exact ⟨_, (!t102), qa18, H', ⟨qa191⟩, ⟨qa4⟩, ⟨qa5⟩⟩
  ·rw [if_neg c4] at H
   have c4b0 : ((l0_0.length : Int) == 16) = false := beq_eq_false_iff_ne.mpr c4; have c4b1 : ((l0_0.length : Int) != 16) = true := bne_iff_ne.mpr c4; (first | rw [c4b0] | (simp only [i64_w, i32_w]; rw [c4b0]) | skip); have H' := qO H; clear H; obtain ⟨hcz7_0, hcz7_1, hfz7_0, hfz7_1⟩ := qb2 BK101.out; go_wp2
   repeat (go_quiet (fail); try go_wp2)
   go_meet
   case rel => exact ⟨_, (true), qa18, H', ⟨qa191⟩, ⟨qa4⟩, ⟨qa5⟩⟩
 case rest =>
  clear HC2
  try clear c2
  try clear p2
  try clear c4
  try clear c4b0
  try clear c4b1
  try clear hcz6_0
  try clear hcz6_1
  try clear hcz7_0
  try clear hcz7_1
  try clear hfz6_0
  try clear hfz6_1
  try clear hfz7_0
  try clear hfz7_1
  obtain ⟨kq, x16_1, rfl, HA, HJ1, BK101, HB⟩ := hcut
  cases kq with
  | zero => exact absurd HA.out (by simp [impl_StoreOK.j0])
  | succ kj1 =>
   have H := HA.out; clear HA; simp only [impl_StoreOK.j0] at H
   by_cases c8 : x16_1 = true
   ·subst c8
    have H1 : (some false) = some r := by rw [if_pos rfl] at H; exact H
    clear H; have H := H1; clear H1; obtain rfl := Option.some.inj H; go_wp2
    repeat (go_quiet (fail); try go_wp2)
    go_ret
    exact ⟨qa9, qa5⟩
   ·replace c8 := Bool.eq_false_iff.mpr c8
    subst c8; have H1 : (impl_StoreOK.l0 kj1 l0_0 (l0_0.length : Int) 0 l0_0 a0_1) = some r := by rw [if_neg (show ¬ (false = true) by decide)] at H; exact H
    clear H; have H := H1; clear H1; have H' := qO H; clear H; obtain ⟨hcz9_0, hcz9_1, hfz9_0, hfz9_1⟩ := qb2 BK101.out; go_wp2
    repeat (go_quiet (fail); try go_wp2)
    go_loopg [20] kj1 (fun kq v20 w' => ∃ (x20_2 : Int), v20 = .int .i64 x20_2 ∧ Aside0 (impl_StoreOK.l0 kq l0_0 (l0_0.length : Int) x20_2 l0_0 a0_1 = some r) ∧ Aside0 (kq ≤ kj1) ∧ Aside0 (w'.heap[gb101]? = some (.cells #[(.slice A0_0 l0_0.length c0_0), .int .i64 a0_1] 28 (0, 0))) ∧ Aside0 (Below w.heap.size w w'))
    case atStart => exact ⟨(0), qa18, H', ⟨Nat.le_refl _⟩, ⟨qa4⟩, ⟨qa5⟩⟩
    case round =>
     clear H'
     try clear c2
     try clear p2
     try clear c4
     try clear c4b0
     try clear c4b1
     try clear c8
     try clear hcz6_0
     try clear hcz6_1
     try clear hcz7_0
     try clear hcz7_1
     try clear hcz9_0
     try clear hcz9_1
     try clear hfz6_0
     try clear hfz6_1
     try clear hfz7_0
     try clear hfz7_1
     try clear hfz9_0
     try clear hfz9_1
     try clear p2
     obtain ⟨x20_2, rfl, HA, HK2, BK101, HB⟩ := hrel
     cases gk with
     | zero => exact absurd HA.out (by simp [impl_StoreOK.l0])
     | succ k2 =>
      have H := HA.out; clear HA; simp only [impl_StoreOK.l0] at H
      by_cases c10 : x20_2 < (l0_0.length : Int)
      ·rw [if_pos c10] at H
       have c10b0 : decide (x20_2 < (l0_0.length : Int)) = true := decide_eq_true c10; clear c10
       by_cases c11 : 0 ≤ x20_2
       ·rw [if_pos c11] at H
        have c11b0 : decide (0 ≤ x20_2) = true := decide_eq_true c11; clear c11
        by_cases c12 : x20_2 < (l0_0.length : Int)
        ·rw [if_pos c12] at H
         have c12b0 : decide (x20_2 < (l0_0.length : Int)) = true := decide_eq_true c12; clear c12; have H' := qO H; clear H; have p103 : 0 ≤ (x20_2 : Int) := qT qa2; have q103 : x20_2 < (l0_0.length : Int) := qT qa2; obtain ⟨ad103, A103_0, c103_0, e103, hx103_0, hl103_0, hi103_0⟩ := at_L4 HR0_0.out x20_2 p103 q103
         cases e103
         replace hx103_0 := (HB.out.cell (qL w _ hx103_0)).trans hx103_0; have HR103_0 := qO hi103_0; have HC103_0 := qO hl103_0; clear hi103_0 hl103_0; replace p103 := eq_true p103; replace q103 := eq_true q103; go_wp2
         repeat (go_quiet (fail); try go_wp2)
         go_loopg [27] k2 (fun kq v27 w' => ∃ (x27_3 : Int), v27 = .int .i64 x27_3 ∧ Aside0 (impl_StoreOK.l1 kq x20_2 (rd_L4 l0_0 x20_2) l0_0 (l0_0.length : Int) x20_2 (rd_L4 l0_0 x20_2) ((rd_L4 l0_0 x20_2).length : Int) x27_3 l0_0 a0_1 = some r) ∧ Aside0 (kq ≤ k2) ∧ Aside0 (w'.heap[gb101]? = some (.cells #[(.slice (some ad103) l0_0.length c0_0), .int .i64 a0_1] 28 (0, 0))) ∧ Aside0 (Below w.heap.size w w'))
         case atStart => exact ⟨(0), qa18, H', ⟨Nat.le_refl _⟩, ⟨qa4⟩, ⟨qa5⟩⟩
         case round =>
          clear H'
          try clear c1
          try clear p1
          try clear q1
          try clear hx1
          try clear c2
          try clear p2
          try clear c4
          try clear c4b0
          try clear c4b1
          try clear c8
          try clear c10
          try clear c10b0
          try clear p10
          try clear q10
          try clear hx10
          try clear c11
          try clear c11b0
          try clear c12
          try clear c12b0
          try clear hcz6_0
          try clear hcz6_1
          try clear hcz7_0
          try clear hcz7_1
          try clear hcz9_0
          try clear hcz9_1
          try clear hfz6_0
          try clear hfz6_1
          try clear hfz7_0
          try clear hfz7_1
          try clear hfz9_0
          try clear hfz9_1
          try clear hx103_0
          try clear p103
          try clear p2
          try clear q103
          obtain ⟨x27_3, rfl, HA, HK3, BK101, HB⟩ := hrel
          cases gk with
          | zero => exact absurd HA.out (by simp [impl_StoreOK.l1])
          | succ k3 =>
           have H := HA.out; clear HA; simp only [impl_StoreOK.l1] at H
           by_cases c13 : x27_3 < ((rd_L4 l0_0 x20_2).length : Int)
           ·rw [if_pos c13] at H
            have c13b0 : decide (x27_3 < ((rd_L4 l0_0 x20_2).length : Int)) = true := decide_eq_true c13; clear c13
            by_cases c14 : 0 ≤ x27_3
            ·rw [if_pos c14] at H
             have c14b0 : decide (0 ≤ x27_3) = true := decide_eq_true c14; clear c14
             by_cases c15 : x27_3 < ((rd_L4 l0_0 x20_2).length : Int)
             ·rw [if_pos c15] at H
              have c15b0 : decide (x27_3 < ((rd_L4 l0_0 x20_2).length : Int)) = true := decide_eq_true c15; clear c15; replace H := Option.bind_eq_some_iff.mp H; obtain ⟨t106, A160, H⟩ := H; replace H : (if t106 = true then (if x27_3 > 0 then (if 0 ≤ (wrap64 (x27_3 - 1)) then (if (wrap64 (x27_3 - 1)) < ((rd_L4 l0_0 x20_2).length : Int) then (if ((rd_T43 (rd_L4 l0_0 x20_2) (wrap64 (x27_3 - 1))).f0) ≥ ((rd_T43 (rd_L4 l0_0 x20_2) x27_3).f0) then (some false) else ((impl_fits.f x20_2 ((rd_T43 (rd_L4 l0_0 x20_2) x27_3).f1)).bind fun t108 => (if t108 = true then (impl_StoreOK.l1 k3 x20_2 (rd_L4 l0_0 x20_2) l0_0 (l0_0.length : Int) x20_2 (rd_L4 l0_0 x20_2) ((rd_L4 l0_0 x20_2).length : Int) (wrap64 (x27_3 + 1)) l0_0 a0_1) else (some false)))) else (none)) else (none)) else ((impl_fits.f x20_2 ((rd_T43 (rd_L4 l0_0 x20_2) x27_3).f1)).bind fun t109 => (if t109 = true then (impl_StoreOK.l1 k3 x20_2 (rd_L4 l0_0 x20_2) l0_0 (l0_0.length : Int) x20_2 (rd_L4 l0_0 x20_2) ((rd_L4 l0_0 x20_2).length : Int) (wrap64 (x27_3 + 1)) l0_0 a0_1) else (some false)))) else (some false)) = some r := H; have A16 := qO A160; clear A160
              by_cases c17 : t106 = true
              ·subst c17
               have H1 : (if x27_3 > 0 then (if 0 ≤ (wrap64 (x27_3 - 1)) then (if (wrap64 (x27_3 - 1)) < ((rd_L4 l0_0 x20_2).length : Int) then (if ((rd_T43 (rd_L4 l0_0 x20_2) (wrap64 (x27_3 - 1))).f0) ≥ ((rd_T43 (rd_L4 l0_0 x20_2) x27_3).f0) then (some false) else ((impl_fits.f x20_2 ((rd_T43 (rd_L4 l0_0 x20_2) x27_3).f1)).bind fun t108 => (if t108 = true then (impl_StoreOK.l1 k3 x20_2 (rd_L4 l0_0 x20_2) l0_0 (l0_0.length : Int) x20_2 (rd_L4 l0_0 x20_2) ((rd_L4 l0_0 x20_2).length : Int) (wrap64 (x27_3 + 1)) l0_0 a0_1) else (some false)))) else (none)) else (none)) else ((impl_fits.f x20_2 ((rd_T43 (rd_L4 l0_0 x20_2) x27_3).f1)).bind fun t109 => (if t109 = true then (impl_StoreOK.l1 k3 x20_2 (rd_L4 l0_0 x20_2) l0_0 (l0_0.length : Int) x20_2 (rd_L4 l0_0 x20_2) ((rd_L4 l0_0 x20_2).length : Int) (wrap64 (x27_3 + 1)) l0_0 a0_1) else (some false)))) = some r := by rw [if_pos rfl] at H; exact H
               clear H; have H := H1; clear H1
               by_cases c18 : x27_3 > 0
               ·rw [if_pos c18] at H
                have c18b0 : decide (0 < x27_3) = true := decide_eq_true c18; clear c18; obtain ⟨ji19, hji19⟩ : ∃ j_ : Int, (wrap64 (x27_3 - 1)) = j_ := ⟨_, rfl⟩; replace H : (if 0 ≤ (ji19) then (if (ji19) < ((rd_L4 l0_0 x20_2).length : Int) then (if ((rd_T43 (rd_L4 l0_0 x20_2) (ji19)).f0) ≥ ((rd_T43 (rd_L4 l0_0 x20_2) x27_3).f0) then (some false) else ((impl_fits.f x20_2 ((rd_T43 (rd_L4 l0_0 x20_2) x27_3).f1)).bind fun t108 => (if t108 = true then (impl_StoreOK.l1 k3 x20_2 (rd_L4 l0_0 x20_2) l0_0 (l0_0.length : Int) x20_2 (rd_L4 l0_0 x20_2) ((rd_L4 l0_0 x20_2).length : Int) (wrap64 (x27_3 + 1)) l0_0 a0_1) else (some false)))) else (none)) else (none)) = some r := by first | (rw [hji19] at H; exact H) | (simp only [hji19] at H ⊢; exact H)
                (try rw [hji19] at A16); have hji19w : (IntKind.i64.wrap (x27_3 - 1)) = ji19 := (i64_w _).trans hji19
                by_cases c20 : 0 ≤ (ji19)
                ·rw [if_pos c20] at H
                 have c20b0 : decide (0 ≤ (ji19)) = true := decide_eq_true c20; clear c20
                 by_cases c21 : (ji19) < ((rd_L4 l0_0 x20_2).length : Int)
                 ·rw [if_pos c21] at H
                  have c21b0 : decide ((ji19) < ((rd_L4 l0_0 x20_2).length : Int)) = true := decide_eq_true c21; clear c21
                  by_cases c22 : ((rd_T43 (rd_L4 l0_0 x20_2) (ji19)).f0) ≥ ((rd_T43 (rd_L4 l0_0 x20_2) x27_3).f0)
                  ·rw [if_pos c22] at H
                   have c22b0 : decide (((rd_T43 (rd_L4 l0_0 x20_2) x27_3).f0) ≤ ((rd_T43 (rd_L4 l0_0 x20_2) (ji19)).f0)) = true := decide_eq_true c22; clear c22; obtain rfl := Option.some.inj H; have p104 : 0 ≤ (x27_3 : Int) := qT qa2; have q104 : x27_3 < ((rd_L4 l0_0 x20_2).length : Int) := qT qa2; obtain ⟨ad104, e104, hx104_0, hx104_1⟩ := at_T43 HR103_0.out x27_3 p104 q104
                   cases e104
                   replace hx104_0 := (HB.out.cell (qL w _ hx104_0)).trans hx104_0; replace hx104_1 := (HB.out.cell (qL w _ hx104_1)).trans hx104_1; replace p104 := eq_true p104; replace q104 := eq_true q104
                   go_wp2_with (first | ((with_reducible refine gate_dst (N := 6) rfl ?_); refine qX 6 #[.int .i64 0, .int .i64 0] 43 ?_; intro gb105 hg w23 hbox hb; have hx_ := qHX HB hb qa1; have BK105 := qO (hbox); have GW105 := qO ((qa17 : w.heap.size ≤ gb105)); have GE105 := GW105; have NB101_105 := qO ((qa12 : gb101 ≠ gb105)); have NB105_101 := qO (Ne.symm NB101_105.out); replace BK101 := qO (qB BK101.out hx_ hb); replace HB := qO (below_step (below_step HB.out hx_) hb); clear hx_ hb hbox hg; have hnb24 := NB105_101.out; have hnc24 := NB101_105.out; obtain ⟨hcz25_0, hcz25_1, hfz25_0, hfz25_1⟩ := qb2 BK105.out; obtain ⟨hcz26_0, hcz26_1, hfz26_0, hfz26_1⟩ := qb2 BK101.out) | (go_at_call 65; (with_reducible refine (impl_within.calls ((rd_T43 (rd_L4 l0_0 x20_2) x27_3).f0) 1 a0_1 true _ A16.out).mono ?_); rintro e w' ⟨rfl, ⟨nd, rfl⟩⟩; (try first | exact ⟨rfl, _, World.drewN_drewN _ _ _⟩ | exact ⟨rfl, _, Eq.trans (World.drewN_drewN _ _ _) (congrArg (World.drewN _) (Nat.add_assoc _ _ _))⟩); have p107 : 0 ≤ ((ji19) : Int) := qT qa2; have q107 : (ji19) < ((rd_L4 l0_0 x20_2).length : Int) := qT qa2; obtain ⟨ad107, e107, hx107_0, hx107_1⟩ := at_T43 HR103_0.out (ji19) p107 q107; obtain rfl : ad104 = ad107 := qa213; have hn107_0 : ad104.block ≠ gb105 := Nat.ne_of_lt (Nat.lt_of_lt_of_le qa79 GW105.out); have hn107_1 : ad104.block ≠ gb105 := Nat.ne_of_lt (Nat.lt_of_lt_of_le qa79 GW105.out); replace hx107_0 := (HB.out.cell (qL w _ hx107_0)).trans hx107_0; replace hx107_1 := (HB.out.cell (qL w _ hx107_1)).trans hx107_1; replace hx107_0 := (cell_far (p := ⟨gb105, 0, none⟩) qa39 (.int .i64 ((rd_T43 (rd_L4 l0_0 x20_2) x27_3).f0))).trans hx107_0; replace hx107_1 := (cell_far (p := ⟨gb105, 0, none⟩) qa39 (.int .i64 ((rd_T43 (rd_L4 l0_0 x20_2) x27_3).f0))).trans hx107_1; replace hx107_0 := (cell_far (p := ⟨gb105, 1, none⟩) qa40 (.int .i64 ((rd_T43 (rd_L4 l0_0 x20_2) x27_3).f1))).trans hx107_0; replace hx107_1 := (cell_far (p := ⟨gb105, 1, none⟩) qa40 (.int .i64 ((rd_T43 (rd_L4 l0_0 x20_2) x27_3).f1))).trans hx107_1; (try have hy107_0 := fun (n_ : Nat) => (show ((((w23.drewN n_).setCell ⟨gb105, 0, none⟩ (.int .i64 ((rd_T43 (rd_L4 l0_0 x20_2) x27_3).f0))).setCell ⟨gb105, 1, none⟩ (.int .i64 ((rd_T43 (rd_L4 l0_0 x20_2) x27_3).f1)))).cell? _ = some _ from hx107_0)); (try have hy107_1 := fun (n_ : Nat) => (show ((((w23.drewN n_).setCell ⟨gb105, 0, none⟩ (.int .i64 ((rd_T43 (rd_L4 l0_0 x20_2) x27_3).f0))).setCell ⟨gb105, 1, none⟩ (.int .i64 ((rd_T43 (rd_L4 l0_0 x20_2) x27_3).f1)))).cell? _ = some _ from hx107_1)); clear hn107_0 hn107_1; replace p107 := eq_true p107; replace q107 := eq_true q107))
                   repeat (go_quiet (first | ((with_reducible refine gate_dst (N := 6) rfl ?_); refine qX 6 #[.int .i64 0, .int .i64 0] 43 ?_; intro gb105 hg w23 hbox hb; have BK105 := qO (hbox); have GW105 := qO ((qa29 : w.heap.size ≤ gb105)); have GE105 := qO ((qa29 : w.heap.size ≤ gb105)); have NB101_105 := qO ((qa12 : gb101 ≠ gb105)); have NB105_101 := qO ((qa66 : gb105 ≠ gb101)); replace BK101 := qO (blk_below (g := gb101) (o := .cells #[.slice (some ad103) l0_0.length c0_0, .int .i64 a0_1] 28 (0, 0)) qa4 hb); replace HB := qO (below_step qa5 hb); clear hb hbox hg; have hnb24 := NB105_101.out; have hnc24 := NB101_105.out; obtain ⟨hcz25_0, hcz25_1, hfz25_0, hfz25_1⟩ := qb2 BK105.out; obtain ⟨hcz26_0, hcz26_1, hfz26_0, hfz26_1⟩ := qb2 BK101.out) | (go_at_call 65; (with_reducible refine (impl_within.calls ((rd_T43 (rd_L4 l0_0 x20_2) x27_3).f0) 1 a0_1 true _ A16.out).mono ?_); rintro e w' ⟨rfl, ⟨nd, rfl⟩⟩; (try first | exact ⟨rfl, _, World.drewN_drewN _ _ _⟩ | exact ⟨rfl, _, Eq.trans (World.drewN_drewN _ _ _) (congrArg (World.drewN _) (Nat.add_assoc _ _ _))⟩); have p107 : 0 ≤ ((ji19) : Int) := qT qa2; have q107 : (ji19) < ((rd_L4 l0_0 x20_2).length : Int) := qT qa2; obtain ⟨ad107, e107, hx107_0, hx107_1⟩ := at_T43 HR103_0.out (ji19) p107 q107; obtain rfl : ad104 = ad107 := qa213; have hn107_0 : ad104.block ≠ gb105 := Nat.ne_of_lt (Nat.lt_of_lt_of_le qa79 GW105.out); have hn107_1 : ad104.block ≠ gb105 := Nat.ne_of_lt (Nat.lt_of_lt_of_le qa79 GW105.out); replace hx107_0 := (HB.out.cell (qL w _ hx107_0)).trans hx107_0; replace hx107_1 := (HB.out.cell (qL w _ hx107_1)).trans hx107_1; replace hx107_0 := (cell_far (p := ⟨gb105, 0, none⟩) qa39 (.int .i64 ((rd_T43 (rd_L4 l0_0 x20_2) x27_3).f0))).trans hx107_0; replace hx107_1 := (cell_far (p := ⟨gb105, 0, none⟩) qa39 (.int .i64 ((rd_T43 (rd_L4 l0_0 x20_2) x27_3).f0))).trans hx107_1; replace hx107_0 := (cell_far (p := ⟨gb105, 1, none⟩) qa40 (.int .i64 ((rd_T43 (rd_L4 l0_0 x20_2) x27_3).f1))).trans hx107_0; replace hx107_1 := (cell_far (p := ⟨gb105, 1, none⟩) qa40 (.int .i64 ((rd_T43 (rd_L4 l0_0 x20_2) x27_3).f1))).trans hx107_1; (try have hy107_0 := fun (n_ : Nat) => (show ((((w23.drewN n_).setCell ⟨gb105, 0, none⟩ (.int .i64 ((rd_T43 (rd_L4 l0_0 x20_2) x27_3).f0))).setCell ⟨gb105, 1, none⟩ (.int .i64 ((rd_T43 (rd_L4 l0_0 x20_2) x27_3).f1)))).cell? _ = some _ from hx107_0)); (try have hy107_1 := fun (n_ : Nat) => (show ((((w23.drewN n_).setCell ⟨gb105, 0, none⟩ (.int .i64 ((rd_T43 (rd_L4 l0_0 x20_2) x27_3).f0))).setCell ⟨gb105, 1, none⟩ (.int .i64 ((rd_T43 (rd_L4 l0_0 x20_2) x27_3).f1)))).cell? _ = some _ from hx107_1)); clear hn107_0 hn107_1; replace p107 := eq_true p107; replace q107 := eq_true q107)); try go_wp2_with (first | ((with_reducible refine gate_dst (N := 6) rfl ?_); refine qX 6 #[.int .i64 0, .int .i64 0] 43 ?_; intro gb105 hg w23 hbox hb; have hx_ := qHX HB hb qa1; have BK105 := qO (hbox); have GW105 := qO ((qa17 : w.heap.size ≤ gb105)); have GE105 := GW105; have NB101_105 := qO ((qa12 : gb101 ≠ gb105)); have NB105_101 := qO (Ne.symm NB101_105.out); replace BK101 := qO (qB BK101.out hx_ hb); replace HB := qO (below_step (below_step HB.out hx_) hb); clear hx_ hb hbox hg; have hnb24 := NB105_101.out; have hnc24 := NB101_105.out; obtain ⟨hcz25_0, hcz25_1, hfz25_0, hfz25_1⟩ := qb2 BK105.out; obtain ⟨hcz26_0, hcz26_1, hfz26_0, hfz26_1⟩ := qb2 BK101.out) | (go_at_call 65; (with_reducible refine (impl_within.calls ((rd_T43 (rd_L4 l0_0 x20_2) x27_3).f0) 1 a0_1 true _ A16.out).mono ?_); rintro e w' ⟨rfl, ⟨nd, rfl⟩⟩; (try first | exact ⟨rfl, _, World.drewN_drewN _ _ _⟩ | exact ⟨rfl, _, Eq.trans (World.drewN_drewN _ _ _) (congrArg (World.drewN _) (Nat.add_assoc _ _ _))⟩); have p107 : 0 ≤ ((ji19) : Int) := qT qa2; have q107 : (ji19) < ((rd_L4 l0_0 x20_2).length : Int) := qT qa2; obtain ⟨ad107, e107, hx107_0, hx107_1⟩ := at_T43 HR103_0.out (ji19) p107 q107; obtain rfl : ad104 = ad107 := qa213; have hn107_0 : ad104.block ≠ gb105 := Nat.ne_of_lt (Nat.lt_of_lt_of_le qa79 GW105.out); have hn107_1 : ad104.block ≠ gb105 := Nat.ne_of_lt (Nat.lt_of_lt_of_le qa79 GW105.out); replace hx107_0 := (HB.out.cell (qL w _ hx107_0)).trans hx107_0; replace hx107_1 := (HB.out.cell (qL w _ hx107_1)).trans hx107_1; replace hx107_0 := (cell_far (p := ⟨gb105, 0, none⟩) qa39 (.int .i64 ((rd_T43 (rd_L4 l0_0 x20_2) x27_3).f0))).trans hx107_0; replace hx107_1 := (cell_far (p := ⟨gb105, 0, none⟩) qa39 (.int .i64 ((rd_T43 (rd_L4 l0_0 x20_2) x27_3).f0))).trans hx107_1; replace hx107_0 := (cell_far (p := ⟨gb105, 1, none⟩) qa40 (.int .i64 ((rd_T43 (rd_L4 l0_0 x20_2) x27_3).f1))).trans hx107_0; replace hx107_1 := (cell_far (p := ⟨gb105, 1, none⟩) qa40 (.int .i64 ((rd_T43 (rd_L4 l0_0 x20_2) x27_3).f1))).trans hx107_1; (try have hy107_0 := fun (n_ : Nat) => (show ((((w23.drewN n_).setCell ⟨gb105, 0, none⟩ (.int .i64 ((rd_T43 (rd_L4 l0_0 x20_2) x27_3).f0))).setCell ⟨gb105, 1, none⟩ (.int .i64 ((rd_T43 (rd_L4 l0_0 x20_2) x27_3).f1)))).cell? _ = some _ from hx107_0)); (try have hy107_1 := fun (n_ : Nat) => (show ((((w23.drewN n_).setCell ⟨gb105, 0, none⟩ (.int .i64 ((rd_T43 (rd_L4 l0_0 x20_2) x27_3).f0))).setCell ⟨gb105, 1, none⟩ (.int .i64 ((rd_T43 (rd_L4 l0_0 x20_2) x27_3).f1)))).cell? _ = some _ from hx107_1)); clear hn107_0 hn107_1; replace p107 := eq_true p107; replace q107 := eq_true q107)))
                   go_ret
                   exact ⟨qa149, qa97⟩
                  ·rw [if_neg c22] at H
                   have c22b0 : decide (((rd_T43 (rd_L4 l0_0 x20_2) x27_3).f0) ≤ ((rd_T43 (rd_L4 l0_0 x20_2) (ji19)).f0)) = false := decide_eq_false c22; clear c22; replace H := Option.bind_eq_some_iff.mp H; obtain ⟨t108, A270, H⟩ := H; replace H : (if t108 = true then (impl_StoreOK.l1 k3 x20_2 (rd_L4 l0_0 x20_2) l0_0 (l0_0.length : Int) x20_2 (rd_L4 l0_0 x20_2) ((rd_L4 l0_0 x20_2).length : Int) (wrap64 (x27_3 + 1)) l0_0 a0_1) else (some false)) = some r := H; have A27 := qO A270; clear A270
                   by_cases c28 : t108 = true
                   ·subst c28
                    have H1 : (impl_StoreOK.l1 k3 x20_2 (rd_L4 l0_0 x20_2) l0_0 (l0_0.length : Int) x20_2 (rd_L4 l0_0 x20_2) ((rd_L4 l0_0 x20_2).length : Int) (wrap64 (x27_3 + 1)) l0_0 a0_1) = some r := by rw [if_pos rfl] at H; exact H
                    clear H; have H := H1; clear H1; have H' := qO H; clear H; have p104 : 0 ≤ (x27_3 : Int) := qT qa2; have q104 : x27_3 < ((rd_L4 l0_0 x20_2).length : Int) := qT qa2; obtain ⟨ad104, e104, hx104_0, hx104_1⟩ := at_T43 HR103_0.out x27_3 p104 q104
                    cases e104
                    replace hx104_0 := (HB.out.cell (qL w _ hx104_0)).trans hx104_0; replace hx104_1 := (HB.out.cell (qL w _ hx104_1)).trans hx104_1; replace p104 := eq_true p104; replace q104 := eq_true q104
                    go_wp2_with (first | ((with_reducible refine gate_dst (N := 6) rfl ?_); refine qX 6 #[.int .i64 0, .int .i64 0] 43 ?_; intro gb105 hg w29 hbox hb; have hx_ := qHX HB hb qa1; have BK105 := qO (hbox); have GW105 := qO ((qa17 : w.heap.size ≤ gb105)); have GE105 := GW105; have NB101_105 := qO ((qa12 : gb101 ≠ gb105)); have NB105_101 := qO (Ne.symm NB101_105.out); replace BK101 := qO (qB BK101.out hx_ hb); replace HB := qO (below_step (below_step HB.out hx_) hb); clear hx_ hb hbox hg; have hnb30 := NB105_101.out; have hnc30 := NB101_105.out; obtain ⟨hcz31_0, hcz31_1, hfz31_0, hfz31_1⟩ := qb2 BK105.out; obtain ⟨hcz32_0, hcz32_1, hfz32_0, hfz32_1⟩ := qb2 BK101.out) | (go_at_call 65; (with_reducible refine (impl_within.calls ((rd_T43 (rd_L4 l0_0 x20_2) x27_3).f0) 1 a0_1 true _ A16.out).mono ?_); rintro e w' ⟨rfl, ⟨nd, rfl⟩⟩; (try first | exact ⟨rfl, _, World.drewN_drewN _ _ _⟩ | exact ⟨rfl, _, Eq.trans (World.drewN_drewN _ _ _) (congrArg (World.drewN _) (Nat.add_assoc _ _ _))⟩); have p107 : 0 ≤ ((ji19) : Int) := qT qa2; have q107 : (ji19) < ((rd_L4 l0_0 x20_2).length : Int) := qT qa2; obtain ⟨ad107, e107, hx107_0, hx107_1⟩ := at_T43 HR103_0.out (ji19) p107 q107; obtain rfl : ad104 = ad107 := qa213; have hn107_0 : ad104.block ≠ gb105 := Nat.ne_of_lt (Nat.lt_of_lt_of_le qa79 GW105.out); have hn107_1 : ad104.block ≠ gb105 := Nat.ne_of_lt (Nat.lt_of_lt_of_le qa79 GW105.out); replace hx107_0 := (HB.out.cell (qL w _ hx107_0)).trans hx107_0; replace hx107_1 := (HB.out.cell (qL w _ hx107_1)).trans hx107_1; replace hx107_0 := (cell_far (p := ⟨gb105, 0, none⟩) qa39 (.int .i64 ((rd_T43 (rd_L4 l0_0 x20_2) x27_3).f0))).trans hx107_0; replace hx107_1 := (cell_far (p := ⟨gb105, 0, none⟩) qa39 (.int .i64 ((rd_T43 (rd_L4 l0_0 x20_2) x27_3).f0))).trans hx107_1; replace hx107_0 := (cell_far (p := ⟨gb105, 1, none⟩) qa40 (.int .i64 ((rd_T43 (rd_L4 l0_0 x20_2) x27_3).f1))).trans hx107_0; replace hx107_1 := (cell_far (p := ⟨gb105, 1, none⟩) qa40 (.int .i64 ((rd_T43 (rd_L4 l0_0 x20_2) x27_3).f1))).trans hx107_1; (try have hy107_0 := fun (n_ : Nat) => (show ((((w29.drewN n_).setCell ⟨gb105, 0, none⟩ (.int .i64 ((rd_T43 (rd_L4 l0_0 x20_2) x27_3).f0))).setCell ⟨gb105, 1, none⟩ (.int .i64 ((rd_T43 (rd_L4 l0_0 x20_2) x27_3).f1)))).cell? _ = some _ from hx107_0)); (try have hy107_1 := fun (n_ : Nat) => (show ((((w29.drewN n_).setCell ⟨gb105, 0, none⟩ (.int .i64 ((rd_T43 (rd_L4 l0_0 x20_2) x27_3).f0))).setCell ⟨gb105, 1, none⟩ (.int .i64 ((rd_T43 (rd_L4 l0_0 x20_2) x27_3).f1)))).cell? _ = some _ from hx107_1)); clear hn107_0 hn107_1; replace p107 := eq_true p107; replace q107 := eq_true q107) | (go_at_call 66; (with_reducible refine (impl_fits.calls x20_2 ((rd_T43 (rd_L4 l0_0 x20_2) x27_3).f1) true _ A27.out).mono ?_); rintro e w' ⟨rfl, ⟨nd, rfl⟩⟩; (try first | exact ⟨rfl, _, World.drewN_drewN _ _ _⟩ | exact ⟨rfl, _, Eq.trans (World.drewN_drewN _ _ _) (congrArg (World.drewN _) (Nat.add_assoc _ _ _))⟩)))
                    repeat (go_quiet (first | ((with_reducible refine gate_dst (N := 6) rfl ?_); refine qX 6 #[.int .i64 0, .int .i64 0] 43 ?_; intro gb105 hg w29 hbox hb; have BK105 := qO (hbox); have GW105 := qO ((qa29 : w.heap.size ≤ gb105)); have GE105 := qO ((qa29 : w.heap.size ≤ gb105)); have NB101_105 := qO ((qa12 : gb101 ≠ gb105)); have NB105_101 := qO ((qa66 : gb105 ≠ gb101)); replace BK101 := qO (blk_below (g := gb101) (o := .cells #[.slice (some ad103) l0_0.length c0_0, .int .i64 a0_1] 28 (0, 0)) qa4 hb); replace HB := qO (below_step qa5 hb); clear hb hbox hg; have hnb30 := NB105_101.out; have hnc30 := NB101_105.out; obtain ⟨hcz31_0, hcz31_1, hfz31_0, hfz31_1⟩ := qb2 BK105.out; obtain ⟨hcz32_0, hcz32_1, hfz32_0, hfz32_1⟩ := qb2 BK101.out) | (go_at_call 65; (with_reducible refine (impl_within.calls ((rd_T43 (rd_L4 l0_0 x20_2) x27_3).f0) 1 a0_1 true _ A16.out).mono ?_); rintro e w' ⟨rfl, ⟨nd, rfl⟩⟩; (try first | exact ⟨rfl, _, World.drewN_drewN _ _ _⟩ | exact ⟨rfl, _, Eq.trans (World.drewN_drewN _ _ _) (congrArg (World.drewN _) (Nat.add_assoc _ _ _))⟩); have p107 : 0 ≤ ((ji19) : Int) := qT qa2; have q107 : (ji19) < ((rd_L4 l0_0 x20_2).length : Int) := qT qa2; obtain ⟨ad107, e107, hx107_0, hx107_1⟩ := at_T43 HR103_0.out (ji19) p107 q107; obtain rfl : ad104 = ad107 := qa213; have hn107_0 : ad104.block ≠ gb105 := Nat.ne_of_lt (Nat.lt_of_lt_of_le qa79 GW105.out); have hn107_1 : ad104.block ≠ gb105 := Nat.ne_of_lt (Nat.lt_of_lt_of_le qa79 GW105.out); replace hx107_0 := (HB.out.cell (qL w _ hx107_0)).trans hx107_0; replace hx107_1 := (HB.out.cell (qL w _ hx107_1)).trans hx107_1; replace hx107_0 := (cell_far (p := ⟨gb105, 0, none⟩) qa39 (.int .i64 ((rd_T43 (rd_L4 l0_0 x20_2) x27_3).f0))).trans hx107_0; replace hx107_1 := (cell_far (p := ⟨gb105, 0, none⟩) qa39 (.int .i64 ((rd_T43 (rd_L4 l0_0 x20_2) x27_3).f0))).trans hx107_1; replace hx107_0 := (cell_far (p := ⟨gb105, 1, none⟩) qa40 (.int .i64 ((rd_T43 (rd_L4 l0_0 x20_2) x27_3).f1))).trans hx107_0; replace hx107_1 := (cell_far (p := ⟨gb105, 1, none⟩) qa40 (.int .i64 ((rd_T43 (rd_L4 l0_0 x20_2) x27_3).f1))).trans hx107_1; (try have hy107_0 := fun (n_ : Nat) => (show ((((w29.drewN n_).setCell ⟨gb105, 0, none⟩ (.int .i64 ((rd_T43 (rd_L4 l0_0 x20_2) x27_3).f0))).setCell ⟨gb105, 1, none⟩ (.int .i64 ((rd_T43 (rd_L4 l0_0 x20_2) x27_3).f1)))).cell? _ = some _ from hx107_0)); (try have hy107_1 := fun (n_ : Nat) => (show ((((w29.drewN n_).setCell ⟨gb105, 0, none⟩ (.int .i64 ((rd_T43 (rd_L4 l0_0 x20_2) x27_3).f0))).setCell ⟨gb105, 1, none⟩ (.int .i64 ((rd_T43 (rd_L4 l0_0 x20_2) x27_3).f1)))).cell? _ = some _ from hx107_1)); clear hn107_0 hn107_1; replace p107 := eq_true p107; replace q107 := eq_true q107) | (go_at_call 66; (with_reducible refine (impl_fits.calls x20_2 ((rd_T43 (rd_L4 l0_0 x20_2) x27_3).f1) true _ A27.out).mono ?_); rintro e w' ⟨rfl, ⟨nd, rfl⟩⟩; (try first | exact ⟨rfl, _, World.drewN_drewN _ _ _⟩ | exact ⟨rfl, _, Eq.trans (World.drewN_drewN _ _ _) (congrArg (World.drewN _) (Nat.add_assoc _ _ _))⟩))); try go_wp2_with (first | ((with_reducible refine gate_dst (N := 6) rfl ?_); refine qX 6 #[.int .i64 0, .int .i64 0] 43 ?_; intro gb105 hg w29 hbox hb; have hx_ := qHX HB hb qa1; have BK105 := qO (hbox); have GW105 := qO ((qa17 : w.heap.size ≤ gb105)); have GE105 := GW105; have NB101_105 := qO ((qa12 : gb101 ≠ gb105)); have NB105_101 := qO (Ne.symm NB101_105.out); replace BK101 := qO (qB BK101.out hx_ hb); replace HB := qO (below_step (below_step HB.out hx_) hb); clear hx_ hb hbox hg; have hnb30 := NB105_101.out; have hnc30 := NB101_105.out; obtain ⟨hcz31_0, hcz31_1, hfz31_0, hfz31_1⟩ := qb2 BK105.out; obtain ⟨hcz32_0, hcz32_1, hfz32_0, hfz32_1⟩ := qb2 BK101.out) | (go_at_call 65; (with_reducible refine (impl_within.calls ((rd_T43 (rd_L4 l0_0 x20_2) x27_3).f0) 1 a0_1 true _ A16.out).mono ?_); rintro e w' ⟨rfl, ⟨nd, rfl⟩⟩; (try first | exact ⟨rfl, _, World.drewN_drewN _ _ _⟩ | exact ⟨rfl, _, Eq.trans (World.drewN_drewN _ _ _) (congrArg (World.drewN _) (Nat.add_assoc _ _ _))⟩); have p107 : 0 ≤ ((ji19) : Int) := qT qa2; have q107 : (ji19) < ((rd_L4 l0_0 x20_2).length : Int) := qT qa2; obtain ⟨ad107, e107, hx107_0, hx107_1⟩ := at_T43 HR103_0.out (ji19) p107 q107; obtain rfl : ad104 = ad107 := qa213; have hn107_0 : ad104.block ≠ gb105 := Nat.ne_of_lt (Nat.lt_of_lt_of_le qa79 GW105.out); have hn107_1 : ad104.block ≠ gb105 := Nat.ne_of_lt (Nat.lt_of_lt_of_le qa79 GW105.out); replace hx107_0 := (HB.out.cell (qL w _ hx107_0)).trans hx107_0; replace hx107_1 := (HB.out.cell (qL w _ hx107_1)).trans hx107_1; replace hx107_0 := (cell_far (p := ⟨gb105, 0, none⟩) qa39 (.int .i64 ((rd_T43 (rd_L4 l0_0 x20_2) x27_3).f0))).trans hx107_0; replace hx107_1 := (cell_far (p := ⟨gb105, 0, none⟩) qa39 (.int .i64 ((rd_T43 (rd_L4 l0_0 x20_2) x27_3).f0))).trans hx107_1; replace hx107_0 := (cell_far (p := ⟨gb105, 1, none⟩) qa40 (.int .i64 ((rd_T43 (rd_L4 l0_0 x20_2) x27_3).f1))).trans hx107_0; replace hx107_1 := (cell_far (p := ⟨gb105, 1, none⟩) qa40 (.int .i64 ((rd_T43 (rd_L4 l0_0 x20_2) x27_3).f1))).trans hx107_1; (try have hy107_0 := fun (n_ : Nat) => (show ((((w29.drewN n_).setCell ⟨gb105, 0, none⟩ (.int .i64 ((rd_T43 (rd_L4 l0_0 x20_2) x27_3).f0))).setCell ⟨gb105, 1, none⟩ (.int .i64 ((rd_T43 (rd_L4 l0_0 x20_2) x27_3).f1)))).cell? _ = some _ from hx107_0)); (try have hy107_1 := fun (n_ : Nat) => (show ((((w29.drewN n_).setCell ⟨gb105, 0, none⟩ (.int .i64 ((rd_T43 (rd_L4 l0_0 x20_2) x27_3).f0))).setCell ⟨gb105, 1, none⟩ (.int .i64 ((rd_T43 (rd_L4 l0_0 x20_2) x27_3).f1)))).cell? _ = some _ from hx107_1)); clear hn107_0 hn107_1; replace p107 := eq_true p107; replace q107 := eq_true q107) | (go_at_call 66; (with_reducible refine (impl_fits.calls x20_2 ((rd_T43 (rd_L4 l0_0 x20_2) x27_3).f1) true _ A27.out).mono ?_); rintro e w' ⟨rfl, ⟨nd, rfl⟩⟩; (try first | exact ⟨rfl, _, World.drewN_drewN _ _ _⟩ | exact ⟨rfl, _, Eq.trans (World.drewN_drewN _ _ _) (congrArg (World.drewN _) (Nat.add_assoc _ _ _))⟩))))
                    go_roundg k3
                    case measure => have := HJ1.out; have := HK2.out; have := HK3.out; omega
                    case rel => exact ⟨(wrap64 (x27_3 + 1)), qa18, H', ⟨qa169⟩, ⟨qa116⟩, ⟨qa97⟩⟩
                   ·replace c28 := Bool.eq_false_iff.mpr c28
                    subst c28; have H1 : (some false) = some r := by rw [if_neg (show ¬ (false = true) by decide)] at H; exact H
                    clear H; have H := H1; clear H1; obtain rfl := Option.some.inj H; have p104 : 0 ≤ (x27_3 : Int) := qT qa2; have q104 : x27_3 < ((rd_L4 l0_0 x20_2).length : Int) := qT qa2; obtain ⟨ad104, e104, hx104_0, hx104_1⟩ := at_T43 HR103_0.out x27_3 p104 q104
                    cases e104
                    replace hx104_0 := (HB.out.cell (qL w _ hx104_0)).trans hx104_0; replace hx104_1 := (HB.out.cell (qL w _ hx104_1)).trans hx104_1; replace p104 := eq_true p104; replace q104 := eq_true q104
                    go_wp2_with (first | ((with_reducible refine gate_dst (N := 6) rfl ?_); refine qX 6 #[.int .i64 0, .int .i64 0] 43 ?_; intro gb105 hg w33 hbox hb; have hx_ := qHX HB hb qa1; have BK105 := qO (hbox); have GW105 := qO ((qa17 : w.heap.size ≤ gb105)); have GE105 := GW105; have NB101_105 := qO ((qa12 : gb101 ≠ gb105)); have NB105_101 := qO (Ne.symm NB101_105.out); replace BK101 := qO (qB BK101.out hx_ hb); replace HB := qO (below_step (below_step HB.out hx_) hb); clear hx_ hb hbox hg; have hnb34 := NB105_101.out; have hnc34 := NB101_105.out; obtain ⟨hcz35_0, hcz35_1, hfz35_0, hfz35_1⟩ := qb2 BK105.out; obtain ⟨hcz36_0, hcz36_1, hfz36_0, hfz36_1⟩ := qb2 BK101.out) | (go_at_call 65; (with_reducible refine (impl_within.calls ((rd_T43 (rd_L4 l0_0 x20_2) x27_3).f0) 1 a0_1 true _ A16.out).mono ?_); rintro e w' ⟨rfl, ⟨nd, rfl⟩⟩; (try first | exact ⟨rfl, _, World.drewN_drewN _ _ _⟩ | exact ⟨rfl, _, Eq.trans (World.drewN_drewN _ _ _) (congrArg (World.drewN _) (Nat.add_assoc _ _ _))⟩); have p107 : 0 ≤ ((ji19) : Int) := qT qa2; have q107 : (ji19) < ((rd_L4 l0_0 x20_2).length : Int) := qT qa2; obtain ⟨ad107, e107, hx107_0, hx107_1⟩ := at_T43 HR103_0.out (ji19) p107 q107; obtain rfl : ad104 = ad107 := qa213; have hn107_0 : ad104.block ≠ gb105 := Nat.ne_of_lt (Nat.lt_of_lt_of_le qa79 GW105.out); have hn107_1 : ad104.block ≠ gb105 := Nat.ne_of_lt (Nat.lt_of_lt_of_le qa79 GW105.out); replace hx107_0 := (HB.out.cell (qL w _ hx107_0)).trans hx107_0; replace hx107_1 := (HB.out.cell (qL w _ hx107_1)).trans hx107_1; replace hx107_0 := (cell_far (p := ⟨gb105, 0, none⟩) qa39 (.int .i64 ((rd_T43 (rd_L4 l0_0 x20_2) x27_3).f0))).trans hx107_0; replace hx107_1 := (cell_far (p := ⟨gb105, 0, none⟩) qa39 (.int .i64 ((rd_T43 (rd_L4 l0_0 x20_2) x27_3).f0))).trans hx107_1; replace hx107_0 := (cell_far (p := ⟨gb105, 1, none⟩) qa40 (.int .i64 ((rd_T43 (rd_L4 l0_0 x20_2) x27_3).f1))).trans hx107_0; replace hx107_1 := (cell_far (p := ⟨gb105, 1, none⟩) qa40 (.int .i64 ((rd_T43 (rd_L4 l0_0 x20_2) x27_3).f1))).trans hx107_1; (try have hy107_0 := fun (n_ : Nat) => (show ((((w33.drewN n_).setCell ⟨gb105, 0, none⟩ (.int .i64 ((rd_T43 (rd_L4 l0_0 x20_2) x27_3).f0))).setCell ⟨gb105, 1, none⟩ (.int .i64 ((rd_T43 (rd_L4 l0_0 x20_2) x27_3).f1)))).cell? _ = some _ from hx107_0)); (try have hy107_1 := fun (n_ : Nat) => (show ((((w33.drewN n_).setCell ⟨gb105, 0, none⟩ (.int .i64 ((rd_T43 (rd_L4 l0_0 x20_2) x27_3).f0))).setCell ⟨gb105, 1, none⟩ (.int .i64 ((rd_T43 (rd_L4 l0_0 x20_2) x27_3).f1)))).cell? _ = some _ from hx107_1)); clear hn107_0 hn107_1; replace p107 := eq_true p107; replace q107 := eq_true q107) | (go_at_call 66; (with_reducible refine (impl_fits.calls x20_2 ((rd_T43 (rd_L4 l0_0 x20_2) x27_3).f1) false _ A27.out).mono ?_); rintro e w' ⟨rfl, ⟨nd, rfl⟩⟩; (try first | exact ⟨rfl, _, World.drewN_drewN _ _ _⟩ | exact ⟨rfl, _, Eq.trans (World.drewN_drewN _ _ _) (congrArg (World.drewN _) (Nat.add_assoc _ _ _))⟩)))
                    repeat (go_quiet (first | ((with_reducible refine gate_dst (N := 6) rfl ?_); refine qX 6 #[.int .i64 0, .int .i64 0] 43 ?_; intro gb105 hg w33 hbox hb; have BK105 := qO (hbox); have GW105 := qO ((qa29 : w.heap.size ≤ gb105)); have GE105 := qO ((qa29 : w.heap.size ≤ gb105)); have NB101_105 := qO ((qa12 : gb101 ≠ gb105)); have NB105_101 := qO ((qa66 : gb105 ≠ gb101)); replace BK101 := qO (blk_below (g := gb101) (o := .cells #[.slice (some ad103) l0_0.length c0_0, .int .i64 a0_1] 28 (0, 0)) qa4 hb); replace HB := qO (below_step qa5 hb); clear hb hbox hg; have hnb34 := NB105_101.out; have hnc34 := NB101_105.out; obtain ⟨hcz35_0, hcz35_1, hfz35_0, hfz35_1⟩ := qb2 BK105.out; obtain ⟨hcz36_0, hcz36_1, hfz36_0, hfz36_1⟩ := qb2 BK101.out) | (go_at_call 65; (with_reducible refine (impl_within.calls ((rd_T43 (rd_L4 l0_0 x20_2) x27_3).f0) 1 a0_1 true _ A16.out).mono ?_); rintro e w' ⟨rfl, ⟨nd, rfl⟩⟩; (try first | exact ⟨rfl, _, World.drewN_drewN _ _ _⟩ | exact ⟨rfl, _, Eq.trans (World.drewN_drewN _ _ _) (congrArg (World.drewN _) (Nat.add_assoc _ _ _))⟩); have p107 : 0 ≤ ((ji19) : Int) := qT qa2; have q107 : (ji19) < ((rd_L4 l0_0 x20_2).length : Int) := qT qa2; obtain ⟨ad107, e107, hx107_0, hx107_1⟩ := at_T43 HR103_0.out (ji19) p107 q107; obtain rfl : ad104 = ad107 := qa213; have hn107_0 : ad104.block ≠ gb105 := Nat.ne_of_lt (Nat.lt_of_lt_of_le qa79 GW105.out); have hn107_1 : ad104.block ≠ gb105 := Nat.ne_of_lt (Nat.lt_of_lt_of_le qa79 GW105.out); replace hx107_0 := (HB.out.cell (qL w _ hx107_0)).trans hx107_0; replace hx107_1 := (HB.out.cell (qL w _ hx107_1)).trans hx107_1; replace hx107_0 := (cell_far (p := ⟨gb105, 0, none⟩) qa39 (.int .i64 ((rd_T43 (rd_L4 l0_0 x20_2) x27_3).f0))).trans hx107_0; replace hx107_1 := (cell_far (p := ⟨gb105, 0, none⟩) qa39 (.int .i64 ((rd_T43 (rd_L4 l0_0 x20_2) x27_3).f0))).trans hx107_1; replace hx107_0 := (cell_far (p := ⟨gb105, 1, none⟩) qa40 (.int .i64 ((rd_T43 (rd_L4 l0_0 x20_2) x27_3).f1))).trans hx107_0; replace hx107_1 := (cell_far (p := ⟨gb105, 1, none⟩) qa40 (.int .i64 ((rd_T43 (rd_L4 l0_0 x20_2) x27_3).f1))).trans hx107_1; (try have hy107_0 := fun (n_ : Nat) => (show ((((w33.drewN n_).setCell ⟨gb105, 0, none⟩ (.int .i64 ((rd_T43 (rd_L4 l0_0 x20_2) x27_3).f0))).setCell ⟨gb105, 1, none⟩ (.int .i64 ((rd_T43 (rd_L4 l0_0 x20_2) x27_3).f1)))).cell? _ = some _ from hx107_0)); (try have hy107_1 := fun (n_ : Nat) => (show ((((w33.drewN n_).setCell ⟨gb105, 0, none⟩ (.int .i64 ((rd_T43 (rd_L4 l0_0 x20_2) x27_3).f0))).setCell ⟨gb105, 1, none⟩ (.int .i64 ((rd_T43 (rd_L4 l0_0 x20_2) x27_3).f1)))).cell? _ = some _ from hx107_1)); clear hn107_0 hn107_1; replace p107 := eq_true p107; replace q107 := eq_true q107) | (go_at_call 66; (with_reducible refine (impl_fits.calls x20_2 ((rd_T43 (rd_L4 l0_0 x20_2) x27_3).f1) false _ A27.out).mono ?_); rintro e w' ⟨rfl, ⟨nd, rfl⟩⟩; (try first | exact ⟨rfl, _, World.drewN_drewN _ _ _⟩ | exact ⟨rfl, _, Eq.trans (World.drewN_drewN _ _ _) (congrArg (World.drewN _) (Nat.add_assoc _ _ _))⟩))); try go_wp2_with (first | ((with_reducible refine gate_dst (N := 6) rfl ?_); refine qX 6 #[.int .i64 0, .int .i64 0] 43 ?_; intro gb105 hg w33 hbox hb; have hx_ := qHX HB hb qa1; have BK105 := qO (hbox); have GW105 := qO ((qa17 : w.heap.size ≤ gb105)); have GE105 := GW105; have NB101_105 := qO ((qa12 : gb101 ≠ gb105)); have NB105_101 := qO (Ne.symm NB101_105.out); replace BK101 := qO (qB BK101.out hx_ hb); replace HB := qO (below_step (below_step HB.out hx_) hb); clear hx_ hb hbox hg; have hnb34 := NB105_101.out; have hnc34 := NB101_105.out; obtain ⟨hcz35_0, hcz35_1, hfz35_0, hfz35_1⟩ := qb2 BK105.out; obtain ⟨hcz36_0, hcz36_1, hfz36_0, hfz36_1⟩ := qb2 BK101.out) | (go_at_call 65; (with_reducible refine (impl_within.calls ((rd_T43 (rd_L4 l0_0 x20_2) x27_3).f0) 1 a0_1 true _ A16.out).mono ?_); rintro e w' ⟨rfl, ⟨nd, rfl⟩⟩; (try first | exact ⟨rfl, _, World.drewN_drewN _ _ _⟩ | exact ⟨rfl, _, Eq.trans (World.drewN_drewN _ _ _) (congrArg (World.drewN _) (Nat.add_assoc _ _ _))⟩); have p107 : 0 ≤ ((ji19) : Int) := qT qa2; have q107 : (ji19) < ((rd_L4 l0_0 x20_2).length : Int) := qT qa2; obtain ⟨ad107, e107, hx107_0, hx107_1⟩ := at_T43 HR103_0.out (ji19) p107 q107; obtain rfl : ad104 = ad107 := qa213; have hn107_0 : ad104.block ≠ gb105 := Nat.ne_of_lt (Nat.lt_of_lt_of_le qa79 GW105.out); have hn107_1 : ad104.block ≠ gb105 := Nat.ne_of_lt (Nat.lt_of_lt_of_le qa79 GW105.out); replace hx107_0 := (HB.out.cell (qL w _ hx107_0)).trans hx107_0; replace hx107_1 := (HB.out.cell (qL w _ hx107_1)).trans hx107_1; replace hx107_0 := (cell_far (p := ⟨gb105, 0, none⟩) qa39 (.int .i64 ((rd_T43 (rd_L4 l0_0 x20_2) x27_3).f0))).trans hx107_0; replace hx107_1 := (cell_far (p := ⟨gb105, 0, none⟩) qa39 (.int .i64 ((rd_T43 (rd_L4 l0_0 x20_2) x27_3).f0))).trans hx107_1; replace hx107_0 := (cell_far (p := ⟨gb105, 1, none⟩) qa40 (.int .i64 ((rd_T43 (rd_L4 l0_0 x20_2) x27_3).f1))).trans hx107_0; replace hx107_1 := (cell_far (p := ⟨gb105, 1, none⟩) qa40 (.int .i64 ((rd_T43 (rd_L4 l0_0 x20_2) x27_3).f1))).trans hx107_1; (try have hy107_0 := fun (n_ : Nat) => (show ((((w33.drewN n_).setCell ⟨gb105, 0, none⟩ (.int .i64 ((rd_T43 (rd_L4 l0_0 x20_2) x27_3).f0))).setCell ⟨gb105, 1, none⟩ (.int .i64 ((rd_T43 (rd_L4 l0_0 x20_2) x27_3).f1)))).cell? _ = some _ from hx107_0)); (try have hy107_1 := fun (n_ : Nat) => (show ((((w33.drewN n_).setCell ⟨gb105, 0, none⟩ (.int .i64 ((rd_T43 (rd_L4 l0_0 x20_2) x27_3).f0))).setCell ⟨gb105, 1, none⟩ (.int .i64 ((rd_T43 (rd_L4 l0_0 x20_2) x27_3).f1)))).cell? _ = some _ from hx107_1)); clear hn107_0 hn107_1; replace p107 := eq_true p107; replace q107 := eq_true q107) | (go_at_call 66; (with_reducible refine (impl_fits.calls x20_2 ((rd_T43 (rd_L4 l0_0 x20_2) x27_3).f1) false _ A27.out).mono ?_); rintro e w' ⟨rfl, ⟨nd, rfl⟩⟩; (try first | exact ⟨rfl, _, World.drewN_drewN _ _ _⟩ | exact ⟨rfl, _, Eq.trans (World.drewN_drewN _ _ _) (congrArg (World.drewN _) (Nat.add_assoc _ _ _))⟩))))
                    go_ret
                    exact ⟨qa149, qa97⟩
                 ·rw [if_neg c21] at H
                  exact absurd H qa120
                ·rw [if_neg c20] at H
                 exact absurd H qa120
               ·rw [if_neg c18] at H
                have c18b0 : decide (0 < x27_3) = false := decide_eq_false c18; clear c18; replace H := Option.bind_eq_some_iff.mp H; obtain ⟨t109, A370, H⟩ := H; replace H : (if t109 = true then (impl_StoreOK.l1 k3 x20_2 (rd_L4 l0_0 x20_2) l0_0 (l0_0.length : Int) x20_2 (rd_L4 l0_0 x20_2) ((rd_L4 l0_0 x20_2).length : Int) (wrap64 (x27_3 + 1)) l0_0 a0_1) else (some false)) = some r := H; have A37 := qO A370; clear A370
                by_cases c38 : t109 = true
                ·subst c38
                 have H1 : (impl_StoreOK.l1 k3 x20_2 (rd_L4 l0_0 x20_2) l0_0 (l0_0.length : Int) x20_2 (rd_L4 l0_0 x20_2) ((rd_L4 l0_0 x20_2).length : Int) (wrap64 (x27_3 + 1)) l0_0 a0_1) = some r := by rw [if_pos rfl] at H; exact H
                 clear H; have H := H1; clear H1; have H' := qO H; clear H; have p104 : 0 ≤ (x27_3 : Int) := qT qa2; have q104 : x27_3 < ((rd_L4 l0_0 x20_2).length : Int) := qT qa2; obtain ⟨ad104, e104, hx104_0, hx104_1⟩ := at_T43 HR103_0.out x27_3 p104 q104
                 cases e104
                 replace hx104_0 := (HB.out.cell (qL w _ hx104_0)).trans hx104_0; replace hx104_1 := (HB.out.cell (qL w _ hx104_1)).trans hx104_1; replace p104 := eq_true p104; replace q104 := eq_true q104
                 go_wp2_with (first | ((with_reducible refine gate_dst (N := 6) rfl ?_); refine qX 6 #[.int .i64 0, .int .i64 0] 43 ?_; intro gb105 hg w39 hbox hb; have hx_ := qHX HB hb qa1; have BK105 := qO (hbox); have GW105 := qO ((qa17 : w.heap.size ≤ gb105)); have GE105 := GW105; have NB101_105 := qO ((qa12 : gb101 ≠ gb105)); have NB105_101 := qO (Ne.symm NB101_105.out); replace BK101 := qO (qB BK101.out hx_ hb); replace HB := qO (below_step (below_step HB.out hx_) hb); clear hx_ hb hbox hg; have hnb40 := NB105_101.out; have hnc40 := NB101_105.out; obtain ⟨hcz41_0, hcz41_1, hfz41_0, hfz41_1⟩ := qb2 BK105.out; obtain ⟨hcz42_0, hcz42_1, hfz42_0, hfz42_1⟩ := qb2 BK101.out) | (go_at_call 65; (with_reducible refine (impl_within.calls ((rd_T43 (rd_L4 l0_0 x20_2) x27_3).f0) 1 a0_1 true _ A16.out).mono ?_); rintro e w' ⟨rfl, ⟨nd, rfl⟩⟩; (try first | exact ⟨rfl, _, World.drewN_drewN _ _ _⟩ | exact ⟨rfl, _, Eq.trans (World.drewN_drewN _ _ _) (congrArg (World.drewN _) (Nat.add_assoc _ _ _))⟩)) | (go_at_call 66; (with_reducible refine (impl_fits.calls x20_2 ((rd_T43 (rd_L4 l0_0 x20_2) x27_3).f1) true _ A37.out).mono ?_); rintro e w' ⟨rfl, ⟨nd, rfl⟩⟩; (try first | exact ⟨rfl, _, World.drewN_drewN _ _ _⟩ | exact ⟨rfl, _, Eq.trans (World.drewN_drewN _ _ _) (congrArg (World.drewN _) (Nat.add_assoc _ _ _))⟩)))
                 repeat (go_quiet (first | ((with_reducible refine gate_dst (N := 6) rfl ?_); refine qX 6 #[.int .i64 0, .int .i64 0] 43 ?_; intro gb105 hg w39 hbox hb; have BK105 := qO (hbox); have GW105 := qO ((qa29 : w.heap.size ≤ gb105)); have GE105 := qO ((qa29 : w.heap.size ≤ gb105)); have NB101_105 := qO ((qa12 : gb101 ≠ gb105)); have NB105_101 := qO ((qa66 : gb105 ≠ gb101)); replace BK101 := qO (blk_below (g := gb101) (o := .cells #[.slice (some ad103) l0_0.length c0_0, .int .i64 a0_1] 28 (0, 0)) qa4 hb); replace HB := qO (below_step qa5 hb); clear hb hbox hg; have hnb40 := NB105_101.out; have hnc40 := NB101_105.out; obtain ⟨hcz41_0, hcz41_1, hfz41_0, hfz41_1⟩ := qb2 BK105.out; obtain ⟨hcz42_0, hcz42_1, hfz42_0, hfz42_1⟩ := qb2 BK101.out) | (go_at_call 65; (with_reducible refine (impl_within.calls ((rd_T43 (rd_L4 l0_0 x20_2) x27_3).f0) 1 a0_1 true _ A16.out).mono ?_); rintro e w' ⟨rfl, ⟨nd, rfl⟩⟩; (try first | exact ⟨rfl, _, World.drewN_drewN _ _ _⟩ | exact ⟨rfl, _, Eq.trans (World.drewN_drewN _ _ _) (congrArg (World.drewN _) (Nat.add_assoc _ _ _))⟩)) | (go_at_call 66; (with_reducible refine (impl_fits.calls x20_2 ((rd_T43 (rd_L4 l0_0 x20_2) x27_3).f1) true _ A37.out).mono ?_); rintro e w' ⟨rfl, ⟨nd, rfl⟩⟩; (try first | exact ⟨rfl, _, World.drewN_drewN _ _ _⟩ | exact ⟨rfl, _, Eq.trans (World.drewN_drewN _ _ _) (congrArg (World.drewN _) (Nat.add_assoc _ _ _))⟩))); try go_wp2_with (first | ((with_reducible refine gate_dst (N := 6) rfl ?_); refine qX 6 #[.int .i64 0, .int .i64 0] 43 ?_; intro gb105 hg w39 hbox hb; have hx_ := qHX HB hb qa1; have BK105 := qO (hbox); have GW105 := qO ((qa17 : w.heap.size ≤ gb105)); have GE105 := GW105; have NB101_105 := qO ((qa12 : gb101 ≠ gb105)); have NB105_101 := qO (Ne.symm NB101_105.out); replace BK101 := qO (qB BK101.out hx_ hb); replace HB := qO (below_step (below_step HB.out hx_) hb); clear hx_ hb hbox hg; have hnb40 := NB105_101.out; have hnc40 := NB101_105.out; obtain ⟨hcz41_0, hcz41_1, hfz41_0, hfz41_1⟩ := qb2 BK105.out; obtain ⟨hcz42_0, hcz42_1, hfz42_0, hfz42_1⟩ := qb2 BK101.out) | (go_at_call 65; (with_reducible refine (impl_within.calls ((rd_T43 (rd_L4 l0_0 x20_2) x27_3).f0) 1 a0_1 true _ A16.out).mono ?_); rintro e w' ⟨rfl, ⟨nd, rfl⟩⟩; (try first | exact ⟨rfl, _, World.drewN_drewN _ _ _⟩ | exact ⟨rfl, _, Eq.trans (World.drewN_drewN _ _ _) (congrArg (World.drewN _) (Nat.add_assoc _ _ _))⟩)) | (go_at_call 66; (with_reducible refine (impl_fits.calls x20_2 ((rd_T43 (rd_L4 l0_0 x20_2) x27_3).f1) true _ A37.out).mono ?_); rintro e w' ⟨rfl, ⟨nd, rfl⟩⟩; (try first | exact ⟨rfl, _, World.drewN_drewN _ _ _⟩ | exact ⟨rfl, _, Eq.trans (World.drewN_drewN _ _ _) (congrArg (World.drewN _) (Nat.add_assoc _ _ _))⟩))))
                 go_roundg k3
                 case measure => have := HJ1.out; have := HK2.out; have := HK3.out; omega
                 case rel => exact ⟨(wrap64 (x27_3 + 1)), qa18, H', ⟨qa169⟩, ⟨qa116⟩, ⟨qa97⟩⟩
                ·replace c38 := Bool.eq_false_iff.mpr c38
                 subst c38; have H1 : (some false) = some r := by rw [if_neg (show ¬ (false = true) by decide)] at H; exact H
                 clear H; have H := H1; clear H1; obtain rfl := Option.some.inj H; have p104 : 0 ≤ (x27_3 : Int) := qT qa2; have q104 : x27_3 < ((rd_L4 l0_0 x20_2).length : Int) := qT qa2; obtain ⟨ad104, e104, hx104_0, hx104_1⟩ := at_T43 HR103_0.out x27_3 p104 q104
                 cases e104
                 replace hx104_0 := (HB.out.cell (qL w _ hx104_0)).trans hx104_0; replace hx104_1 := (HB.out.cell (qL w _ hx104_1)).trans hx104_1; replace p104 := eq_true p104; replace q104 := eq_true q104
                 go_wp2_with (first | ((with_reducible refine gate_dst (N := 6) rfl ?_); refine qX 6 #[.int .i64 0, .int .i64 0] 43 ?_; intro gb105 hg w43 hbox hb; have hx_ := qHX HB hb qa1; have BK105 := qO (hbox); have GW105 := qO ((qa17 : w.heap.size ≤ gb105)); have GE105 := GW105; have NB101_105 := qO ((qa12 : gb101 ≠ gb105)); have NB105_101 := qO (Ne.symm NB101_105.out); replace BK101 := qO (qB BK101.out hx_ hb); replace HB := qO (below_step (below_step HB.out hx_) hb); clear hx_ hb hbox hg; have hnb44 := NB105_101.out; have hnc44 := NB101_105.out; obtain ⟨hcz45_0, hcz45_1, hfz45_0, hfz45_1⟩ := qb2 BK105.out; obtain ⟨hcz46_0, hcz46_1, hfz46_0, hfz46_1⟩ := qb2 BK101.out) | (go_at_call 65; (with_reducible refine (impl_within.calls ((rd_T43 (rd_L4 l0_0 x20_2) x27_3).f0) 1 a0_1 true _ A16.out).mono ?_); rintro e w' ⟨rfl, ⟨nd, rfl⟩⟩; (try first | exact ⟨rfl, _, World.drewN_drewN _ _ _⟩ | exact ⟨rfl, _, Eq.trans (World.drewN_drewN _ _ _) (congrArg (World.drewN _) (Nat.add_assoc _ _ _))⟩)) | (go_at_call 66; (with_reducible refine (impl_fits.calls x20_2 ((rd_T43 (rd_L4 l0_0 x20_2) x27_3).f1) false _ A37.out).mono ?_); rintro e w' ⟨rfl, ⟨nd, rfl⟩⟩; (try first | exact ⟨rfl, _, World.drewN_drewN _ _ _⟩ | exact ⟨rfl, _, Eq.trans (World.drewN_drewN _ _ _) (congrArg (World.drewN _) (Nat.add_assoc _ _ _))⟩)))
                 repeat (go_quiet (first | ((with_reducible refine gate_dst (N := 6) rfl ?_); refine qX 6 #[.int .i64 0, .int .i64 0] 43 ?_; intro gb105 hg w43 hbox hb; have BK105 := qO (hbox); have GW105 := qO ((qa29 : w.heap.size ≤ gb105)); have GE105 := qO ((qa29 : w.heap.size ≤ gb105)); have NB101_105 := qO ((qa12 : gb101 ≠ gb105)); have NB105_101 := qO ((qa66 : gb105 ≠ gb101)); replace BK101 := qO (blk_below (g := gb101) (o := .cells #[.slice (some ad103) l0_0.length c0_0, .int .i64 a0_1] 28 (0, 0)) qa4 hb); replace HB := qO (below_step qa5 hb); clear hb hbox hg; have hnb44 := NB105_101.out; have hnc44 := NB101_105.out; obtain ⟨hcz45_0, hcz45_1, hfz45_0, hfz45_1⟩ := qb2 BK105.out; obtain ⟨hcz46_0, hcz46_1, hfz46_0, hfz46_1⟩ := qb2 BK101.out) | (go_at_call 65; (with_reducible refine (impl_within.calls ((rd_T43 (rd_L4 l0_0 x20_2) x27_3).f0) 1 a0_1 true _ A16.out).mono ?_); rintro e w' ⟨rfl, ⟨nd, rfl⟩⟩; (try first | exact ⟨rfl, _, World.drewN_drewN _ _ _⟩ | exact ⟨rfl, _, Eq.trans (World.drewN_drewN _ _ _) (congrArg (World.drewN _) (Nat.add_assoc _ _ _))⟩)) | (go_at_call 66; (with_reducible refine (impl_fits.calls x20_2 ((rd_T43 (rd_L4 l0_0 x20_2) x27_3).f1) false _ A37.out).mono ?_); rintro e w' ⟨rfl, ⟨nd, rfl⟩⟩; (try first | exact ⟨rfl, _, World.drewN_drewN _ _ _⟩ | exact ⟨rfl, _, Eq.trans (World.drewN_drewN _ _ _) (congrArg (World.drewN _) (Nat.add_assoc _ _ _))⟩))); try go_wp2_with (first | ((with_reducible refine gate_dst (N := 6) rfl ?_); refine qX 6 #[.int .i64 0, .int .i64 0] 43 ?_; intro gb105 hg w43 hbox hb; have hx_ := qHX HB hb qa1; have BK105 := qO (hbox); have GW105 := qO ((qa17 : w.heap.size ≤ gb105)); have GE105 := GW105; have NB101_105 := qO ((qa12 : gb101 ≠ gb105)); have NB105_101 := qO (Ne.symm NB101_105.out); replace BK101 := qO (qB BK101.out hx_ hb); replace HB := qO (below_step (below_step HB.out hx_) hb); clear hx_ hb hbox hg; have hnb44 := NB105_101.out; have hnc44 := NB101_105.out; obtain ⟨hcz45_0, hcz45_1, hfz45_0, hfz45_1⟩ := qb2 BK105.out; obtain ⟨hcz46_0, hcz46_1, hfz46_0, hfz46_1⟩ := qb2 BK101.out) | (go_at_call 65; (with_reducible refine (impl_within.calls ((rd_T43 (rd_L4 l0_0 x20_2) x27_3).f0) 1 a0_1 true _ A16.out).mono ?_); rintro e w' ⟨rfl, ⟨nd, rfl⟩⟩; (try first | exact ⟨rfl, _, World.drewN_drewN _ _ _⟩ | exact ⟨rfl, _, Eq.trans (World.drewN_drewN _ _ _) (congrArg (World.drewN _) (Nat.add_assoc _ _ _))⟩)) | (go_at_call 66; (with_reducible refine (impl_fits.calls x20_2 ((rd_T43 (rd_L4 l0_0 x20_2) x27_3).f1) false _ A37.out).mono ?_); rintro e w' ⟨rfl, ⟨nd, rfl⟩⟩; (try first | exact ⟨rfl, _, World.drewN_drewN _ _ _⟩ | exact ⟨rfl, _, Eq.trans (World.drewN_drewN _ _ _) (congrArg (World.drewN _) (Nat.add_assoc _ _ _))⟩))))
                 go_ret
                 exact ⟨qa9, qa97⟩
              ·replace c17 := Bool.eq_false_iff.mpr c17
               subst c17; have H1 : (some false) = some r := by rw [if_neg (show ¬ (false = true) by decide)] at H; exact H
               clear H; have H := H1; clear H1; obtain rfl := Option.some.inj H; have p104 : 0 ≤ (x27_3 : Int) := qT qa2; have q104 : x27_3 < ((rd_L4 l0_0 x20_2).length : Int) := qT qa2; obtain ⟨ad104, e104, hx104_0, hx104_1⟩ := at_T43 HR103_0.out x27_3 p104 q104
               cases e104
               replace hx104_0 := (HB.out.cell (qL w _ hx104_0)).trans hx104_0; replace hx104_1 := (HB.out.cell (qL w _ hx104_1)).trans hx104_1; replace p104 := eq_true p104; replace q104 := eq_true q104
               go_wp2_with (first | ((with_reducible refine gate_dst (N := 6) rfl ?_); refine qX 6 #[.int .i64 0, .int .i64 0] 43 ?_; intro gb105 hg w47 hbox hb; have hx_ := qHX HB hb qa1; have BK105 := qO (hbox); have GW105 := qO ((qa17 : w.heap.size ≤ gb105)); have GE105 := GW105; have NB101_105 := qO ((qa12 : gb101 ≠ gb105)); have NB105_101 := qO (Ne.symm NB101_105.out); replace BK101 := qO (qB BK101.out hx_ hb); replace HB := qO (below_step (below_step HB.out hx_) hb); clear hx_ hb hbox hg; have hnb48 := NB105_101.out; have hnc48 := NB101_105.out; obtain ⟨hcz49_0, hcz49_1, hfz49_0, hfz49_1⟩ := qb2 BK105.out; obtain ⟨hcz50_0, hcz50_1, hfz50_0, hfz50_1⟩ := qb2 BK101.out) | (go_at_call 65; (with_reducible refine (impl_within.calls ((rd_T43 (rd_L4 l0_0 x20_2) x27_3).f0) 1 a0_1 false _ A16.out).mono ?_); rintro e w' ⟨rfl, ⟨nd, rfl⟩⟩; (try first | exact ⟨rfl, _, World.drewN_drewN _ _ _⟩ | exact ⟨rfl, _, Eq.trans (World.drewN_drewN _ _ _) (congrArg (World.drewN _) (Nat.add_assoc _ _ _))⟩)))
               repeat (go_quiet (first | ((with_reducible refine gate_dst (N := 6) rfl ?_); refine qX 6 #[.int .i64 0, .int .i64 0] 43 ?_; intro gb105 hg w47 hbox hb; have BK105 := qO (hbox); have GW105 := qO ((qa29 : w.heap.size ≤ gb105)); have GE105 := qO ((qa29 : w.heap.size ≤ gb105)); have NB101_105 := qO ((qa12 : gb101 ≠ gb105)); have NB105_101 := qO ((qa66 : gb105 ≠ gb101)); replace BK101 := qO (blk_below (g := gb101) (o := .cells #[.slice (some ad103) l0_0.length c0_0, .int .i64 a0_1] 28 (0, 0)) qa4 hb); replace HB := qO (below_step qa5 hb); clear hb hbox hg; have hnb48 := NB105_101.out; have hnc48 := NB101_105.out; obtain ⟨hcz49_0, hcz49_1, hfz49_0, hfz49_1⟩ := qb2 BK105.out; obtain ⟨hcz50_0, hcz50_1, hfz50_0, hfz50_1⟩ := qb2 BK101.out) | (go_at_call 65; (with_reducible refine (impl_within.calls ((rd_T43 (rd_L4 l0_0 x20_2) x27_3).f0) 1 a0_1 false _ A16.out).mono ?_); rintro e w' ⟨rfl, ⟨nd, rfl⟩⟩; (try first | exact ⟨rfl, _, World.drewN_drewN _ _ _⟩ | exact ⟨rfl, _, Eq.trans (World.drewN_drewN _ _ _) (congrArg (World.drewN _) (Nat.add_assoc _ _ _))⟩))); try go_wp2_with (first | ((with_reducible refine gate_dst (N := 6) rfl ?_); refine qX 6 #[.int .i64 0, .int .i64 0] 43 ?_; intro gb105 hg w47 hbox hb; have hx_ := qHX HB hb qa1; have BK105 := qO (hbox); have GW105 := qO ((qa17 : w.heap.size ≤ gb105)); have GE105 := GW105; have NB101_105 := qO ((qa12 : gb101 ≠ gb105)); have NB105_101 := qO (Ne.symm NB101_105.out); replace BK101 := qO (qB BK101.out hx_ hb); replace HB := qO (below_step (below_step HB.out hx_) hb); clear hx_ hb hbox hg; have hnb48 := NB105_101.out; have hnc48 := NB101_105.out; obtain ⟨hcz49_0, hcz49_1, hfz49_0, hfz49_1⟩ := qb2 BK105.out; obtain ⟨hcz50_0, hcz50_1, hfz50_0, hfz50_1⟩ := qb2 BK101.out) | (go_at_call 65; (with_reducible refine (impl_within.calls ((rd_T43 (rd_L4 l0_0 x20_2) x27_3).f0) 1 a0_1 false _ A16.out).mono ?_); rintro e w' ⟨rfl, ⟨nd, rfl⟩⟩; (try first | exact ⟨rfl, _, World.drewN_drewN _ _ _⟩ | exact ⟨rfl, _, Eq.trans (World.drewN_drewN _ _ _) (congrArg (World.drewN _) (Nat.add_assoc _ _ _))⟩))))
               go_ret
               exact ⟨qa9, qa97⟩
             ·rw [if_neg c15] at H
              exact absurd H qa120
            ·rw [if_neg c14] at H
             exact absurd H qa120
           ·rw [if_neg c13] at H
            have c13b0 : decide (x27_3 < ((rd_L4 l0_0 x20_2).length : Int)) = false := decide_eq_false c13; clear c13; have H' := qO H; clear H; go_wp2
            repeat (go_quiet (fail); try go_wp2)
            go_roundg k3
            case measure => have := HJ1.out; have := HK2.out; have := HK3.out; omega
            case rel => exact ⟨(wrap64 (x20_2 + 1)), qa18, H', ⟨qa169⟩, ⟨qa4⟩, ⟨qa5⟩⟩
        ·rw [if_neg c12] at H
         exact absurd H qa120
       ·rw [if_neg c11] at H
        exact absurd H qa120
      ·rw [if_neg c10] at H
       have c10b0 : decide (x20_2 < (l0_0.length : Int)) = false := decide_eq_false c10; clear c10; obtain rfl := Option.some.inj H; go_wp2
       repeat (go_quiet (fail); try go_wp2)
       go_ret
       exact ⟨qa9, qa5⟩


def spec_l06Own.l0 : Nat → Int → List (List (S43)) → Int → List (List (S43)) → Int → Option ((List (List (S43))) × Int)
 | 0, _, _, _, _, _ => none
 | k + 1, x4, x102000, x102001, x107000, x107001 => if x4 < (x102000.length : Int) then ((some (([] : List (S43)) : List (S43))).bind fun y107 => (if 0 ≤ x4 then (if y107.length + (rd_L4 x102000 x4).length < 8796093022208 then (if x107000.length < 5864062014805 then (spec_l06Own.l0 k (wrap64 (x4 + 1)) x102000 x102001 (x107000 ++ [(y107 ++ (rd_L4 x102000 x4))]) x107001) else (none)) else (none)) else (none))) else (some (x107000, x107001))
def spec_l06Own.f (k : Nat) (l0_0 : List (List (S43))) (a0_1 : Int) : Option ((List (List (S43))) × Int) := spec_l06Own.l0 k 0 l0_0 a0_1 (([] : List (List (S43)))) a0_1
def spec_l06Own.T5 : Bool × List (List Nat × List Nat) := (true, [([], []), ([0], [0]), ([], []), ([], []), ([3], [3]), ([], []), ([4, 5], [4, 5]), ([6], [6]), ([2, 7], [2, 7]), ([8], [8]), ([1, 9, 8], [1, 9]), ([0, 1, 2, 3, 4, 5, 6, 7, 8, 9, 10], []), ([11, 10, 10, 0, 1, 2, 3, 4, 5, 6, 7, 8, 9, 10], [10, 11])])
def spec_l06Own.B5 : List Nat := [0, 1, 0, 0, 8, 0, 56, 120, 252, 508, 1023, 2047, 4095]
theorem spec_l06Own.tab5 : rtab .any (opsOf Try.f72 5) = spec_l06Own.T5 := by kernel_rfl
theorem spec_l06Own.bits5 : waitsOk spec_l06Own.T5.2 spec_l06Own.B5 = true := by kernel_rfl
def spec_l06Own.y0 := #[qf,qf,qf,qf,qf,qf,qf,qf,qf,qf,qf,qf,qf]
def spec_l06Own.y1 := #[qt,qf,qf,qf,qf,qf,qf,qf,qf,qf,qf,qf,qf]
def spec_l06Own.y2 := #[qt,qf,qf,qt,qf,qf,qf,qf,qf,qf,qf,qf,qf]
def spec_l06Own.y3 := #[qt,qf,qf,qt,qf,qt,qf,qf,qf,qf,qf,qf,qf]
def spec_l06Own.y4 := #[qt,qt,qf,qt,qf,qt,qf,qf,qf,qf,qf,qf,qf]
def spec_l06Own.y5 := #[qt,qt,qf,qt,qt,qt,qf,qf,qf,qf,qf,qf,qf]
def spec_l06Own.y6 := #[qt,qt,qf,qt,qt,qt,qt,qf,qf,qf,qf,qf,qf]
def spec_l06Own.y7 := #[qt,qt,qf,qt,qt,qt,qt,qt,qf,qf,qf,qf,qf]
def spec_l06Own.y8 := #[qt,qt,qt,qt,qt,qt,qt,qt,qf,qf,qf,qf,qf]
def spec_l06Own.y9 := #[qt,qt,qt,qt,qt,qt,qt,qt,qt,qf,qf,qf,qf]
def spec_l06Own.y10 := #[qt,qt,qt,qt,qt,qt,qt,qt,qt,qt,qf,qf,qf]
def spec_l06Own.y11 := #[qt,qt,qt,qt,qt,qt,qt,qt,qt,qt,qt,qf,qf]
def spec_l06Own.y12 := #[qt,qt,qt,qt,qt,qt,qt,qt,qt,qt,qt,qt,qf]
def spec_l06Own.y13 := #[qt,qt,qt,qt,qt,qt,qt,qt,qt,qt,qt,qt,qt]
set_option maxHeartbeats 8000000 in
set_option maxRecDepth 100000 in
theorem spec_l06Own.calls (k : Nat) (A0_0 : Option Addr) (c0_0 : Nat) (l0_0 : List (List (S43))) (a0_1 : Int) (r1 : List (List (S43))) (r2 : Int) (w : World) (hr0_0 : Kd.C (Kd.slice 43 k43) w A0_0 l0_0.length l0_0) (hc0_0 : l0_0.length ≤ c0_0) (h : spec_l06Own.f k l0_0 a0_1 = some (r1, r2)) :
  Calls Try.prog 72 #[.agg #[.slice A0_0 l0_0.length c0_0, .int .i64 a0_1]] w fun e w' => ∃ v0_ : Value, e = .returned (.agg #[v0_, .int .i64 r2]) ∧ Kd.S (Kd.slice 43 k43) 41 w' w.heap.size (fun _ => True) v0_ r1 ∧ Below w.heap.size w w' := by
 have hu28 := Try.underlying28; have HR0_0 := qO hr0_0; have HC0_0 := qO hc0_0; clear hr0_0 hc0_0; have HB := qO (Below.refl w.heap.size w); have H : (spec_l06Own.l0 k 0 l0_0 a0_1 (([] : List (List (S43)))) a0_1) = some (r1, r2) := h; clear h; obtain ⟨y103, hy103⟩ : ∃ y_ : List (List (S43)), y_ = (([] : List (List (S43)))) := ⟨_, rfl⟩; replace H : (spec_l06Own.l0 k 0 l0_0 a0_1 y103 a0_1) = some (r1, r2) := by first | (rw [hy103]; with_reducible exact H) | (have H2_ := (Option.bind_some _ _).symm.trans H; rw [hy103]; with_reducible exact H2_) | (have H2_ := (Option.bind_some _ _).symm.trans H; with_reducible exact H2_) | with_reducible exact H | (rw [hy103]; exact H) | exact H
 have Ny103 := qO hy103; clear hy103; have H' := qO H; clear H
 go_enter Try.func72, Try.ntmps72
 go_wp2_with (first | ((with_reducible refine gate_dst (N := 1) rfl ?_); refine qX 1 #[.slice A0_0 l0_0.length c0_0, .int .i64 a0_1] 28 ?_; intro gb101 hg w2 hbox hb; have hx_ := qHX HB hb qa1; have BK101 := qO (hbox); have GW101 := qO ((qa17 : w.heap.size ≤ gb101)); have GE101 := GW101; replace HB := qO (below_step (below_step HB.out hx_) hb); clear hx_ hb hbox hg) | ((with_reducible refine gate_dst (N := 2) rfl ?_); refine qX 2 #[.slice none 0 0, .int .i64 0] 28 ?_; intro gb102 hg w3 hbox hb; have hx_ := qHX HB hb qa1; have BK102 := qO (hbox); have GW102 := qO ((qa17 : w.heap.size ≤ gb102)); have GE102 := GW102; have NB101_102 := qO ((qa8 : gb101 ≠ gb102)); have NB102_101 := qO (Ne.symm NB101_102.out); replace BK101 := qO (qB BK101.out hx_ hb); replace HB := qO (below_step (below_step HB.out hx_) hb); clear hx_ hb hbox hg) | ((with_reducible refine gate_dst (N := 5) rfl ?_); refine Kd.S_lit (Kd.slice 43 k43) _ 41 ?hg (N := 5) ?hd (xs := ([] : List (List (S43)))) (inner := []) (ok := fun _ => True) (okp := fun _ => True) ?hr ?hp (fun _ hk => hk) trivial (Below.refl _ _) (Nat.le_refl _) qa120 ?_; (case hd => rfl); (case hg => rfl); (case hr => exact qa16); (case hp => exact qa207); intro v104 w4 ho5 hb hg_ hnew_; clear hg_ hnew_; (first | rw [← Ny103.out] at ho5 | (simp only [Int.reduceToNat] at ho5; rw [← Ny103.out] at ho5)); have HO105 := qO (Kd.S_lower ho5 (below_size qa19)); replace BK101 := qO (blk_below (g := gb101) (o := .cells #[.slice A0_0 l0_0.length c0_0, .int .i64 a0_1] 28 (0, 0)) qa4 hb); replace BK102 := qO (blk_below (g := gb102) (o := .cells #[.slice none 0 0, .int .i64 0] 28 (0, 0)) qa26 hb); replace HB := qO (below_step qa19 hb); clear hb ho5; have hnb6 := NB101_102.out; have hnc6 := NB102_101.out; obtain ⟨hcz7_0, hcz7_1, hfz7_0, hfz7_1⟩ := qb2 BK101.out; obtain ⟨Ao8, co8, eo8⟩ := Kd.S_slice HO105.out; subst eo8) | ((with_reducible refine gate_dst (N := 3) rfl ?_); refine qX 3 #[.slice none 0 0, .int .i64 0] 28 ?_; intro gb106 hg w9 hbox hb; have hx_ := qHX HB hb qa1; have BK106 := qO (hbox); have GW106 := qO ((qa17 : w.heap.size ≤ gb106)); have GE106 := GW106; have NB101_106 := qO ((qa8 : gb101 ≠ gb106)); have NB106_101 := qO (Ne.symm NB101_106.out); have NB102_106 := qO ((qa44 : gb102 ≠ gb106)); have NB106_102 := qO (Ne.symm NB102_106.out); replace HO105 := qO (Kd.S_below qa144 hb); replace BK101 := qO (qB BK101.out hx_ hb); replace BK102 := qO (qB BK102.out hx_ hb); replace HB := qO (below_step (below_step HB.out hx_) hb); clear hx_ hb hbox hg; have hnb10 := NB106_101.out; have hnc10 := NB101_106.out; have hnb11 := NB106_102.out; have hnc11 := NB102_106.out; obtain ⟨hcz12_0, hcz12_1, hfz12_0, hfz12_1⟩ := qb2 BK106.out))
 go_loopg [4] k (fun kq v4 w' => ∃ (x4_1 : Int) (x107000_1 : List (List (S43))) (u107000 : Value), v4 = .int .i64 x4_1 ∧ Aside0 (spec_l06Own.l0 kq x4_1 l0_0 a0_1 x107000_1 a0_1 = some (r1, r2)) ∧ Aside0 (kq ≤ k) ∧ Aside0 (Kd.S (Kd.slice 43 k43) 41 w' w.heap.size (fun _ => True) u107000 x107000_1) ∧ Aside0 (w'.heap[gb101]? = some (.cells #[(.slice A0_0 l0_0.length c0_0), .int .i64 a0_1] 28 (0, 0))) ∧ Aside0 (w'.heap[gb102]? = some (.cells #[(.slice none 0 0), .int .i64 0] 28 (0, 0))) ∧ Aside0 (w'.heap[gb106]? = some (.cells #[u107000, .int .i64 a0_1] 28 (0, 0))) ∧ Aside0 (Below w.heap.size w w'))
 case atStart => exact ⟨(0), (y103), (.slice Ao8 y103.length co8), qa18, H', ⟨Nat.le_refl _⟩, ⟨by (with_reducible repeat (first | apply Kd.S_alloc | apply Kd.S_drewN | apply Kd.S_drew)); exact Kd.S_mono (Kd.S_far (p := ⟨gb106, 1, none⟩) (Kd.S_far (p := ⟨gb106, 0, none⟩) (Kd.S_types HO105.out BK106.out (by decide)) (fun _ hk => hk.2) (.slice Ao8 y103.length co8)) (fun _ hk => hk.2) (.int .i64 a0_1)) (fun _ hk => trivial)⟩, ⟨qa23⟩, ⟨qa117⟩, ⟨by (with_reducible repeat (first | refine qkN ?_ _ | refine qkD ?_ | refine qkA ?_ _)); refine blk_put (cs := #[.slice Ao8 y103.length co8, .int .i64 0]) ?_ 1 _ rfl; (with_reducible repeat (first | refine qkN ?_ _ | refine qkD ?_ | refine qkA ?_ _)); refine blk_put (cs := #[.slice none 0 0, .int .i64 0]) ?_ 0 _ rfl; (with_reducible repeat (first | refine qkN ?_ _ | refine qkD ?_ | refine qkA ?_ _)); exact BK106.out⟩, ⟨qa32⟩⟩
 case round =>
  clear H'
  try clear c1
  try clear p2
  try clear c6
  try clear c7
  try clear c10
  try clear c11
  try clear hcz12_0
  try clear hcz12_1
  try clear hcz7_0
  try clear hcz7_1
  try clear hfz12_0
  try clear hfz12_1
  try clear hfz7_0
  try clear hfz7_1
  obtain ⟨x4_1, x107000_1, u107000, rfl, HA, HK1, HO_107000, BK101, BK102, BK106, HB⟩ := hrel
  cases gk with
  | zero => exact absurd HA.out (by simp [spec_l06Own.l0])
  | succ k1 =>
   have H := HA.out; clear HA; simp only [spec_l06Own.l0] at H
   by_cases c13 : x4_1 < (l0_0.length : Int)
   ·rw [if_pos c13] at H
    have c13b0 : decide (x4_1 < (l0_0.length : Int)) = true := decide_eq_true c13; clear c13; obtain ⟨y107, hy107⟩ : ∃ y_ : List (S43), y_ = (([] : List (S43))) := ⟨_, rfl⟩; replace H : (if 0 ≤ x4_1 then (if y107.length + (rd_L4 l0_0 x4_1).length < 8796093022208 then (if x107000_1.length < 5864062014805 then (spec_l06Own.l0 k1 (wrap64 (x4_1 + 1)) l0_0 a0_1 (x107000_1 ++ [(y107 ++ (rd_L4 l0_0 x4_1))]) a0_1) else (none)) else (none)) else (none)) = some (r1, r2) := by first | (rw [hy107]; with_reducible exact H) | (have H2_ := (Option.bind_some _ _).symm.trans H; rw [hy107]; with_reducible exact H2_) | (have H2_ := (Option.bind_some _ _).symm.trans H; with_reducible exact H2_) | with_reducible exact H | (rw [hy107]; exact H) | exact H
    have Ny107 := qO hy107; clear hy107
    by_cases c14 : 0 ≤ x4_1
    ·rw [if_pos c14] at H
     have c14b0 : decide (0 ≤ x4_1) = true := decide_eq_true c14; clear c14
     by_cases c15 : y107.length + (rd_L4 l0_0 x4_1).length < 8796093022208
     ·rw [if_pos c15] at H
      have LMc15 := qO c15; clear c15; obtain ⟨y111, hy111⟩ : ∃ y_ : List (S43), y_ = (y107 ++ (rd_L4 l0_0 x4_1)) := ⟨_, rfl⟩; replace H : (if x107000_1.length < 5864062014805 then (spec_l06Own.l0 k1 (wrap64 (x4_1 + 1)) l0_0 a0_1 (x107000_1 ++ [y111]) a0_1) else (none)) = some (r1, r2) := by first | (rw [hy111]; with_reducible exact H) | (have H2_ := (Option.bind_some _ _).symm.trans H; rw [hy111]; with_reducible exact H2_) | (have H2_ := (Option.bind_some _ _).symm.trans H; with_reducible exact H2_) | with_reducible exact H | (rw [hy111]; exact H) | exact H
      have Ny111 := qO hy111; clear hy111
      by_cases c16 : x107000_1.length < 5864062014805
      ·rw [if_pos c16] at H
       have LMc16 := qO c16; clear c16; obtain ⟨y114, hy114⟩ : ∃ y_ : List (List (S43)), y_ = (x107000_1 ++ [y111]) := ⟨_, rfl⟩; replace H : (spec_l06Own.l0 k1 (wrap64 (x4_1 + 1)) l0_0 a0_1 y114 a0_1) = some (r1, r2) := by first | (rw [hy114]; with_reducible exact H) | (have H2_ := (Option.bind_some _ _).symm.trans H; rw [hy114]; with_reducible exact H2_) | (have H2_ := (Option.bind_some _ _).symm.trans H; with_reducible exact H2_) | with_reducible exact H | (rw [hy114]; exact H) | exact H
       have Ny114 := qO hy114; clear hy114; have H' := qO H; clear H; have hnb17 := NB101_102.out; have hnc17 := NB102_101.out; have hnb18 := NB101_106.out; have hnc18 := NB106_101.out; obtain ⟨hcz19_0, hcz19_1, hfz19_0, hfz19_1⟩ := qb2 BK101.out
       try go_wp2
       replace HO_107000 := qO (Kd.S_drew HO_107000.out); replace BK101 := qO (qkD BK101.out); replace BK102 := qO (qkD BK102.out); replace BK106 := qO (qkD BK106.out); replace HB := qO (qbD HB.out); have p110 : 0 ≤ (x4_1 : Int) := qT qa2; have q110 : x4_1 < (l0_0.length : Int) := qT qa2; obtain ⟨ad110, A110_0, c110_0, e110, hx110_0, hl110_0, hi110_0⟩ := at_L4 HR0_0.out x4_1 p110 q110; have hw110_0 := hx110_0
       cases e110
       replace hx110_0 := (HB.out.cell (qL w _ hx110_0)).trans hx110_0; have HR110_0 := qO hi110_0; have HC110_0 := qO hl110_0; clear hi110_0 hl110_0; replace p110 := eq_true p110; replace q110 := eq_true q110; refine start_ (n := 13) (S := fun w' => w'.cell? ⟨gb106, 0, none⟩ = some (u107000) ∧ w'.cell? ⟨gb106, 1, none⟩ = some (.int .i64 a0_1) ∧ w'.cell? ⟨gb101, 0, none⟩ = some (.slice (some ad110) l0_0.length c0_0) ∧ w'.cell? ⟨gb101, 1, none⟩ = some (.int .i64 a0_1) ∧ w'.cell? (ad110.add (x4_1).toNat) = some (.slice A110_0 (rd_L4 l0_0 x4_1).length c110_0)) (ds := [12]) spec_l06Own.y0 qa7 rfl rfl ⟨qc0 BK106.out, qc1 BK106.out, qc0 BK101.out, qc1 BK101.out, ((HB.out.cell (qL w _ hw110_0)).trans hw110_0)⟩ (fun hHeld => ?_); refine with_tabW spec_l06Own.tab5 spec_l06Own.bits5 (fun HT_ HW_ => ?_); generalize wr.drew = w20 at HO_107000 BK101 BK102 BK106 HB HR110_0 hx110_0 hHeld ⊢; refine qPu 0 16 spec_l06Own.y1 rfl rfl (any_of HT_.out qa7) qa10 qa3 ?_; refine qPu 3 19 spec_l06Own.y2 rfl rfl (any_of HT_.out qa7) qa10 qa3 ?_; refine qPu 5 21 spec_l06Own.y3 rfl rfl (any_of HT_.out qa7) qa10 qa3 ?_; refine qTk 1 17 spec_l06Own.y4 rfl rfl (take_ofW HT_.out HW_.out qa7) qa210 hHeld qa3 ?_; refine qTk 4 20 spec_l06Own.y5 rfl rfl (take_ofW HT_.out HW_.out qa7) qa210 hHeld qa3 ?_; refine qPu 6 22 spec_l06Own.y6 rfl rfl (any_of HT_.out qa7) qa10 qa3 ?_; refine qTk 7 23 spec_l06Own.y7 rfl rfl (take_ofW HT_.out HW_.out qa7) qa210 hHeld qa3 ?_; refine one_ (i := 2) (N := some 18) spec_l06Own.y8 rfl rfl (one_of HT_.out qa7) qa69 (fun K hK => ?_); refine Kd.R_lit_step k43 _ 43 ?hg (N := 18) ?hd (xs := ([] : List (S43))) (inner := []) (ok := fun _ => True) (okp := fun _ => True) ?hr ?hp (fun _ hk => hk) trivial (Below.refl _ _) (Nat.le_refl _) qa120 ?_; (case hd => rfl); (case hg => rfl); (case hr => exact qa16); (case hp => exact qa207); intro v108 w21 ho22 hb hg_ hnew_; clear hg_ hnew_; (first | rw [← Ny107.out] at ho22 | (simp only [Int.reduceToNat] at ho22; rw [← Ny107.out] at ho22)); have HO109 := qO (Kd.R_lower ho22 (below_size qa32)); replace HO_107000 := qO (Kd.S_elder' qa101 (Kd.R_base ho22) hb); replace BK101 := qO (blk_below (g := gb101) (o := .cells #[.slice (some ad110) l0_0.length c0_0, .int .i64 a0_1] 28 (0, 0)) qa4 hb); replace BK102 := qO (blk_below (g := gb102) (o := .cells #[.slice none 0 0, .int .i64 0] 28 (0, 0)) qa26 hb); replace BK106 := qO (blk_below (g := gb106) (o := .cells #[u107000, .int .i64 a0_1] 28 (0, 0)) qa31 hb); replace HB := qO (below_step qa32 hb); clear hb ho22; refine hK.out _ _ ⟨qc0 BK106.out, qc1 BK106.out, qc0 BK101.out, qc1 BK101.out, ((HB.out.cell (qL w _ hw110_0)).trans hw110_0)⟩ (fun hHeld => ?_); clear hK K; refine norm_ (a' := ?_) ?_ ?_; rotate_left
       ·exact qa20
       refine one_ (i := 8) (N := some 24) spec_l06Own.y9 rfl rfl (one_of HT_.out qa7) qa69 (fun K hK => ?_); refine Kd.R_append_rows_step k43 (w0 := w) w.heap.size (by rfl) (.tmp 18) (.tmp 23) 41 43 (.agg #[(.int .i64 0), (.int .i64 0)]) 16 rfl Try.underlying41 info43 rfl qa69 qa34 v108 y107 (rd_L4 l0_0 x4_1) _ _ _ (fun _ => True) (fun _ => False) rfl rfl ?aO ?aR (fun _ _ h => h) (fun _ h => h.elim) ?aF ?aB ?aS ?aL ?_; (case aR => repeat (first | exact (Kd.C_below HR110_0.out HB.out) | with_reducible first | refine Kd.C_alloc ?_ _ | refine Kd.C_drewN ?_ _ | refine Kd.C_drew ?_)); (case aB => exact qa84); (case aF => exact qa206); (case aO => exact (by (with_reducible repeat (first | apply Kd.R_alloc | apply Kd.R_drewN | apply Kd.R_drew)); exact HO109.out)); (case aS => exact qa80); (case aL => have := LMc15.out; omega); intro v112 w23 ho hb hg hat; rw [← Ny111.out] at ho; have n0_ := qO (Kd.S_after (ok := (fun _ => True)) qa101 hg hat); have n1_ := qO (blk_grown (g := gb101) (o := .cells #[.slice (some ad110) l0_0.length c0_0, .int .i64 a0_1] 28 (0, 0)) qa4 hg (Kd.R_ne HO109.out BK101.out qa69)); have n2_ := qO (blk_grown (g := gb102) (o := .cells #[.slice none 0 0, .int .i64 0] 28 (0, 0)) qa26 hg (Kd.R_ne HO109.out BK102.out qa69)); have n3_ := qO (blk_grown (g := gb106) (o := .cells #[u107000, .int .i64 a0_1] 28 (0, 0)) qa31 hg (Kd.R_ne HO109.out BK106.out qa69)); have n4_ := qO (hb); have n5_ := qO (ho); clear HO_107000 BK101 BK102 BK106 HB HO109; have HO_107000 := n0_; have BK101 := n1_; have BK102 := n2_; have BK106 := n3_; have HB := n4_; have HO113 := n5_; clear n0_ n1_ n2_ n3_ n4_ n5_ ho hb hg hat; obtain ⟨Ao25, co25, eo25⟩ := Kd.R_slice HO113.out; (first | subst eo25 | (injection eo25 with f1_ f2_ f3_; have f4_ := f1_.symm; have f5_ := f3_.symm; clear f1_ f2_ f3_; subst f4_; subst f5_)); refine hK.out _ _ ⟨qc0 BK106.out, qc1 BK106.out, qc0 BK101.out, qc1 BK101.out, ((HB.out.cell (qL w _ hw110_0)).trans hw110_0)⟩ (fun hHeld => ?_); clear hK K; refine norm_ (a' := ?_) ?_ ?_; rotate_left
       ·exact qa20
       refine one_ (i := 9) (N := some 25) spec_l06Own.y10 rfl rfl (one_of HT_.out qa7) qa69 (fun K hK => ?_); refine value_ (w1 := ?_) (v := ?_) (by rfl) rfl ?_ ?_; rotate_left 2
       ·go_simp
        constructor
        ·rfl
        ·rfl
       refine hK.out _ _ ⟨(blk_cell (qkA BK106.out _) 0).trans rfl, (blk_cell (qkA BK106.out _) 1).trans rfl, (blk_cell (qkA BK101.out _) 0).trans rfl, (blk_cell (qkA BK101.out _) 1).trans rfl, (World.cell?_alloc_lt _ _ _ (qL _ _ (((HB.out.cell (qL w _ hw110_0)).trans hw110_0)))).trans (((HB.out.cell (qL w _ hw110_0)).trans hw110_0))⟩ (fun hHeld => ?_); clear hK K; refine norm_ (a' := ?_) ?_ ?_; rotate_left
       ·exact qa20
       refine one_ (i := 10) (N := some 26) spec_l06Own.y11 rfl rfl (one_of HT_.out qa7) qa69 (fun K hK => ?_); refine Kd.S_append_step (Kd.slice 43 k43) (w0 := w) w.heap.size (by rfl) (.tmp 17) (.tmp 25) 26 41 (.slice none 0 0) 24 rfl Try.underlying26 info41 rfl qa69 qa34 u107000 x107000_1 y111 [.slice Ao25 y111.length co25] (fun _ => True) (fun k_ => some k_ = (.slice Ao25 y111.length co25 : Value).ownBlock) rfl rfl ?aP (fun k_ hk_ => ((Kd.R_mono (ok' := fun k_ => ((fun _ => True)) k_ ∧ some k_ ≠ (u107000 : Value).ownBlock) (Kd.R_apart' (HO113.out) (Kd.S_typed HO_107000.out) qa69) (fun k_ hk => ⟨trivial, hk.2⟩))).1 k_ hk_.symm) ?aF ?aO ?aB ?aS ?aL ?_; (case aP => exact Kd.M_row (Kd.R_mono (Kd.R_tight rfl (Kd.R_mono (ok' := fun k_ => ((fun _ => True)) k_ ∧ some k_ ≠ (u107000 : Value).ownBlock) (Kd.R_apart' (HO113.out) (Kd.S_typed HO_107000.out) (by decide)) (fun k_ hk => ⟨trivial, hk.2⟩))) (fun _ h_ => h_))); (case aB => exact qa84); (case aF => exact qa206); (case aO => exact qa151); (case aS => exact qa80); (case aL => have := LMc16.out; omega); intro v115 w24 ho hb hg hat; rw [← Ny114.out] at ho; have n0_ := qO (blk_grown (g := gb101) (o := .cells #[.slice (some ad110) l0_0.length c0_0, .int .i64 a0_1] 28 (0, 0)) qa4 hg (Kd.S_ne HO_107000.out BK101.out qa69)); have n1_ := qO (blk_grown (g := gb102) (o := .cells #[.slice none 0 0, .int .i64 0] 28 (0, 0)) qa26 hg (Kd.S_ne HO_107000.out BK102.out qa69)); have n2_ := qO (blk_grown (g := gb106) (o := .cells #[u107000, .int .i64 a0_1] 28 (0, 0)) qa31 hg (Kd.S_ne HO_107000.out BK106.out qa69)); have n3_ := qO (hb); have n4_ := qO (ho); clear BK101 BK102 BK106 HB HO_107000 HO113; have BK101 := n0_; have BK102 := n1_; have BK106 := n2_; have HB := n3_; have HO116 := n4_; clear n0_ n1_ n2_ n3_ n4_ ho hb hg hat; obtain ⟨Ao26, co26, eo26⟩ := Kd.S_slice HO116.out; (first | subst eo26 | (injection eo26 with f1_ f2_ f3_; have f4_ := f1_.symm; have f5_ := f3_.symm; clear f1_ f2_ f3_; subst f4_; subst f5_)); refine hK.out _ _ ⟨qc0 BK106.out, qc1 BK106.out, qc0 BK101.out, qc1 BK101.out, ((HB.out.cell (qL w _ hw110_0)).trans hw110_0)⟩ (fun hHeld => ?_); clear hK K; refine norm_ (a' := ?_) ?_ ?_; rotate_left
       ·exact qa20
       refine qPu 11 27 spec_l06Own.y12 rfl rfl (any_of HT_.out qa7) qa10 qa3 ?_; refine last_ (i := 12) (N := none) spec_l06Own.y13 rfl rfl (one_of HT_.out qa7) qa69 (fun K hK => ?_); have hs27 := qc0 BK106.out; have hfs27 := blk_frozen BK106.out 0; have hns27_0 := NB101_106.out; have hns27_1 := NB102_106.out; have hms27_0 := NB106_101.out; have hms27_1 := NB106_102.out; refine skip_ (w1 := ?_) (by rfl) rfl ?_ ?_; rotate_left
       ·go_simp
        rfl
       refine hK.out _ _ ?_; clear hK K; refine done_ (done_of HT_.out qa7) ?_
       try go_wp2
       go_roundg k1
       case measure => have := HK1.out; omega
       case rel => exact ⟨(wrap64 (x4_1 + 1)), (y114), (.slice Ao26 y114.length co26), qa18, H', ⟨qa164⟩, ⟨by (with_reducible repeat (first | apply Kd.S_alloc | apply Kd.S_drewN | apply Kd.S_drew)); exact Kd.S_mono (Kd.S_far (p := ⟨gb106, 0, none⟩) (Kd.S_types HO116.out BK106.out (by decide)) (fun _ hk => hk.2) (.slice Ao26 y114.length co26)) (fun _ hk => trivial)⟩, ⟨qa123⟩, ⟨qa124⟩, ⟨qa110⟩, ⟨qa32⟩⟩
      ·rw [if_neg c16] at H
       exact absurd H qa120
     ·rw [if_neg c15] at H
      exact absurd H qa120
    ·rw [if_neg c14] at H
     exact absurd H qa120
   ·rw [if_neg c13] at H
    have c13b0 : decide (x4_1 < (l0_0.length : Int)) = false := decide_eq_false c13; clear c13; simp only [Option.some.injEq, Prod.mk.injEq] at H; obtain ⟨rfl, rfl⟩ := H; have hnb28 := NB101_102.out; have hnc28 := NB102_101.out; have hnb29 := NB101_106.out; have hnc29 := NB106_101.out; obtain ⟨hcz30_0, hcz30_1, hfz30_0, hfz30_1⟩ := qb2 BK101.out; have hnb31 := NB106_102.out; have hnc31 := NB102_106.out; obtain ⟨hcz32_0, hcz32_1, hfz32_0, hfz32_1⟩ := qb2 BK106.out; obtain ⟨Ao33, co33, eo33⟩ := Kd.S_slice HO_107000.out; subst eo33; obtain ⟨hcz34_0, hcz34_1, hfz34_0, hfz34_1⟩ := qb2 BK102.out; go_wp2; refine bodyPost_ret (results_cell_row rfl _ _ gb102 28 #[.slice Ao33 x107000_1.length co33, .int .i64 a0_1] (0, 0) _ rfl (by (with_reducible repeat (first | refine qkN ?_ _ | refine qkD ?_ | refine qkA ?_ _)); refine blk_put (cs := #[.slice Ao33 x107000_1.length co33, .int .i64 0]) ?_ 1 _ rfl; (with_reducible repeat (first | refine qkN ?_ _ | refine qkD ?_ | refine qkA ?_ _)); refine blk_put (cs := #[.slice none 0 0, .int .i64 0]) ?_ 0 _ rfl; (with_reducible repeat (first | refine qkN ?_ _ | refine qkD ?_ | refine qkA ?_ _)); exact BK102.out) Try.underlying28 rfl qa7) rfl ?_
    exact ⟨_, qa9, by (with_reducible repeat (first | apply Kd.S_alloc | apply Kd.S_drewN | apply Kd.S_drew)); exact Kd.S_mono (Kd.S_far (p := ⟨gb102, 1, none⟩) (Kd.S_far (p := ⟨gb102, 0, none⟩) (Kd.S_types HO_107000.out BK102.out (by decide)) (fun _ hk => hk.2) (.slice Ao33 x107000_1.length co33)) (fun _ hk => hk.2) (.int .i64 a0_1)) (fun _ hk => trivial), qa32⟩


def spec_l01In.f (a0 : Int) (a1 : Int) (a2 : Int) : Option (Bool) := if a1 ≤ a0 then (some (decide (a0 ≤ a2))) else (some false)
set_option maxHeartbeats 8000000 in
set_option maxRecDepth 100000 in
theorem spec_l01In.calls (a0 : Int) (a1 : Int) (a2 : Int) (r : Bool) (w : World) (h : spec_l01In.f a0 a1 a2 = some r) :
  Calls Try.prog 96 #[.int .i64 a0, .int .i64 a1, .int .i64 a2] w fun e w' => e = .returned (.bool r) ∧ Drawn0 w w' := by
 have H : (if a1 ≤ a0 then (some (decide (a0 ≤ a2))) else (some false)) = some r := h; clear h
 by_cases c4 : a1 ≤ a0
 ·rw [if_pos c4] at H
  have c4b0 : decide (a1 ≤ a0) = true := decide_eq_true c4; clear c4; obtain rfl := Option.some.inj H
  go_enter Try.func96, Try.ntmps96
  go_wp2
  go_ret
  exact ⟨qa18, qa68⟩
 ·rw [if_neg c4] at H
  have c4b0 : decide (a1 ≤ a0) = false := decide_eq_false c4; clear c4; obtain rfl := Option.some.inj H
  go_enter Try.func96, Try.ntmps96
  go_wp2
  go_ret
  exact ⟨qa18, qa68⟩


def spec_IsInt.f (a0 : Int) : Option (Bool) := (spec_l01In.f a0 (-2147483648) 2147483647).bind fun t101 => (some t101)
set_option maxHeartbeats 8000000 in
set_option maxRecDepth 100000 in
theorem spec_IsInt.calls (a0 : Int) (r : Bool) (w : World) (h : spec_IsInt.f a0 = some r) :
  Calls Try.prog 131 #[.int .i64 a0] w fun e w' => e = .returned (.bool r) ∧ Drawn0 w w' := by
 have H : ((spec_l01In.f a0 (-2147483648) 2147483647).bind fun t101 => (some t101)) = some r := h; clear h; replace H := Option.bind_eq_some_iff.mp H; obtain ⟨t101, A20, H⟩ := H; replace H : (some t101) = some r := H; have A2 := qO A20; clear A20; obtain rfl := Option.some.inj H
 go_enter Try.func131, Try.ntmps131
 go_wp2_with (first | ((with_reducible refine gate_callee (f := 96) rfl ?_); refine goesL_ (some 4) rfl rfl Try.func96 qa7 rfl #[.int .i64 a0, .int .i64 (-2147483648), .int .i64 2147483647] rfl qa0 ?_; (with_reducible refine (spec_l01In.calls a0 (-2147483648) 2147483647 t101 _ A2.out).mono ?_); rintro e w' ⟨rfl, ⟨nd, rfl⟩⟩; refine ⟨_, rfl, ?_⟩))
 go_ret
 exact ⟨qa18, qa68⟩


def spec_l06Value.f (a0 : Int) (a1 : Int) : Option (Bool) := if (Int.tmod a0 2) = 1 then ((spec_l01In.f a1 0 8).bind fun t101 => (some t101)) else ((spec_IsInt.f a1).bind fun t102 => (some t102))
set_option maxHeartbeats 8000000 in
set_option maxRecDepth 100000 in
theorem spec_l06Value.calls (a0 : Int) (a1 : Int) (r : Bool) (w : World) (h : spec_l06Value.f a0 a1 = some r) :
  Calls Try.prog 113 #[.int .i64 a0, .int .i64 a1] w fun e w' => e = .returned (.bool r) ∧ Drawn0 w w' := by
 have H : (if (Int.tmod a0 2) = 1 then ((spec_l01In.f a1 0 8).bind fun t101 => (some t101)) else ((spec_IsInt.f a1).bind fun t102 => (some t102))) = some r := h; clear h
 by_cases c3 : (Int.tmod a0 2) = 1
 ·rw [if_pos c3] at H
  have c3b0 : ((Int.tmod a0 2) == 1) = true := beq_iff_eq.mpr c3; have c3b1 : ((Int.tmod a0 2) != 1) = false := bne_eq_false_iff_eq.mpr c3; clear c3; replace H := Option.bind_eq_some_iff.mp H; obtain ⟨t101, A40, H⟩ := H; replace H : (some t101) = some r := H; have A4 := qO A40; clear A40; obtain rfl := Option.some.inj H
  go_enter Try.func113, Try.ntmps113
  go_wp2_with (first | ((with_reducible refine gate_callee (f := 96) rfl ?_); refine goesL_ (some 9) rfl rfl Try.func96 qa7 rfl #[.int .i64 a1, .int .i64 0, .int .i64 8] rfl qa0 ?_; (with_reducible refine (spec_l01In.calls a1 0 8 t101 _ A4.out).mono ?_); rintro e w' ⟨rfl, ⟨nd, rfl⟩⟩; refine ⟨_, rfl, ?_⟩))
  go_ret
  exact ⟨qa18, qa68⟩
 ·rw [if_neg c3] at H
  have c3b0 : ((Int.tmod a0 2) == 1) = false := beq_eq_false_iff_ne.mpr c3; have c3b1 : ((Int.tmod a0 2) != 1) = true := bne_iff_ne.mpr c3; replace H := Option.bind_eq_some_iff.mp H; obtain ⟨t102, A50, H⟩ := H; replace H : (some t102) = some r := H; have A5 := qO A50; clear A50; obtain rfl := Option.some.inj H
  go_enter Try.func113, Try.ntmps113
  go_wp2_with (first | ((with_reducible refine gate_callee (f := 131) rfl ?_); refine goesL_ (some 11) rfl rfl Try.func131 qa7 rfl #[.int .i64 a1] rfl qa0 ?_; (with_reducible refine (spec_IsInt.calls a1 t102 _ A5.out).mono ?_); rintro e w' ⟨rfl, ⟨nd, rfl⟩⟩; refine ⟨_, rfl, ?_⟩))
  go_ret
  exact ⟨qa18, qa68⟩


mutual
def spec_StoreOK.j0 : Nat → Bool → List (List (S43)) → Int → Option (Bool)
 | 0, _, _, _ => none
 | k + 1, x15, x102000, x102001 => if x15 = true then (some false) else (spec_StoreOK.l0 k 0 x102000 x102001)
def spec_StoreOK.l0 : Nat → Int → List (List (S43)) → Int → Option (Bool)
 | 0, _, _, _ => none
 | k + 1, x3, x102000, x102001 => if x3 < 16 then (spec_StoreOK.l1 k x3 0 x102000 x102001) else (some true)
def spec_StoreOK.l1 : Nat → Int → Int → List (List (S43)) → Int → Option (Bool)
 | 0, _, _, _, _ => none
 | k + 1, x3, x4, x102000, x102001 => if 0 ≤ x3 then (if x3 < (x102000.length : Int) then (if x4 < ((rd_L4 x102000 x3).length : Int) then (if 0 ≤ x4 then ((spec_l01In.f ((rd_T43 (rd_L4 x102000 x3) x4).f0) 1 x102001).bind fun t107 => (if t107 = true then ((spec_l06Value.f x3 ((rd_T43 (rd_L4 x102000 x3) x4).f1)).bind fun t108 => (if t108 = true then (if x4 > 0 then (if 0 ≤ (wrap64 (x4 - 1)) then (if (wrap64 (x4 - 1)) < ((rd_L4 x102000 x3).length : Int) then (if ((rd_T43 (rd_L4 x102000 x3) (wrap64 (x4 - 1))).f0) ≥ ((rd_T43 (rd_L4 x102000 x3) x4).f0) then (some false) else (spec_StoreOK.l1 k x3 (wrap64 (x4 + 1)) x102000 x102001)) else (none)) else (none)) else (spec_StoreOK.l1 k x3 (wrap64 (x4 + 1)) x102000 x102001)) else (some false))) else (some false))) else (none)) else (spec_StoreOK.l0 k (wrap64 (x3 + 1)) x102000 x102001)) else (none)) else (none)
end
def spec_StoreOK.f (k : Nat) (l0_0 : List (List (S43))) (a0_1 : Int) : Option (Bool) := if (l0_0.length : Int) = 16 then ((spec_l01In.f a0_1 0 100000).bind fun t102 => (spec_StoreOK.j0 k (!t102) l0_0 a0_1)) else (spec_StoreOK.j0 k true l0_0 a0_1)
def spec_StoreOK.T10 : Bool × List (List Nat × List Nat) := (true, [([], []), ([0], [0]), ([], []), ([2], [2]), ([1, 3], [1, 3]), ([4], [4]), ([5, 4], [5]), ([6], [6]), ([6], [6]), ([8, 6], [6, 8]), ([7, 9, 6, 6], [6, 7, 9]), ([10, 6], [6, 10]), ([6, 11], [6, 11]), ([12, 10], [12]), ([13], [13]), ([14, 13], [13, 14]), ([15, 13, 13], [13, 15]), ([16], [16]), ([17, 16], [16, 17]), ([16], [16]), ([18, 19, 16], [16, 18, 19]), ([20, 16], [16, 20]), ([16], [16]), ([22, 16], [16, 22]), ([21, 23, 16], [16, 21, 23]), ([24, 16], [16, 24]), ([25, 16], [16, 25]), ([16], [16]), ([27, 16], [16, 27]), ([26, 28, 16], [16, 26, 28]), ([16, 29, 13], [13, 16, 29]), ([13, 30], [13, 30])])
def spec_StoreOK.B10 : List Nat := [0, 1, 0, 4, 15, 31, 63, 127, 127, 383, 1023, 2047, 4095, 8191, 16383, 32767, 65535, 131071, 262143, 131071, 1048575, 2097151, 131071, 4325375, 16777215, 33554431, 67108863, 131071, 134348799, 536870911, 1073741823, 2147483647]
theorem spec_StoreOK.tab10 : rtab .any (opsOf Try.f70 10) = spec_StoreOK.T10 := by kernel_rfl
theorem spec_StoreOK.bits10 : waitsOk spec_StoreOK.T10.2 spec_StoreOK.B10 = true := by kernel_rfl
def spec_StoreOK.y0 := #[qf,qf,qf,qf,qf,qf,qf,qf,qf,qf,qf,qf,qf,qf,qf,qf,qf,qf,qf,qf,qf,qf,qf,qf,qf,qf,qf,qf,qf,qf,qf,qf]
def spec_StoreOK.y1 := #[qt,qf,qf,qf,qf,qf,qf,qf,qf,qf,qf,qf,qf,qf,qf,qf,qf,qf,qf,qf,qf,qf,qf,qf,qf,qf,qf,qf,qf,qf,qf,qf]
def spec_StoreOK.y2 := #[qt,qf,qt,qf,qf,qf,qf,qf,qf,qf,qf,qf,qf,qf,qf,qf,qf,qf,qf,qf,qf,qf,qf,qf,qf,qf,qf,qf,qf,qf,qf,qf]
def spec_StoreOK.y3 := #[qt,qt,qt,qf,qf,qf,qf,qf,qf,qf,qf,qf,qf,qf,qf,qf,qf,qf,qf,qf,qf,qf,qf,qf,qf,qf,qf,qf,qf,qf,qf,qf]
def spec_StoreOK.y4 := #[qt,qt,qt,qt,qf,qf,qf,qf,qf,qf,qf,qf,qf,qf,qf,qf,qf,qf,qf,qf,qf,qf,qf,qf,qf,qf,qf,qf,qf,qf,qf,qf]
def spec_StoreOK.y5 := #[qt,qt,qt,qt,qt,qf,qf,qf,qf,qf,qf,qf,qf,qf,qf,qf,qf,qf,qf,qf,qf,qf,qf,qf,qf,qf,qf,qf,qf,qf,qf,qf]
def spec_StoreOK.y6 := #[qt,qt,qt,qt,qt,qt,qf,qf,qf,qf,qf,qf,qf,qf,qf,qf,qf,qf,qf,qf,qf,qf,qf,qf,qf,qf,qf,qf,qf,qf,qf,qf]
def spec_StoreOK.y7 := #[qt,qt,qt,qt,qt,qt,qt,qf,qf,qf,qf,qf,qf,qf,qf,qf,qf,qf,qf,qf,qf,qf,qf,qf,qf,qf,qf,qf,qf,qf,qf,qf]
def spec_StoreOK.y8 := #[qt,qt,qt,qt,qt,qt,qt,qt,qf,qf,qf,qf,qf,qf,qf,qf,qf,qf,qf,qf,qf,qf,qf,qf,qf,qf,qf,qf,qf,qf,qf,qf]
def spec_StoreOK.y9 := #[qt,qt,qt,qt,qt,qt,qt,qt,qt,qf,qf,qf,qf,qf,qf,qf,qf,qf,qf,qf,qf,qf,qf,qf,qf,qf,qf,qf,qf,qf,qf,qf]
def spec_StoreOK.y10 := #[qt,qt,qt,qt,qt,qt,qt,qt,qt,qt,qf,qf,qf,qf,qf,qf,qf,qf,qf,qf,qf,qf,qf,qf,qf,qf,qf,qf,qf,qf,qf,qf]
def spec_StoreOK.y11 := #[qt,qt,qt,qt,qt,qt,qt,qt,qt,qt,qt,qf,qf,qf,qf,qf,qf,qf,qf,qf,qf,qf,qf,qf,qf,qf,qf,qf,qf,qf,qf,qf]
def spec_StoreOK.y12 := #[qt,qt,qt,qt,qt,qt,qt,qt,qt,qt,qt,qt,qf,qf,qf,qf,qf,qf,qf,qf,qf,qf,qf,qf,qf,qf,qf,qf,qf,qf,qf,qf]
def spec_StoreOK.y13 := #[qt,qt,qt,qt,qt,qt,qt,qt,qt,qt,qt,qt,qt,qf,qf,qf,qf,qf,qf,qf,qf,qf,qf,qf,qf,qf,qf,qf,qf,qf,qf,qf]
def spec_StoreOK.y14 := #[qt,qt,qt,qt,qt,qt,qt,qt,qt,qt,qt,qt,qt,qt,qf,qf,qf,qf,qf,qf,qf,qf,qf,qf,qf,qf,qf,qf,qf,qf,qf,qf]
def spec_StoreOK.y15 := #[qt,qt,qt,qt,qt,qt,qt,qt,qt,qt,qt,qt,qt,qt,qt,qf,qf,qf,qf,qf,qf,qf,qf,qf,qf,qf,qf,qf,qf,qf,qf,qf]
def spec_StoreOK.y16 := #[qt,qt,qt,qt,qt,qt,qt,qt,qt,qt,qt,qt,qt,qt,qt,qt,qf,qf,qf,qf,qf,qf,qf,qf,qf,qf,qf,qf,qf,qf,qf,qf]
def spec_StoreOK.y17 := #[qt,qt,qt,qt,qt,qt,qt,qt,qt,qt,qt,qt,qt,qt,qt,qt,qt,qf,qf,qf,qf,qf,qf,qf,qf,qf,qf,qf,qf,qf,qf,qf]
def spec_StoreOK.y18 := #[qt,qt,qt,qt,qt,qt,qt,qt,qt,qt,qt,qt,qt,qt,qt,qt,qt,qt,qf,qf,qf,qf,qf,qf,qf,qf,qf,qf,qf,qf,qf,qf]
def spec_StoreOK.y19 := #[qt,qt,qt,qt,qt,qt,qt,qt,qt,qt,qt,qt,qt,qt,qt,qt,qt,qt,qf,qt,qf,qf,qf,qf,qf,qf,qf,qf,qf,qf,qf,qf]
def spec_StoreOK.y20 := #[qt,qt,qt,qt,qt,qt,qt,qt,qt,qt,qt,qt,qt,qt,qt,qt,qt,qt,qf,qt,qf,qf,qt,qf,qf,qf,qf,qf,qf,qf,qf,qf]
def spec_StoreOK.y21 := #[qt,qt,qt,qt,qt,qt,qt,qt,qt,qt,qt,qt,qt,qt,qt,qt,qt,qt,qf,qt,qf,qf,qt,qt,qf,qf,qf,qf,qf,qf,qf,qf]
def spec_StoreOK.y22 := #[qt,qt,qt,qt,qt,qt,qt,qt,qt,qt,qt,qt,qt,qt,qt,qt,qt,qt,qf,qt,qf,qf,qt,qt,qf,qf,qf,qt,qf,qf,qf,qf]
def spec_StoreOK.y23 := #[qt,qt,qt,qt,qt,qt,qt,qt,qt,qt,qt,qt,qt,qt,qt,qt,qt,qt,qt,qt,qf,qf,qt,qt,qf,qf,qf,qt,qf,qf,qf,qf]
def spec_StoreOK.y24 := #[qt,qt,qt,qt,qt,qt,qt,qt,qt,qt,qt,qt,qt,qt,qt,qt,qt,qt,qt,qt,qt,qf,qt,qt,qf,qf,qf,qt,qf,qf,qf,qf]
def spec_StoreOK.y25 := #[qt,qt,qt,qt,qt,qt,qt,qt,qt,qt,qt,qt,qt,qt,qt,qt,qt,qt,qt,qt,qt,qt,qt,qt,qf,qf,qf,qt,qf,qf,qf,qf]
def spec_StoreOK.y26 := #[qt,qt,qt,qt,qt,qt,qt,qt,qt,qt,qt,qt,qt,qt,qt,qt,qt,qt,qt,qt,qt,qt,qt,qt,qt,qf,qf,qt,qf,qf,qf,qf]
def spec_StoreOK.y27 := #[qt,qt,qt,qt,qt,qt,qt,qt,qt,qt,qt,qt,qt,qt,qt,qt,qt,qt,qt,qt,qt,qt,qt,qt,qt,qt,qf,qt,qf,qf,qf,qf]
def spec_StoreOK.y28 := #[qt,qt,qt,qt,qt,qt,qt,qt,qt,qt,qt,qt,qt,qt,qt,qt,qt,qt,qt,qt,qt,qt,qt,qt,qt,qt,qt,qt,qf,qf,qf,qf]
def spec_StoreOK.y29 := #[qt,qt,qt,qt,qt,qt,qt,qt,qt,qt,qt,qt,qt,qt,qt,qt,qt,qt,qt,qt,qt,qt,qt,qt,qt,qt,qt,qt,qt,qf,qf,qf]
def spec_StoreOK.y30 := #[qt,qt,qt,qt,qt,qt,qt,qt,qt,qt,qt,qt,qt,qt,qt,qt,qt,qt,qt,qt,qt,qt,qt,qt,qt,qt,qt,qt,qt,qt,qf,qf]
def spec_StoreOK.y31 := #[qt,qt,qt,qt,qt,qt,qt,qt,qt,qt,qt,qt,qt,qt,qt,qt,qt,qt,qt,qt,qt,qt,qt,qt,qt,qt,qt,qt,qt,qt,qt,qf]
def spec_StoreOK.y32 := #[qt,qt,qt,qt,qt,qt,qt,qt,qt,qt,qt,qt,qt,qt,qt,qt,qt,qt,qt,qt,qt,qt,qt,qt,qt,qt,qt,qt,qt,qt,qt,qt]
def spec_StoreOK.y33 := #[qt,qt,qt,qt,qt,qt,qt,qt,qt,qt,qt,qt,qt,qt,qt,qt,qt,qt,qt,qf,qf,qf,qf,qf,qf,qf,qf,qf,qf,qf,qf,qf]
def spec_StoreOK.y34 := #[qt,qt,qt,qt,qt,qt,qt,qt,qt,qt,qt,qt,qt,qt,qt,qt,qt,qt,qt,qt,qf,qf,qf,qf,qf,qf,qf,qf,qf,qf,qf,qf]
def spec_StoreOK.y35 := #[qt,qt,qt,qt,qt,qt,qt,qt,qt,qt,qt,qt,qt,qt,qt,qt,qt,qt,qt,qt,qt,qf,qf,qf,qf,qf,qf,qf,qf,qf,qf,qf]
def spec_StoreOK.y36 := #[qt,qt,qt,qt,qt,qt,qt,qt,qt,qt,qt,qt,qt,qt,qt,qt,qt,qt,qt,qt,qt,qt,qf,qf,qf,qf,qf,qf,qf,qf,qf,qf]
def spec_StoreOK.y37 := #[qt,qt,qt,qt,qt,qt,qt,qt,qt,qt,qt,qt,qt,qt,qt,qt,qt,qt,qt,qt,qt,qt,qt,qf,qf,qf,qf,qf,qf,qf,qf,qf]
def spec_StoreOK.y38 := #[qt,qt,qt,qt,qt,qt,qt,qt,qt,qt,qt,qt,qt,qt,qt,qt,qt,qt,qt,qt,qt,qt,qt,qt,qf,qf,qf,qf,qf,qf,qf,qf]
def spec_StoreOK.y39 := #[qt,qt,qt,qt,qt,qt,qt,qt,qt,qt,qt,qt,qt,qt,qt,qt,qt,qt,qt,qt,qt,qt,qt,qt,qt,qf,qf,qf,qf,qf,qf,qf]
def spec_StoreOK.y40 := #[qt,qt,qt,qt,qt,qt,qt,qt,qt,qt,qt,qt,qt,qt,qt,qt,qt,qt,qt,qt,qt,qt,qt,qt,qt,qt,qf,qf,qf,qf,qf,qf]
def spec_StoreOK.y41 := #[qt,qt,qt,qt,qt,qt,qt,qt,qt,qt,qt,qt,qt,qt,qt,qt,qt,qt,qt,qt,qt,qt,qt,qt,qt,qt,qt,qf,qf,qf,qf,qf]
set_option maxHeartbeats 8000000 in
set_option maxRecDepth 100000 in
theorem spec_StoreOK.calls (k : Nat) (A0_0 : Option Addr) (c0_0 : Nat) (l0_0 : List (List (S43))) (a0_1 : Int) (r : Bool) (w : World) (hr0_0 : Kd.C (Kd.slice 43 k43) w A0_0 l0_0.length l0_0) (hc0_0 : l0_0.length ≤ c0_0) (h : spec_StoreOK.f k l0_0 a0_1 = some r) :
  Calls Try.prog 70 #[.agg #[.slice A0_0 l0_0.length c0_0, .int .i64 a0_1]] w fun e w' => e = .returned (.bool r) ∧ Below w.heap.size w w' := by
 have hu28 := Try.underlying28; have hu43 := Try.underlying43; have HR0_0 := qO hr0_0; have HC0_0 := qO hc0_0; clear hr0_0 hc0_0; have HB := qO (Below.refl w.heap.size w); have H : (if (l0_0.length : Int) = 16 then ((spec_l01In.f a0_1 0 100000).bind fun t102 => (spec_StoreOK.j0 k (!t102) l0_0 a0_1)) else (spec_StoreOK.j0 k true l0_0 a0_1)) = some r := h; clear h; have HC2 := qO H; clear H
 go_enter Try.func70, Try.ntmps70
 go_upto_region 1 with (first | ((with_reducible refine gate_dst (N := 1) rfl ?_); refine qX 1 #[.slice A0_0 l0_0.length c0_0, .int .i64 a0_1] 28 ?_; intro gb101 hg w3 hbox hb; have BK101 := qO (hbox); have GW101 := qO ((qa38 : w.heap.size ≤ gb101)); have GE101 := qO ((qa38 : w.heap.size ≤ gb101)); replace HB := qO (below_step qa67 hb); clear hb hbox hg))
 (try simp only [Act.put, qzA, qzB, qzC])
 go_cut [15] (fun v15 wc => ∃ (kq : Nat) (x15_1 : Bool), v15 = .bool x15_1 ∧ Aside0 (spec_StoreOK.j0 kq x15_1 l0_0 a0_1 = some r) ∧ Aside0 (kq ≤ k) ∧ Aside0 (wc.heap[gb101]? = some (.cells #[(.slice A0_0 l0_0.length c0_0), .int .i64 a0_1] 28 (0, 0))) ∧ Aside0 (Below w.heap.size w wc))
 case first =>
  have H := HC2.out; clear HC2
  by_cases c4 : (l0_0.length : Int) = 16
  ·rw [if_pos c4] at H
   have c4b0 : ((l0_0.length : Int) == 16) = true := beq_iff_eq.mpr c4; have c4b1 : ((l0_0.length : Int) != 16) = false := bne_eq_false_iff_eq.mpr c4; clear c4; (first | rw [c4b0] | (simp only [i64_w, i32_w]; rw [c4b0]) | skip); replace H := Option.bind_eq_some_iff.mp H; obtain ⟨t102, A50, H⟩ := H; replace H : (spec_StoreOK.j0 k (!t102) l0_0 a0_1) = some r := H; have A5 := qO A50; clear A50; have H' := qO H; clear H; obtain ⟨hcz6_0, hcz6_1, hfz6_0, hfz6_1⟩ := qb2 BK101.out
   go_wp2_with (first | (go_at_call 96; (with_reducible refine (spec_l01In.calls a0_1 0 100000 t102 _ A5.out).mono ?_); rintro e w' ⟨rfl, ⟨nd, rfl⟩⟩))
   go_meet
   case rel => exact ⟨_, (!t102), qa18, H', ⟨qa191⟩, ⟨qa4⟩, ⟨qa5⟩⟩
  ·rw [if_neg c4] at H
   have c4b0 : ((l0_0.length : Int) == 16) = false := beq_eq_false_iff_ne.mpr c4; have c4b1 : ((l0_0.length : Int) != 16) = true := bne_iff_ne.mpr c4; (first | rw [c4b0] | (simp only [i64_w, i32_w]; rw [c4b0]) | skip); have H' := qO H; clear H; obtain ⟨hcz7_0, hcz7_1, hfz7_0, hfz7_1⟩ := qb2 BK101.out; go_wp2
   go_meet
   case rel => exact ⟨_, (true), qa18, H', ⟨qa191⟩, ⟨qa4⟩, ⟨qa5⟩⟩
 case rest =>
  clear HC2
  try clear p2
  try clear c4
  try clear c4b0
  try clear c4b1
  try clear c7
  try clear hcz6_0
  try clear hcz6_1
  try clear hcz7_0
  try clear hcz7_1
  try clear hfz6_0
  try clear hfz6_1
  try clear hfz7_0
  try clear hfz7_1
  obtain ⟨kq, x15_1, rfl, HA, HJ1, BK101, HB⟩ := hcut
  cases kq with
  | zero => exact absurd HA.out (by simp [spec_StoreOK.j0])
  | succ kj1 =>
   have H := HA.out; clear HA; simp only [spec_StoreOK.j0] at H
   by_cases c8 : x15_1 = true
   ·subst c8
    have H1 : (some false) = some r := by rw [if_pos rfl] at H; exact H
    clear H; have H := H1; clear H1; obtain rfl := Option.some.inj H; go_wp2
    go_ret
    exact ⟨qa9, qa5⟩
   ·replace c8 := Bool.eq_false_iff.mpr c8
    subst c8; have H1 : (spec_StoreOK.l0 kj1 0 l0_0 a0_1) = some r := by rw [if_neg (show ¬ (false = true) by decide)] at H; exact H
    clear H; have H := H1; clear H1; have H' := qO H; clear H; go_wp2
    go_loopg [3] kj1 (fun kq v3 w' => ∃ (x3_2 : Int), v3 = .int .i64 x3_2 ∧ Aside0 (spec_StoreOK.l0 kq x3_2 l0_0 a0_1 = some r) ∧ Aside0 (kq ≤ kj1) ∧ Aside0 (w'.heap[gb101]? = some (.cells #[(.slice A0_0 l0_0.length c0_0), .int .i64 a0_1] 28 (0, 0))) ∧ Aside0 (Below w.heap.size w w'))
    case atStart => exact ⟨(0), qa18, H', ⟨Nat.le_refl _⟩, ⟨qa4⟩, ⟨qa5⟩⟩
    case round =>
     clear H'
     try clear p2
     try clear c4
     try clear c4b0
     try clear c4b1
     try clear c7
     try clear c8
     try clear hcz6_0
     try clear hcz6_1
     try clear hcz7_0
     try clear hcz7_1
     try clear hfz6_0
     try clear hfz6_1
     try clear hfz7_0
     try clear hfz7_1
     try clear p2
     obtain ⟨x3_2, rfl, HA, HK2, BK101, HB⟩ := hrel
     cases gk with
     | zero => exact absurd HA.out (by simp [spec_StoreOK.l0])
     | succ k2 =>
      have H := HA.out; clear HA; simp only [spec_StoreOK.l0] at H
      by_cases c9 : x3_2 < 16
      ·rw [if_pos c9] at H
       have c9b0 : decide (x3_2 < 16) = true := decide_eq_true c9; clear c9; have H' := qO H; clear H; go_wp2
       go_loopg [4] k2 (fun kq v4 w' => ∃ (x4_3 : Int), v4 = .int .i64 x4_3 ∧ Aside0 (spec_StoreOK.l1 kq x3_2 x4_3 l0_0 a0_1 = some r) ∧ Aside0 (kq ≤ k2) ∧ Aside0 (w'.heap[gb101]? = some (.cells #[(.slice A0_0 l0_0.length c0_0), .int .i64 a0_1] 28 (0, 0))) ∧ Aside0 (Below w.heap.size w w'))
       case atStart => exact ⟨(0), qa18, H', ⟨Nat.le_refl _⟩, ⟨qa4⟩, ⟨qa5⟩⟩
       case round =>
        clear H'
        try clear p2
        try clear c4
        try clear c4b0
        try clear c4b1
        try clear c7
        try clear c8
        try clear c9
        try clear c9b0
        try clear hcz6_0
        try clear hcz6_1
        try clear hcz7_0
        try clear hcz7_1
        try clear hfz6_0
        try clear hfz6_1
        try clear hfz7_0
        try clear hfz7_1
        try clear p2
        obtain ⟨x4_3, rfl, HA, HK3, BK101, HB⟩ := hrel
        cases gk with
        | zero => exact absurd HA.out (by simp [spec_StoreOK.l1])
        | succ k3 =>
         have H := HA.out; clear HA; simp only [spec_StoreOK.l1] at H
         by_cases c10 : 0 ≤ x3_2
         ·rw [if_pos c10] at H
          have c10b0 : decide (0 ≤ x3_2) = true := decide_eq_true c10; clear c10
          by_cases c11 : x3_2 < (l0_0.length : Int)
          ·rw [if_pos c11] at H
           have c11b0 : decide (x3_2 < (l0_0.length : Int)) = true := decide_eq_true c11; clear c11
           by_cases c12 : x4_3 < ((rd_L4 l0_0 x3_2).length : Int)
           ·rw [if_pos c12] at H
            have c12b0 : decide (x4_3 < ((rd_L4 l0_0 x3_2).length : Int)) = true := decide_eq_true c12; clear c12
            by_cases c13 : 0 ≤ x4_3
            ·rw [if_pos c13] at H
             have c13b0 : decide (0 ≤ x4_3) = true := decide_eq_true c13; clear c13; replace H := Option.bind_eq_some_iff.mp H; obtain ⟨t107, A140, H⟩ := H; replace H : (if t107 = true then ((spec_l06Value.f x3_2 ((rd_T43 (rd_L4 l0_0 x3_2) x4_3).f1)).bind fun t108 => (if t108 = true then (if x4_3 > 0 then (if 0 ≤ (wrap64 (x4_3 - 1)) then (if (wrap64 (x4_3 - 1)) < ((rd_L4 l0_0 x3_2).length : Int) then (if ((rd_T43 (rd_L4 l0_0 x3_2) (wrap64 (x4_3 - 1))).f0) ≥ ((rd_T43 (rd_L4 l0_0 x3_2) x4_3).f0) then (some false) else (spec_StoreOK.l1 k3 x3_2 (wrap64 (x4_3 + 1)) l0_0 a0_1)) else (none)) else (none)) else (spec_StoreOK.l1 k3 x3_2 (wrap64 (x4_3 + 1)) l0_0 a0_1)) else (some false))) else (some false)) = some r := H; have A14 := qO A140; clear A140
             by_cases c15 : t107 = true
             ·subst c15
              have H1 : ((spec_l06Value.f x3_2 ((rd_T43 (rd_L4 l0_0 x3_2) x4_3).f1)).bind fun t108 => (if t108 = true then (if x4_3 > 0 then (if 0 ≤ (wrap64 (x4_3 - 1)) then (if (wrap64 (x4_3 - 1)) < ((rd_L4 l0_0 x3_2).length : Int) then (if ((rd_T43 (rd_L4 l0_0 x3_2) (wrap64 (x4_3 - 1))).f0) ≥ ((rd_T43 (rd_L4 l0_0 x3_2) x4_3).f0) then (some false) else (spec_StoreOK.l1 k3 x3_2 (wrap64 (x4_3 + 1)) l0_0 a0_1)) else (none)) else (none)) else (spec_StoreOK.l1 k3 x3_2 (wrap64 (x4_3 + 1)) l0_0 a0_1)) else (some false))) = some r := by rw [if_pos rfl] at H; exact H
              clear H; have H := H1; clear H1; replace H := Option.bind_eq_some_iff.mp H; obtain ⟨t108, A160, H⟩ := H; replace H : (if t108 = true then (if x4_3 > 0 then (if 0 ≤ (wrap64 (x4_3 - 1)) then (if (wrap64 (x4_3 - 1)) < ((rd_L4 l0_0 x3_2).length : Int) then (if ((rd_T43 (rd_L4 l0_0 x3_2) (wrap64 (x4_3 - 1))).f0) ≥ ((rd_T43 (rd_L4 l0_0 x3_2) x4_3).f0) then (some false) else (spec_StoreOK.l1 k3 x3_2 (wrap64 (x4_3 + 1)) l0_0 a0_1)) else (none)) else (none)) else (spec_StoreOK.l1 k3 x3_2 (wrap64 (x4_3 + 1)) l0_0 a0_1)) else (some false)) = some r := H; have A16 := qO A160; clear A160
              by_cases c17 : t108 = true
              ·subst c17
               have H1 : (if x4_3 > 0 then (if 0 ≤ (wrap64 (x4_3 - 1)) then (if (wrap64 (x4_3 - 1)) < ((rd_L4 l0_0 x3_2).length : Int) then (if ((rd_T43 (rd_L4 l0_0 x3_2) (wrap64 (x4_3 - 1))).f0) ≥ ((rd_T43 (rd_L4 l0_0 x3_2) x4_3).f0) then (some false) else (spec_StoreOK.l1 k3 x3_2 (wrap64 (x4_3 + 1)) l0_0 a0_1)) else (none)) else (none)) else (spec_StoreOK.l1 k3 x3_2 (wrap64 (x4_3 + 1)) l0_0 a0_1)) = some r := by rw [if_pos rfl] at H; exact H
               clear H; have H := H1; clear H1
               by_cases c18 : x4_3 > 0
               ·rw [if_pos c18] at H
                have c18b0 : decide (0 < x4_3) = true := decide_eq_true c18; clear c18; obtain ⟨ji19, hji19⟩ : ∃ j_ : Int, (wrap64 (x4_3 - 1)) = j_ := ⟨_, rfl⟩; replace H : (if 0 ≤ (ji19) then (if (ji19) < ((rd_L4 l0_0 x3_2).length : Int) then (if ((rd_T43 (rd_L4 l0_0 x3_2) (ji19)).f0) ≥ ((rd_T43 (rd_L4 l0_0 x3_2) x4_3).f0) then (some false) else (spec_StoreOK.l1 k3 x3_2 (wrap64 (x4_3 + 1)) l0_0 a0_1)) else (none)) else (none)) = some r := by first | (rw [hji19] at H; exact H) | (simp only [hji19] at H ⊢; exact H)
                (try rw [hji19] at A14); (try rw [hji19] at A16); have hji19w : (IntKind.i64.wrap (x4_3 - 1)) = ji19 := (i64_w _).trans hji19
                by_cases c20 : 0 ≤ (ji19)
                ·rw [if_pos c20] at H
                 have c20b0 : decide (0 ≤ (ji19)) = true := decide_eq_true c20; clear c20
                 by_cases c21 : (ji19) < ((rd_L4 l0_0 x3_2).length : Int)
                 ·rw [if_pos c21] at H
                  have c21b0 : decide ((ji19) < ((rd_L4 l0_0 x3_2).length : Int)) = true := decide_eq_true c21; clear c21
                  by_cases c22 : ((rd_T43 (rd_L4 l0_0 x3_2) (ji19)).f0) ≥ ((rd_T43 (rd_L4 l0_0 x3_2) x4_3).f0)
                  ·rw [if_pos c22] at H
                   have c22b0 : decide (((rd_T43 (rd_L4 l0_0 x3_2) x4_3).f0) ≤ ((rd_T43 (rd_L4 l0_0 x3_2) (ji19)).f0)) = true := decide_eq_true c22; clear c22; obtain rfl := Option.some.inj H; obtain ⟨hcz23_0, hcz23_1, hfz23_0, hfz23_1⟩ := qb2 BK101.out; have p103 : 0 ≤ (x3_2 : Int) := qT qa2; have q103 : x3_2 < (l0_0.length : Int) := qT qa2; obtain ⟨ad103, A103_0, c103_0, e103, hx103_0, hl103_0, hi103_0⟩ := at_L4 HR0_0.out x3_2 p103 q103
                   cases e103
                   replace hx103_0 := (HB.out.cell (qL w _ hx103_0)).trans hx103_0; have HR103_0 := qO hi103_0; have HC103_0 := qO hl103_0; clear hi103_0 hl103_0; replace p103 := eq_true p103; replace q103 := eq_true q103; have p104 : 0 ≤ (x3_2 : Int) := qT qa2; have q104 : x3_2 < (l0_0.length : Int) := qT qa2; obtain ⟨ad104, A104_0, c104_0, e104, hx104_0, hl104_0, hi104_0⟩ := at_L4 HR0_0.out x3_2 p104 q104; obtain rfl : ad103 = ad104 := qa209; replace hx104_0 := (HB.out.cell (qL w _ hx104_0)).trans hx104_0; have HR104_0 := qO hi104_0; have HC104_0 := qO hl104_0; clear hi104_0 hl104_0; replace p104 := eq_true p104; replace q104 := eq_true q104; have ea_ := Option.some.inj (hx103_0.symm.trans hx104_0); injection ea_ with ea_ en_ ec_; subst ea_; subst ec_; clear en_; have p105 : 0 ≤ (x4_3 : Int) := qT qa2; have q105 : x4_3 < ((rd_L4 l0_0 x3_2).length : Int) := qT qa2; obtain ⟨ad105, e105, hx105_0, hx105_1⟩ := at_T43 HR104_0.out x4_3 p105 q105
                   cases e105
                   replace hx105_0 := (HB.out.cell (qL w _ hx105_0)).trans hx105_0; replace hx105_1 := (HB.out.cell (qL w _ hx105_1)).trans hx105_1; replace p105 := eq_true p105; replace q105 := eq_true q105
                   try go_wp2_with (first | ((with_reducible refine gate_dst (N := 5) rfl ?_); refine qX 5 #[.int .i64 0, .int .i64 0] 43 ?_; intro gb106 hg w24 hbox hb; have hx_ := qHX HB hb qa1; have BK106 := qO (hbox); have GW106 := qO ((qa17 : w.heap.size ≤ gb106)); have GE106 := GW106; have NB101_106 := qO ((qa12 : gb101 ≠ gb106)); have NB106_101 := qO (Ne.symm NB101_106.out); replace BK101 := qO (qB BK101.out hx_ hb); replace HB := qO (below_step (below_step HB.out hx_) hb); clear hx_ hb hbox hg; have hnb25 := NB106_101.out; have hnc25 := NB101_106.out; obtain ⟨hcz26_0, hcz26_1, hfz26_0, hfz26_1⟩ := qb2 BK106.out))
                   have n0_ : Aside0 (((w24.setCell ⟨gb106, 0, none⟩ (.int .i64 ((rd_T43 (rd_L4 l0_0 x3_2) x4_3).f0))).setCell ⟨gb106, 1, none⟩ (.int .i64 ((rd_T43 (rd_L4 l0_0 x3_2) x4_3).f1))).heap[gb101]? = some (.cells #[.slice (some ad103) l0_0.length c0_0, .int .i64 a0_1] 28 (0, 0))) := ⟨qa23⟩; have n1_ : Aside0 (((w24.setCell ⟨gb106, 0, none⟩ (.int .i64 ((rd_T43 (rd_L4 l0_0 x3_2) x4_3).f0))).setCell ⟨gb106, 1, none⟩ (.int .i64 ((rd_T43 (rd_L4 l0_0 x3_2) x4_3).f1))).heap[gb106]? = some (.cells #[.int .i64 ((rd_T43 (rd_L4 l0_0 x3_2) x4_3).f0), .int .i64 ((rd_T43 (rd_L4 l0_0 x3_2) x4_3).f1)] 43 (0, 0))) := ⟨qa42⟩; have n2_ : Aside0 (Below w.heap.size w ((w24.setCell ⟨gb106, 0, none⟩ (.int .i64 ((rd_T43 (rd_L4 l0_0 x3_2) x4_3).f0))).setCell ⟨gb106, 1, none⟩ (.int .i64 ((rd_T43 (rd_L4 l0_0 x3_2) x4_3).f1)))) := ⟨qa59⟩; (try clear BK101); (try clear BK106); (try clear HB); generalize ((w24.setCell ⟨gb106, 0, none⟩ (.int .i64 ((rd_T43 (rd_L4 l0_0 x3_2) x4_3).f0))).setCell ⟨gb106, 1, none⟩ (.int .i64 ((rd_T43 (rd_L4 l0_0 x3_2) x4_3).f1))) = w27 at n0_ n1_ n2_ ⊢; have BK101 := n0_; have BK106 := n1_; have HB := n2_; clear n0_ n1_ n2_; replace BK101 := qO (qkD BK101.out); replace BK106 := qO (qkD BK106.out); replace HB := qO (qbD HB.out); have p109 : 0 ≤ (x3_2 : Int) := qT qa2; have q109 : x3_2 < (l0_0.length : Int) := qT qa2; obtain ⟨ad109, A109_0, c109_0, e109, hx109_0, hl109_0, hi109_0⟩ := at_L4 HR0_0.out x3_2 p109 q109; have hw109_0 := hx109_0; obtain rfl : ad103 = ad109 := (by injection e109); replace hx109_0 := (HB.out.cell (qL w _ hx109_0)).trans hx109_0; have HR109_0 := qO hi109_0; have HC109_0 := qO hl109_0; clear hi109_0 hl109_0; replace p109 := eq_true p109; replace q109 := eq_true q109; have p110 : 0 ≤ ((ji19) : Int) := qT qa2; have q110 : (ji19) < ((rd_L4 l0_0 x3_2).length : Int) := qT qa2; obtain ⟨ad110, e110, hx110_0, hx110_1⟩ := at_T43 HR109_0.out (ji19) p110 q110; have hw110_1 := hx110_1; have hw110_0 := hx110_0
                   cases e110
                   replace hx110_0 := (HB.out.cell (qL w _ hx110_0)).trans hx110_0; replace hx110_1 := (HB.out.cell (qL w _ hx110_1)).trans hx110_1; replace p110 := eq_true p110; replace q110 := eq_true q110; refine start_ (n := 32) (S := fun w' => w'.cell? ⟨gb106, 0, none⟩ = some (.int .i64 ((rd_T43 (rd_L4 l0_0 x3_2) x4_3).f0)) ∧ w'.cell? ⟨gb106, 1, none⟩ = some (.int .i64 ((rd_T43 (rd_L4 l0_0 x3_2) x4_3).f1)) ∧ w'.cell? ⟨gb101, 0, none⟩ = some (.slice (some ad103) l0_0.length c0_0) ∧ w'.cell? ⟨gb101, 1, none⟩ = some (.int .i64 a0_1) ∧ w'.cell? (ad103.add (x3_2).toNat) = some (.slice (some ad110) (rd_L4 l0_0 x3_2).length c109_0) ∧ w'.cell? (ad110.add (((ji19)).toNat * 2)) = some (.int .i64 ((rd_T43 (rd_L4 l0_0 x3_2) (ji19)).f0)) ∧ w'.cell? ⟨(ad110.add (((ji19)).toNat * 2)).block, (ad110.add (((ji19)).toNat * 2)).off + 1, none⟩ = some (.int .i64 ((rd_T43 (rd_L4 l0_0 x3_2) (ji19)).f1))) (ds := []) spec_StoreOK.y0 qa7 rfl rfl ⟨qc0 BK106.out, qc1 BK106.out, qc0 BK101.out, qc1 BK101.out, ((HB.out.cell (qL w _ hw109_0)).trans hw109_0), ((HB.out.cell (qL w _ hw110_0)).trans hw110_0), ((HB.out.cell (qL w _ hw110_1)).trans hw110_1)⟩ (fun hHeld => ?_); refine with_tabW spec_StoreOK.tab10 spec_StoreOK.bits10 (fun HT_ HW_ => ?_); generalize w27.drew = w28 at BK101 BK106 HB HR109_0 hx109_0 hx110_0 hx110_1 hHeld ⊢; refine qPu 0 38 spec_StoreOK.y1 rfl rfl (any_of HT_.out qa7) qa10 qa3 ?_; refine qPu 2 40 spec_StoreOK.y2 rfl rfl (any_of HT_.out qa7) qa10 qa3 ?_; refine qTk 1 39 spec_StoreOK.y3 rfl rfl (take_ofW HT_.out HW_.out qa7) qa108 hHeld qa3 ?_; refine qTk 3 41 spec_StoreOK.y4 rfl rfl (take_ofW HT_.out HW_.out qa7) qa108 hHeld qa3 ?_; refine one_ (i := 4) (N := some 42) spec_StoreOK.y5 rfl rfl (one_of HT_.out qa7) qa69 (fun K hK => ?_); refine goes_ Try.func96 qa7 rfl #[.int .i64 ((rd_T43 (rd_L4 l0_0 x3_2) x4_3).f0), .int .i64 1, .int .i64 a0_1] (by rfl) rfl rfl qa0 ?_; (with_reducible refine (spec_l01In.calls ((rd_T43 (rd_L4 l0_0 x3_2) x4_3).f0) 1 a0_1 true _ A14.out).mono ?_); rintro e w' ⟨rfl, ⟨nd, rfl⟩⟩; refine ⟨_, rfl, ?_⟩; refine hK.out _ _ ⟨qc0 BK106.out, qc1 BK106.out, qc0 BK101.out, qc1 BK101.out, ((HB.out.cell (qL w _ hw109_0)).trans hw109_0), ((HB.out.cell (qL w _ hw110_0)).trans hw110_0), ((HB.out.cell (qL w _ hw110_1)).trans hw110_1)⟩ (fun hHeld => ?_); clear hK K; refine norm_ (a' := ?_) ?_ ?_; rotate_left
                   ·exact qa20
                   refine qPu 5 43 spec_StoreOK.y6 rfl rfl (any_of HT_.out qa7) qa10 qa3 ?_; refine qPu 6 44 spec_StoreOK.y7 rfl rfl (any_of HT_.out qa7) qa10 qa3 ?_; refine qPu 7 45 spec_StoreOK.y8 rfl rfl (any_of HT_.out qa7) qa10 qa3 ?_; refine qPu 8 46 spec_StoreOK.y9 rfl rfl (any_of HT_.out qa7) qa10 qa3 ?_; refine qTk 9 47 spec_StoreOK.y10 rfl rfl (take_ofW HT_.out HW_.out qa7) qa108 hHeld qa3 ?_; refine one_ (i := 10) (N := some 48) spec_StoreOK.y11 rfl rfl (one_of HT_.out qa7) qa69 (fun K hK => ?_); refine goes_ Try.func113 qa7 rfl #[.int .i64 x3_2, .int .i64 ((rd_T43 (rd_L4 l0_0 x3_2) x4_3).f1)] (by rfl) rfl rfl qa0 ?_; (with_reducible refine (spec_l06Value.calls x3_2 ((rd_T43 (rd_L4 l0_0 x3_2) x4_3).f1) true _ A16.out).mono ?_); rintro e w' ⟨rfl, ⟨nd, rfl⟩⟩; refine ⟨_, rfl, ?_⟩; refine hK.out _ _ ⟨qc0 BK106.out, qc1 BK106.out, qc0 BK101.out, qc1 BK101.out, ((HB.out.cell (qL w _ hw109_0)).trans hw109_0), ((HB.out.cell (qL w _ hw110_0)).trans hw110_0), ((HB.out.cell (qL w _ hw110_1)).trans hw110_1)⟩ (fun hHeld => ?_); clear hK K; refine norm_ (a' := ?_) ?_ ?_; rotate_left
                   ·exact qa20
                   refine qPu 11 49 spec_StoreOK.y12 rfl rfl (any_of HT_.out qa7) qa10 qa3 ?_; refine qPu 12 50 spec_StoreOK.y13 rfl rfl (any_of HT_.out qa7) qa10 qa3 ?_; refine qPu 13 51 spec_StoreOK.y14 rfl rfl (any_of HT_.out qa7) qa10 qa3 ?_; refine qPu 14 52 spec_StoreOK.y15 rfl rfl (any_of HT_.out qa7) qa10 qa3 ?_; refine qPu 15 53 spec_StoreOK.y16 rfl rfl (any_of HT_.out qa7) qa10 qa3 ?_; refine qPu 16 54 spec_StoreOK.y17 rfl rfl (any_of HT_.out qa7) qa10 qa3 ?_; refine qPu 17 55 spec_StoreOK.y18 rfl rfl (any_of HT_.out qa7) qa10 qa3 ?_; refine qPu 19 57 spec_StoreOK.y19 rfl rfl (any_of HT_.out qa7) qa10 qa3 ?_; refine qPu 22 60 spec_StoreOK.y20 rfl rfl (any_of HT_.out qa7) qa10 qa3 ?_; refine qPu 23 61 spec_StoreOK.y21 rfl rfl (any_of HT_.out qa7) qa10 qa3 ?_; refine qPu 27 65 spec_StoreOK.y22 rfl rfl (any_of HT_.out qa7) qa10 qa3 ?_; refine qTk 18 56 spec_StoreOK.y23 rfl rfl (take_ofW HT_.out HW_.out qa7) qa108 hHeld qa3 ?_; refine qPu 20 58 spec_StoreOK.y24 rfl rfl (any_of HT_.out qa7) qa10 qa3 ?_; refine qTk 21 59 spec_StoreOK.y25 rfl rfl (take_ofW HT_.out HW_.out qa7) qa108 hHeld qa3 ?_; refine qPu 24 62 spec_StoreOK.y26 rfl rfl (any_of HT_.out qa7) qa10 qa3 ?_; refine qPu 25 63 spec_StoreOK.y27 rfl rfl (any_of HT_.out qa7) qa10 qa3 ?_; refine qTk 26 64 spec_StoreOK.y28 rfl rfl (take_ofW HT_.out HW_.out qa7) qa108 hHeld qa3 ?_; refine qTk 28 66 spec_StoreOK.y29 rfl rfl (take_ofW HT_.out HW_.out qa7) qa108 hHeld qa3 ?_; refine qPu 29 67 spec_StoreOK.y30 rfl rfl (any_of HT_.out qa7) qa10 qa3 ?_; refine qPu 30 68 spec_StoreOK.y31 rfl rfl (any_of HT_.out qa7) qa10 qa3 ?_; refine qPu 31 69 spec_StoreOK.y32 rfl rfl (any_of HT_.out qa7) qa10 qa3 ?_; refine done_ (done_of HT_.out qa7) ?_
                   try go_wp2
                   go_ret
                   exact ⟨qa149, qa59⟩
                  ·rw [if_neg c22] at H
                   have c22b0 : decide (((rd_T43 (rd_L4 l0_0 x3_2) x4_3).f0) ≤ ((rd_T43 (rd_L4 l0_0 x3_2) (ji19)).f0)) = false := decide_eq_false c22; clear c22; have H' := qO H; clear H; obtain ⟨hcz29_0, hcz29_1, hfz29_0, hfz29_1⟩ := qb2 BK101.out; have p103 : 0 ≤ (x3_2 : Int) := qT qa2; have q103 : x3_2 < (l0_0.length : Int) := qT qa2; obtain ⟨ad103, A103_0, c103_0, e103, hx103_0, hl103_0, hi103_0⟩ := at_L4 HR0_0.out x3_2 p103 q103
                   cases e103
                   replace hx103_0 := (HB.out.cell (qL w _ hx103_0)).trans hx103_0; have HR103_0 := qO hi103_0; have HC103_0 := qO hl103_0; clear hi103_0 hl103_0; replace p103 := eq_true p103; replace q103 := eq_true q103; have p104 : 0 ≤ (x3_2 : Int) := qT qa2; have q104 : x3_2 < (l0_0.length : Int) := qT qa2; obtain ⟨ad104, A104_0, c104_0, e104, hx104_0, hl104_0, hi104_0⟩ := at_L4 HR0_0.out x3_2 p104 q104; obtain rfl : ad103 = ad104 := qa209; replace hx104_0 := (HB.out.cell (qL w _ hx104_0)).trans hx104_0; have HR104_0 := qO hi104_0; have HC104_0 := qO hl104_0; clear hi104_0 hl104_0; replace p104 := eq_true p104; replace q104 := eq_true q104; have ea_ := Option.some.inj (hx103_0.symm.trans hx104_0); injection ea_ with ea_ en_ ec_; subst ea_; subst ec_; clear en_; have p105 : 0 ≤ (x4_3 : Int) := qT qa2; have q105 : x4_3 < ((rd_L4 l0_0 x3_2).length : Int) := qT qa2; obtain ⟨ad105, e105, hx105_0, hx105_1⟩ := at_T43 HR104_0.out x4_3 p105 q105
                   cases e105
                   replace hx105_0 := (HB.out.cell (qL w _ hx105_0)).trans hx105_0; replace hx105_1 := (HB.out.cell (qL w _ hx105_1)).trans hx105_1; replace p105 := eq_true p105; replace q105 := eq_true q105
                   try go_wp2_with (first | ((with_reducible refine gate_dst (N := 5) rfl ?_); refine qX 5 #[.int .i64 0, .int .i64 0] 43 ?_; intro gb106 hg w30 hbox hb; have hx_ := qHX HB hb qa1; have BK106 := qO (hbox); have GW106 := qO ((qa17 : w.heap.size ≤ gb106)); have GE106 := GW106; have NB101_106 := qO ((qa12 : gb101 ≠ gb106)); have NB106_101 := qO (Ne.symm NB101_106.out); replace BK101 := qO (qB BK101.out hx_ hb); replace HB := qO (below_step (below_step HB.out hx_) hb); clear hx_ hb hbox hg; have hnb31 := NB106_101.out; have hnc31 := NB101_106.out; obtain ⟨hcz32_0, hcz32_1, hfz32_0, hfz32_1⟩ := qb2 BK106.out))
                   have n0_ : Aside0 (((w30.setCell ⟨gb106, 0, none⟩ (.int .i64 ((rd_T43 (rd_L4 l0_0 x3_2) x4_3).f0))).setCell ⟨gb106, 1, none⟩ (.int .i64 ((rd_T43 (rd_L4 l0_0 x3_2) x4_3).f1))).heap[gb101]? = some (.cells #[.slice (some ad103) l0_0.length c0_0, .int .i64 a0_1] 28 (0, 0))) := ⟨qa23⟩; have n1_ : Aside0 (((w30.setCell ⟨gb106, 0, none⟩ (.int .i64 ((rd_T43 (rd_L4 l0_0 x3_2) x4_3).f0))).setCell ⟨gb106, 1, none⟩ (.int .i64 ((rd_T43 (rd_L4 l0_0 x3_2) x4_3).f1))).heap[gb106]? = some (.cells #[.int .i64 ((rd_T43 (rd_L4 l0_0 x3_2) x4_3).f0), .int .i64 ((rd_T43 (rd_L4 l0_0 x3_2) x4_3).f1)] 43 (0, 0))) := ⟨qa42⟩; have n2_ : Aside0 (Below w.heap.size w ((w30.setCell ⟨gb106, 0, none⟩ (.int .i64 ((rd_T43 (rd_L4 l0_0 x3_2) x4_3).f0))).setCell ⟨gb106, 1, none⟩ (.int .i64 ((rd_T43 (rd_L4 l0_0 x3_2) x4_3).f1)))) := ⟨qa59⟩; (try clear BK101); (try clear BK106); (try clear HB); generalize ((w30.setCell ⟨gb106, 0, none⟩ (.int .i64 ((rd_T43 (rd_L4 l0_0 x3_2) x4_3).f0))).setCell ⟨gb106, 1, none⟩ (.int .i64 ((rd_T43 (rd_L4 l0_0 x3_2) x4_3).f1))) = w33 at n0_ n1_ n2_ ⊢; have BK101 := n0_; have BK106 := n1_; have HB := n2_; clear n0_ n1_ n2_; replace BK101 := qO (qkD BK101.out); replace BK106 := qO (qkD BK106.out); replace HB := qO (qbD HB.out); have p109 : 0 ≤ (x3_2 : Int) := qT qa2; have q109 : x3_2 < (l0_0.length : Int) := qT qa2; obtain ⟨ad109, A109_0, c109_0, e109, hx109_0, hl109_0, hi109_0⟩ := at_L4 HR0_0.out x3_2 p109 q109; have hw109_0 := hx109_0; obtain rfl : ad103 = ad109 := (by injection e109); replace hx109_0 := (HB.out.cell (qL w _ hx109_0)).trans hx109_0; have HR109_0 := qO hi109_0; have HC109_0 := qO hl109_0; clear hi109_0 hl109_0; replace p109 := eq_true p109; replace q109 := eq_true q109; have p110 : 0 ≤ ((ji19) : Int) := qT qa2; have q110 : (ji19) < ((rd_L4 l0_0 x3_2).length : Int) := qT qa2; obtain ⟨ad110, e110, hx110_0, hx110_1⟩ := at_T43 HR109_0.out (ji19) p110 q110; have hw110_1 := hx110_1; have hw110_0 := hx110_0
                   cases e110
                   replace hx110_0 := (HB.out.cell (qL w _ hx110_0)).trans hx110_0; replace hx110_1 := (HB.out.cell (qL w _ hx110_1)).trans hx110_1; replace p110 := eq_true p110; replace q110 := eq_true q110; refine start_ (n := 32) (S := fun w' => w'.cell? ⟨gb106, 0, none⟩ = some (.int .i64 ((rd_T43 (rd_L4 l0_0 x3_2) x4_3).f0)) ∧ w'.cell? ⟨gb106, 1, none⟩ = some (.int .i64 ((rd_T43 (rd_L4 l0_0 x3_2) x4_3).f1)) ∧ w'.cell? ⟨gb101, 0, none⟩ = some (.slice (some ad103) l0_0.length c0_0) ∧ w'.cell? ⟨gb101, 1, none⟩ = some (.int .i64 a0_1) ∧ w'.cell? (ad103.add (x3_2).toNat) = some (.slice (some ad110) (rd_L4 l0_0 x3_2).length c109_0) ∧ w'.cell? (ad110.add (((ji19)).toNat * 2)) = some (.int .i64 ((rd_T43 (rd_L4 l0_0 x3_2) (ji19)).f0)) ∧ w'.cell? ⟨(ad110.add (((ji19)).toNat * 2)).block, (ad110.add (((ji19)).toNat * 2)).off + 1, none⟩ = some (.int .i64 ((rd_T43 (rd_L4 l0_0 x3_2) (ji19)).f1))) (ds := []) spec_StoreOK.y0 qa7 rfl rfl ⟨qc0 BK106.out, qc1 BK106.out, qc0 BK101.out, qc1 BK101.out, ((HB.out.cell (qL w _ hw109_0)).trans hw109_0), ((HB.out.cell (qL w _ hw110_0)).trans hw110_0), ((HB.out.cell (qL w _ hw110_1)).trans hw110_1)⟩ (fun hHeld => ?_); refine with_tabW spec_StoreOK.tab10 spec_StoreOK.bits10 (fun HT_ HW_ => ?_); generalize w33.drew = w34 at BK101 BK106 HB HR109_0 hx109_0 hx110_0 hx110_1 hHeld ⊢; refine qPu 0 38 spec_StoreOK.y1 rfl rfl (any_of HT_.out qa7) qa10 qa3 ?_; refine qPu 2 40 spec_StoreOK.y2 rfl rfl (any_of HT_.out qa7) qa10 qa3 ?_; refine qTk 1 39 spec_StoreOK.y3 rfl rfl (take_ofW HT_.out HW_.out qa7) qa108 hHeld qa3 ?_; refine qTk 3 41 spec_StoreOK.y4 rfl rfl (take_ofW HT_.out HW_.out qa7) qa108 hHeld qa3 ?_; refine one_ (i := 4) (N := some 42) spec_StoreOK.y5 rfl rfl (one_of HT_.out qa7) qa69 (fun K hK => ?_); refine goes_ Try.func96 qa7 rfl #[.int .i64 ((rd_T43 (rd_L4 l0_0 x3_2) x4_3).f0), .int .i64 1, .int .i64 a0_1] (by rfl) rfl rfl qa0 ?_; (with_reducible refine (spec_l01In.calls ((rd_T43 (rd_L4 l0_0 x3_2) x4_3).f0) 1 a0_1 true _ A14.out).mono ?_); rintro e w' ⟨rfl, ⟨nd, rfl⟩⟩; refine ⟨_, rfl, ?_⟩; refine hK.out _ _ ⟨qc0 BK106.out, qc1 BK106.out, qc0 BK101.out, qc1 BK101.out, ((HB.out.cell (qL w _ hw109_0)).trans hw109_0), ((HB.out.cell (qL w _ hw110_0)).trans hw110_0), ((HB.out.cell (qL w _ hw110_1)).trans hw110_1)⟩ (fun hHeld => ?_); clear hK K; refine norm_ (a' := ?_) ?_ ?_; rotate_left
                   ·exact qa20
                   refine qPu 5 43 spec_StoreOK.y6 rfl rfl (any_of HT_.out qa7) qa10 qa3 ?_; refine qPu 6 44 spec_StoreOK.y7 rfl rfl (any_of HT_.out qa7) qa10 qa3 ?_; refine qPu 7 45 spec_StoreOK.y8 rfl rfl (any_of HT_.out qa7) qa10 qa3 ?_; refine qPu 8 46 spec_StoreOK.y9 rfl rfl (any_of HT_.out qa7) qa10 qa3 ?_; refine qTk 9 47 spec_StoreOK.y10 rfl rfl (take_ofW HT_.out HW_.out qa7) qa108 hHeld qa3 ?_; refine one_ (i := 10) (N := some 48) spec_StoreOK.y11 rfl rfl (one_of HT_.out qa7) qa69 (fun K hK => ?_); refine goes_ Try.func113 qa7 rfl #[.int .i64 x3_2, .int .i64 ((rd_T43 (rd_L4 l0_0 x3_2) x4_3).f1)] (by rfl) rfl rfl qa0 ?_; (with_reducible refine (spec_l06Value.calls x3_2 ((rd_T43 (rd_L4 l0_0 x3_2) x4_3).f1) true _ A16.out).mono ?_); rintro e w' ⟨rfl, ⟨nd, rfl⟩⟩; refine ⟨_, rfl, ?_⟩; refine hK.out _ _ ⟨qc0 BK106.out, qc1 BK106.out, qc0 BK101.out, qc1 BK101.out, ((HB.out.cell (qL w _ hw109_0)).trans hw109_0), ((HB.out.cell (qL w _ hw110_0)).trans hw110_0), ((HB.out.cell (qL w _ hw110_1)).trans hw110_1)⟩ (fun hHeld => ?_); clear hK K; refine norm_ (a' := ?_) ?_ ?_; rotate_left
                   ·exact qa20
                   refine qPu 11 49 spec_StoreOK.y12 rfl rfl (any_of HT_.out qa7) qa10 qa3 ?_; refine qPu 12 50 spec_StoreOK.y13 rfl rfl (any_of HT_.out qa7) qa10 qa3 ?_; refine qPu 13 51 spec_StoreOK.y14 rfl rfl (any_of HT_.out qa7) qa10 qa3 ?_; refine qPu 14 52 spec_StoreOK.y15 rfl rfl (any_of HT_.out qa7) qa10 qa3 ?_; refine qPu 15 53 spec_StoreOK.y16 rfl rfl (any_of HT_.out qa7) qa10 qa3 ?_; refine qPu 16 54 spec_StoreOK.y17 rfl rfl (any_of HT_.out qa7) qa10 qa3 ?_; refine qPu 17 55 spec_StoreOK.y18 rfl rfl (any_of HT_.out qa7) qa10 qa3 ?_; refine qPu 19 57 spec_StoreOK.y19 rfl rfl (any_of HT_.out qa7) qa10 qa3 ?_; refine qPu 22 60 spec_StoreOK.y20 rfl rfl (any_of HT_.out qa7) qa10 qa3 ?_; refine qPu 23 61 spec_StoreOK.y21 rfl rfl (any_of HT_.out qa7) qa10 qa3 ?_; refine qPu 27 65 spec_StoreOK.y22 rfl rfl (any_of HT_.out qa7) qa10 qa3 ?_; refine qTk 18 56 spec_StoreOK.y23 rfl rfl (take_ofW HT_.out HW_.out qa7) qa108 hHeld qa3 ?_; refine qPu 20 58 spec_StoreOK.y24 rfl rfl (any_of HT_.out qa7) qa10 qa3 ?_; refine qTk 21 59 spec_StoreOK.y25 rfl rfl (take_ofW HT_.out HW_.out qa7) qa108 hHeld qa3 ?_; refine qPu 24 62 spec_StoreOK.y26 rfl rfl (any_of HT_.out qa7) qa10 qa3 ?_; refine qPu 25 63 spec_StoreOK.y27 rfl rfl (any_of HT_.out qa7) qa10 qa3 ?_; refine qTk 26 64 spec_StoreOK.y28 rfl rfl (take_ofW HT_.out HW_.out qa7) qa108 hHeld qa3 ?_; refine qTk 28 66 spec_StoreOK.y29 rfl rfl (take_ofW HT_.out HW_.out qa7) qa108 hHeld qa3 ?_; refine qPu 29 67 spec_StoreOK.y30 rfl rfl (any_of HT_.out qa7) qa10 qa3 ?_; refine qPu 30 68 spec_StoreOK.y31 rfl rfl (any_of HT_.out qa7) qa10 qa3 ?_; refine qPu 31 69 spec_StoreOK.y32 rfl rfl (any_of HT_.out qa7) qa10 qa3 ?_; refine done_ (done_of HT_.out qa7) ?_
                   try go_wp2
                   go_roundg k3
                   case measure => have := HJ1.out; have := HK2.out; have := HK3.out; omega
                   case rel => exact ⟨(wrap64 (x4_3 + 1)), qa18, H', ⟨qa169⟩, ⟨qa4⟩, ⟨qa59⟩⟩
                 ·rw [if_neg c21] at H
                  exact absurd H qa120
                ·rw [if_neg c20] at H
                 exact absurd H qa120
               ·rw [if_neg c18] at H
                have c18b0 : decide (0 < x4_3) = false := decide_eq_false c18; clear c18; have H' := qO H; clear H; obtain ⟨hcz35_0, hcz35_1, hfz35_0, hfz35_1⟩ := qb2 BK101.out; have p103 : 0 ≤ (x3_2 : Int) := qT qa2; have q103 : x3_2 < (l0_0.length : Int) := qT qa2; obtain ⟨ad103, A103_0, c103_0, e103, hx103_0, hl103_0, hi103_0⟩ := at_L4 HR0_0.out x3_2 p103 q103
                cases e103
                replace hx103_0 := (HB.out.cell (qL w _ hx103_0)).trans hx103_0; have HR103_0 := qO hi103_0; have HC103_0 := qO hl103_0; clear hi103_0 hl103_0; replace p103 := eq_true p103; replace q103 := eq_true q103; have p104 : 0 ≤ (x3_2 : Int) := qT qa2; have q104 : x3_2 < (l0_0.length : Int) := qT qa2; obtain ⟨ad104, A104_0, c104_0, e104, hx104_0, hl104_0, hi104_0⟩ := at_L4 HR0_0.out x3_2 p104 q104; obtain rfl : ad103 = ad104 := qa209; replace hx104_0 := (HB.out.cell (qL w _ hx104_0)).trans hx104_0; have HR104_0 := qO hi104_0; have HC104_0 := qO hl104_0; clear hi104_0 hl104_0; replace p104 := eq_true p104; replace q104 := eq_true q104; have ea_ := Option.some.inj (hx103_0.symm.trans hx104_0); injection ea_ with ea_ en_ ec_; subst ea_; subst ec_; clear en_; have p105 : 0 ≤ (x4_3 : Int) := qT qa2; have q105 : x4_3 < ((rd_L4 l0_0 x3_2).length : Int) := qT qa2; obtain ⟨ad105, e105, hx105_0, hx105_1⟩ := at_T43 HR104_0.out x4_3 p105 q105
                cases e105
                replace hx105_0 := (HB.out.cell (qL w _ hx105_0)).trans hx105_0; replace hx105_1 := (HB.out.cell (qL w _ hx105_1)).trans hx105_1; replace p105 := eq_true p105; replace q105 := eq_true q105
                try go_wp2_with (first | ((with_reducible refine gate_dst (N := 5) rfl ?_); refine qX 5 #[.int .i64 0, .int .i64 0] 43 ?_; intro gb106 hg w36 hbox hb; have hx_ := qHX HB hb qa1; have BK106 := qO (hbox); have GW106 := qO ((qa17 : w.heap.size ≤ gb106)); have GE106 := GW106; have NB101_106 := qO ((qa12 : gb101 ≠ gb106)); have NB106_101 := qO (Ne.symm NB101_106.out); replace BK101 := qO (qB BK101.out hx_ hb); replace HB := qO (below_step (below_step HB.out hx_) hb); clear hx_ hb hbox hg; have hnb37 := NB106_101.out; have hnc37 := NB101_106.out; obtain ⟨hcz38_0, hcz38_1, hfz38_0, hfz38_1⟩ := qb2 BK106.out))
                have n0_ : Aside0 (((w36.setCell ⟨gb106, 0, none⟩ (.int .i64 ((rd_T43 (rd_L4 l0_0 x3_2) x4_3).f0))).setCell ⟨gb106, 1, none⟩ (.int .i64 ((rd_T43 (rd_L4 l0_0 x3_2) x4_3).f1))).heap[gb101]? = some (.cells #[.slice (some ad103) l0_0.length c0_0, .int .i64 a0_1] 28 (0, 0))) := ⟨qa23⟩; have n1_ : Aside0 (((w36.setCell ⟨gb106, 0, none⟩ (.int .i64 ((rd_T43 (rd_L4 l0_0 x3_2) x4_3).f0))).setCell ⟨gb106, 1, none⟩ (.int .i64 ((rd_T43 (rd_L4 l0_0 x3_2) x4_3).f1))).heap[gb106]? = some (.cells #[.int .i64 ((rd_T43 (rd_L4 l0_0 x3_2) x4_3).f0), .int .i64 ((rd_T43 (rd_L4 l0_0 x3_2) x4_3).f1)] 43 (0, 0))) := ⟨qa42⟩; have n2_ : Aside0 (Below w.heap.size w ((w36.setCell ⟨gb106, 0, none⟩ (.int .i64 ((rd_T43 (rd_L4 l0_0 x3_2) x4_3).f0))).setCell ⟨gb106, 1, none⟩ (.int .i64 ((rd_T43 (rd_L4 l0_0 x3_2) x4_3).f1)))) := ⟨qa59⟩; (try clear BK101); (try clear BK106); (try clear HB); generalize ((w36.setCell ⟨gb106, 0, none⟩ (.int .i64 ((rd_T43 (rd_L4 l0_0 x3_2) x4_3).f0))).setCell ⟨gb106, 1, none⟩ (.int .i64 ((rd_T43 (rd_L4 l0_0 x3_2) x4_3).f1))) = w39 at n0_ n1_ n2_ ⊢; have BK101 := n0_; have BK106 := n1_; have HB := n2_; clear n0_ n1_ n2_; replace BK101 := qO (qkD BK101.out); replace BK106 := qO (qkD BK106.out); replace HB := qO (qbD HB.out); refine start_ (n := 32) (S := fun w' => w'.cell? ⟨gb106, 0, none⟩ = some (.int .i64 ((rd_T43 (rd_L4 l0_0 x3_2) x4_3).f0)) ∧ w'.cell? ⟨gb106, 1, none⟩ = some (.int .i64 ((rd_T43 (rd_L4 l0_0 x3_2) x4_3).f1)) ∧ w'.cell? ⟨gb101, 0, none⟩ = some (.slice (some ad103) l0_0.length c0_0) ∧ w'.cell? ⟨gb101, 1, none⟩ = some (.int .i64 a0_1)) (ds := []) spec_StoreOK.y0 qa7 rfl rfl ⟨qc0 BK106.out, qc1 BK106.out, qc0 BK101.out, qc1 BK101.out⟩ (fun hHeld => ?_); refine with_tabW spec_StoreOK.tab10 spec_StoreOK.bits10 (fun HT_ HW_ => ?_); generalize w39.drew = w40 at BK101 BK106 HB hHeld ⊢; refine qPu 0 38 spec_StoreOK.y1 rfl rfl (any_of HT_.out qa7) qa10 qa3 ?_; refine qPu 2 40 spec_StoreOK.y2 rfl rfl (any_of HT_.out qa7) qa10 qa3 ?_; refine qTk 1 39 spec_StoreOK.y3 rfl rfl (take_ofW HT_.out HW_.out qa7) qa55 hHeld qa3 ?_; refine qTk 3 41 spec_StoreOK.y4 rfl rfl (take_ofW HT_.out HW_.out qa7) qa55 hHeld qa3 ?_; refine one_ (i := 4) (N := some 42) spec_StoreOK.y5 rfl rfl (one_of HT_.out qa7) qa69 (fun K hK => ?_); refine goes_ Try.func96 qa7 rfl #[.int .i64 ((rd_T43 (rd_L4 l0_0 x3_2) x4_3).f0), .int .i64 1, .int .i64 a0_1] (by rfl) rfl rfl qa0 ?_; (with_reducible refine (spec_l01In.calls ((rd_T43 (rd_L4 l0_0 x3_2) x4_3).f0) 1 a0_1 true _ A14.out).mono ?_); rintro e w' ⟨rfl, ⟨nd, rfl⟩⟩; refine ⟨_, rfl, ?_⟩; refine hK.out _ _ ⟨qc0 BK106.out, qc1 BK106.out, qc0 BK101.out, qc1 BK101.out⟩ (fun hHeld => ?_); clear hK K; refine norm_ (a' := ?_) ?_ ?_; rotate_left
                ·exact qa20
                refine qPu 5 43 spec_StoreOK.y6 rfl rfl (any_of HT_.out qa7) qa10 qa3 ?_; refine qPu 6 44 spec_StoreOK.y7 rfl rfl (any_of HT_.out qa7) qa10 qa3 ?_; refine qPu 7 45 spec_StoreOK.y8 rfl rfl (any_of HT_.out qa7) qa10 qa3 ?_; refine qPu 8 46 spec_StoreOK.y9 rfl rfl (any_of HT_.out qa7) qa10 qa3 ?_; refine qTk 9 47 spec_StoreOK.y10 rfl rfl (take_ofW HT_.out HW_.out qa7) qa55 hHeld qa3 ?_; refine one_ (i := 10) (N := some 48) spec_StoreOK.y11 rfl rfl (one_of HT_.out qa7) qa69 (fun K hK => ?_); refine goes_ Try.func113 qa7 rfl #[.int .i64 x3_2, .int .i64 ((rd_T43 (rd_L4 l0_0 x3_2) x4_3).f1)] (by rfl) rfl rfl qa0 ?_; (with_reducible refine (spec_l06Value.calls x3_2 ((rd_T43 (rd_L4 l0_0 x3_2) x4_3).f1) true _ A16.out).mono ?_); rintro e w' ⟨rfl, ⟨nd, rfl⟩⟩; refine ⟨_, rfl, ?_⟩; refine hK.out _ _ ⟨qc0 BK106.out, qc1 BK106.out, qc0 BK101.out, qc1 BK101.out⟩ (fun hHeld => ?_); clear hK K; refine norm_ (a' := ?_) ?_ ?_; rotate_left
                ·exact qa20
                refine qPu 11 49 spec_StoreOK.y12 rfl rfl (any_of HT_.out qa7) qa10 qa3 ?_; refine qPu 12 50 spec_StoreOK.y13 rfl rfl (any_of HT_.out qa7) qa10 qa3 ?_; refine qPu 13 51 spec_StoreOK.y14 rfl rfl (any_of HT_.out qa7) qa10 qa3 ?_; refine qPu 14 52 spec_StoreOK.y15 rfl rfl (any_of HT_.out qa7) qa10 qa3 ?_; refine qPu 15 53 spec_StoreOK.y16 rfl rfl (any_of HT_.out qa7) qa10 qa3 ?_; refine qPu 16 54 spec_StoreOK.y17 rfl rfl (any_of HT_.out qa7) qa10 qa3 ?_; refine pure_ (i := 17) (N := some 55) (v := undef) (a' := ?_) spec_StoreOK.y18 rfl rfl (any_of HT_.out qa7) (fun _ _ _ h => h) (Or.inr ⟨by rfl, rfl⟩) ?_ ?_; rotate_left
                ·simp only [Act.put, qzA, qzB, qzC, i64_w, i32_w]
                 rfl
                refine pure_ (i := 18) (N := some 56) (v := undef) (a' := ?_) spec_StoreOK.y33 rfl rfl (any_of HT_.out qa7) (fun _ _ _ h => h) (Or.inr ⟨by rfl, rfl⟩) ?_ ?_; rotate_left
                ·simp only [Act.put, qzA, qzB, qzC, i64_w, i32_w]
                 rfl
                refine pure_ (i := 19) (N := some 57) (v := undef) (a' := ?_) spec_StoreOK.y34 rfl rfl (any_of HT_.out qa7) (fun _ _ _ h => h) (Or.inr ⟨by rfl, rfl⟩) ?_ ?_; rotate_left
                ·simp only [Act.put, qzA, qzB, qzC, i64_w, i32_w]
                 rfl
                refine pure_ (i := 20) (N := some 58) (v := undef) (a' := ?_) spec_StoreOK.y35 rfl rfl (any_of HT_.out qa7) (fun _ _ _ h => h) (Or.inr ⟨by rfl, rfl⟩) ?_ ?_; rotate_left
                ·simp only [Act.put, qzA, qzB, qzC, i64_w, i32_w]
                 rfl
                refine pure_ (i := 21) (N := some 59) (v := undef) (a' := ?_) spec_StoreOK.y36 rfl rfl (any_of HT_.out qa7) (fun _ _ _ h => h) (Or.inr ⟨by rfl, rfl⟩) ?_ ?_; rotate_left
                ·simp only [Act.put, qzA, qzB, qzC, i64_w, i32_w]
                 rfl
                refine pure_ (i := 22) (N := some 60) (v := undef) (a' := ?_) spec_StoreOK.y37 rfl rfl (any_of HT_.out qa7) (fun _ _ _ h => h) (Or.inr ⟨by rfl, rfl⟩) ?_ ?_; rotate_left
                ·simp only [Act.put, qzA, qzB, qzC, i64_w, i32_w]
                 rfl
                refine pure_ (i := 23) (N := some 61) (v := undef) (a' := ?_) spec_StoreOK.y38 rfl rfl (any_of HT_.out qa7) (fun _ _ _ h => h) (Or.inr ⟨by rfl, rfl⟩) ?_ ?_; rotate_left
                ·simp only [Act.put, qzA, qzB, qzC, i64_w, i32_w]
                 rfl
                refine pure_ (i := 24) (N := some 62) (v := undef) (a' := ?_) spec_StoreOK.y39 rfl rfl (any_of HT_.out qa7) (fun _ _ _ h => h) (Or.inr ⟨by rfl, rfl⟩) ?_ ?_; rotate_left
                ·simp only [Act.put, qzA, qzB, qzC, i64_w, i32_w]
                 rfl
                refine pure_ (i := 25) (N := some 63) (v := undef) (a' := ?_) spec_StoreOK.y40 rfl rfl (any_of HT_.out qa7) (fun _ _ _ h => h) (Or.inr ⟨by rfl, rfl⟩) ?_ ?_; rotate_left
                ·simp only [Act.put, qzA, qzB, qzC, i64_w, i32_w]
                 rfl
                refine pure_ (i := 26) (N := some 64) (v := undef) (a' := ?_) spec_StoreOK.y41 rfl rfl (any_of HT_.out qa7) (fun _ _ _ h => h) (Or.inr ⟨by rfl, rfl⟩) ?_ ?_; rotate_left
                ·simp only [Act.put, qzA, qzB, qzC, i64_w, i32_w]
                 rfl
                refine pure_ (i := 27) (N := some 65) (v := undef) (a' := ?_) spec_StoreOK.y28 rfl rfl (any_of HT_.out qa7) (fun _ _ _ h => h) (Or.inr ⟨by rfl, rfl⟩) ?_ ?_; rotate_left
                ·simp only [Act.put, qzA, qzB, qzC, i64_w, i32_w]
                 rfl
                refine pure_ (i := 28) (N := some 66) (v := undef) (a' := ?_) spec_StoreOK.y29 rfl rfl (any_of HT_.out qa7) (fun _ _ _ h => h) (Or.inr ⟨by rfl, rfl⟩) ?_ ?_; rotate_left
                ·simp only [Act.put, qzA, qzB, qzC, i64_w, i32_w]
                 rfl
                refine pure_ (i := 29) (N := some 67) (v := undef) (a' := ?_) spec_StoreOK.y30 rfl rfl (any_of HT_.out qa7) (fun _ _ _ h => h) (Or.inr ⟨by rfl, rfl⟩) ?_ ?_; rotate_left
                ·simp only [Act.put, qzA, qzB, qzC, i64_w, i32_w]
                 rfl
                refine qPu 30 68 spec_StoreOK.y31 rfl rfl (any_of HT_.out qa7) qa10 qa3 ?_; refine qPu 31 69 spec_StoreOK.y32 rfl rfl (any_of HT_.out qa7) qa10 qa3 ?_; refine done_ (done_of HT_.out qa7) ?_
                try go_wp2
                go_roundg k3
                case measure => have := HJ1.out; have := HK2.out; have := HK3.out; omega
                case rel => exact ⟨(wrap64 (x4_3 + 1)), qa18, H', ⟨qa169⟩, ⟨qa4⟩, ⟨qa59⟩⟩
              ·replace c17 := Bool.eq_false_iff.mpr c17
               subst c17; have H1 : (some false) = some r := by rw [if_neg (show ¬ (false = true) by decide)] at H; exact H
               clear H; have H := H1; clear H1; obtain rfl := Option.some.inj H; obtain ⟨hcz41_0, hcz41_1, hfz41_0, hfz41_1⟩ := qb2 BK101.out; have p103 : 0 ≤ (x3_2 : Int) := qT qa2; have q103 : x3_2 < (l0_0.length : Int) := qT qa2; obtain ⟨ad103, A103_0, c103_0, e103, hx103_0, hl103_0, hi103_0⟩ := at_L4 HR0_0.out x3_2 p103 q103
               cases e103
               replace hx103_0 := (HB.out.cell (qL w _ hx103_0)).trans hx103_0; have HR103_0 := qO hi103_0; have HC103_0 := qO hl103_0; clear hi103_0 hl103_0; replace p103 := eq_true p103; replace q103 := eq_true q103; have p104 : 0 ≤ (x3_2 : Int) := qT qa2; have q104 : x3_2 < (l0_0.length : Int) := qT qa2; obtain ⟨ad104, A104_0, c104_0, e104, hx104_0, hl104_0, hi104_0⟩ := at_L4 HR0_0.out x3_2 p104 q104; obtain rfl : ad103 = ad104 := qa209; replace hx104_0 := (HB.out.cell (qL w _ hx104_0)).trans hx104_0; have HR104_0 := qO hi104_0; have HC104_0 := qO hl104_0; clear hi104_0 hl104_0; replace p104 := eq_true p104; replace q104 := eq_true q104; have ea_ := Option.some.inj (hx103_0.symm.trans hx104_0); injection ea_ with ea_ en_ ec_; subst ea_; subst ec_; clear en_; have p105 : 0 ≤ (x4_3 : Int) := qT qa2; have q105 : x4_3 < ((rd_L4 l0_0 x3_2).length : Int) := qT qa2; obtain ⟨ad105, e105, hx105_0, hx105_1⟩ := at_T43 HR104_0.out x4_3 p105 q105
               cases e105
               replace hx105_0 := (HB.out.cell (qL w _ hx105_0)).trans hx105_0; replace hx105_1 := (HB.out.cell (qL w _ hx105_1)).trans hx105_1; replace p105 := eq_true p105; replace q105 := eq_true q105
               try go_wp2_with (first | ((with_reducible refine gate_dst (N := 5) rfl ?_); refine qX 5 #[.int .i64 0, .int .i64 0] 43 ?_; intro gb106 hg w42 hbox hb; have hx_ := qHX HB hb qa1; have BK106 := qO (hbox); have GW106 := qO ((qa17 : w.heap.size ≤ gb106)); have GE106 := GW106; have NB101_106 := qO ((qa12 : gb101 ≠ gb106)); have NB106_101 := qO (Ne.symm NB101_106.out); replace BK101 := qO (qB BK101.out hx_ hb); replace HB := qO (below_step (below_step HB.out hx_) hb); clear hx_ hb hbox hg; have hnb43 := NB106_101.out; have hnc43 := NB101_106.out; obtain ⟨hcz44_0, hcz44_1, hfz44_0, hfz44_1⟩ := qb2 BK106.out))
               have n0_ : Aside0 (((w42.setCell ⟨gb106, 0, none⟩ (.int .i64 ((rd_T43 (rd_L4 l0_0 x3_2) x4_3).f0))).setCell ⟨gb106, 1, none⟩ (.int .i64 ((rd_T43 (rd_L4 l0_0 x3_2) x4_3).f1))).heap[gb101]? = some (.cells #[.slice (some ad103) l0_0.length c0_0, .int .i64 a0_1] 28 (0, 0))) := ⟨qa23⟩; have n1_ : Aside0 (((w42.setCell ⟨gb106, 0, none⟩ (.int .i64 ((rd_T43 (rd_L4 l0_0 x3_2) x4_3).f0))).setCell ⟨gb106, 1, none⟩ (.int .i64 ((rd_T43 (rd_L4 l0_0 x3_2) x4_3).f1))).heap[gb106]? = some (.cells #[.int .i64 ((rd_T43 (rd_L4 l0_0 x3_2) x4_3).f0), .int .i64 ((rd_T43 (rd_L4 l0_0 x3_2) x4_3).f1)] 43 (0, 0))) := ⟨qa42⟩; have n2_ : Aside0 (Below w.heap.size w ((w42.setCell ⟨gb106, 0, none⟩ (.int .i64 ((rd_T43 (rd_L4 l0_0 x3_2) x4_3).f0))).setCell ⟨gb106, 1, none⟩ (.int .i64 ((rd_T43 (rd_L4 l0_0 x3_2) x4_3).f1)))) := ⟨qa59⟩; (try clear BK101); (try clear BK106); (try clear HB); generalize ((w42.setCell ⟨gb106, 0, none⟩ (.int .i64 ((rd_T43 (rd_L4 l0_0 x3_2) x4_3).f0))).setCell ⟨gb106, 1, none⟩ (.int .i64 ((rd_T43 (rd_L4 l0_0 x3_2) x4_3).f1))) = w45 at n0_ n1_ n2_ ⊢; have BK101 := n0_; have BK106 := n1_; have HB := n2_; clear n0_ n1_ n2_; replace BK101 := qO (qkD BK101.out); replace BK106 := qO (qkD BK106.out); replace HB := qO (qbD HB.out); refine start_ (n := 32) (S := fun w' => w'.cell? ⟨gb106, 0, none⟩ = some (.int .i64 ((rd_T43 (rd_L4 l0_0 x3_2) x4_3).f0)) ∧ w'.cell? ⟨gb106, 1, none⟩ = some (.int .i64 ((rd_T43 (rd_L4 l0_0 x3_2) x4_3).f1)) ∧ w'.cell? ⟨gb101, 0, none⟩ = some (.slice (some ad103) l0_0.length c0_0) ∧ w'.cell? ⟨gb101, 1, none⟩ = some (.int .i64 a0_1)) (ds := []) spec_StoreOK.y0 qa7 rfl rfl ⟨qc0 BK106.out, qc1 BK106.out, qc0 BK101.out, qc1 BK101.out⟩ (fun hHeld => ?_); refine with_tabW spec_StoreOK.tab10 spec_StoreOK.bits10 (fun HT_ HW_ => ?_); generalize w45.drew = w46 at BK101 BK106 HB hHeld ⊢; refine qPu 0 38 spec_StoreOK.y1 rfl rfl (any_of HT_.out qa7) qa10 qa3 ?_; refine qPu 2 40 spec_StoreOK.y2 rfl rfl (any_of HT_.out qa7) qa10 qa3 ?_; refine qTk 1 39 spec_StoreOK.y3 rfl rfl (take_ofW HT_.out HW_.out qa7) qa55 hHeld qa3 ?_; refine qTk 3 41 spec_StoreOK.y4 rfl rfl (take_ofW HT_.out HW_.out qa7) qa55 hHeld qa3 ?_; refine one_ (i := 4) (N := some 42) spec_StoreOK.y5 rfl rfl (one_of HT_.out qa7) qa69 (fun K hK => ?_); refine goes_ Try.func96 qa7 rfl #[.int .i64 ((rd_T43 (rd_L4 l0_0 x3_2) x4_3).f0), .int .i64 1, .int .i64 a0_1] (by rfl) rfl rfl qa0 ?_; (with_reducible refine (spec_l01In.calls ((rd_T43 (rd_L4 l0_0 x3_2) x4_3).f0) 1 a0_1 true _ A14.out).mono ?_); rintro e w' ⟨rfl, ⟨nd, rfl⟩⟩; refine ⟨_, rfl, ?_⟩; refine hK.out _ _ ⟨qc0 BK106.out, qc1 BK106.out, qc0 BK101.out, qc1 BK101.out⟩ (fun hHeld => ?_); clear hK K; refine norm_ (a' := ?_) ?_ ?_; rotate_left
               ·exact qa20
               refine qPu 5 43 spec_StoreOK.y6 rfl rfl (any_of HT_.out qa7) qa10 qa3 ?_; refine qPu 6 44 spec_StoreOK.y7 rfl rfl (any_of HT_.out qa7) qa10 qa3 ?_; refine qPu 7 45 spec_StoreOK.y8 rfl rfl (any_of HT_.out qa7) qa10 qa3 ?_; refine qPu 8 46 spec_StoreOK.y9 rfl rfl (any_of HT_.out qa7) qa10 qa3 ?_; refine qTk 9 47 spec_StoreOK.y10 rfl rfl (take_ofW HT_.out HW_.out qa7) qa55 hHeld qa3 ?_; refine one_ (i := 10) (N := some 48) spec_StoreOK.y11 rfl rfl (one_of HT_.out qa7) qa69 (fun K hK => ?_); refine goes_ Try.func113 qa7 rfl #[.int .i64 x3_2, .int .i64 ((rd_T43 (rd_L4 l0_0 x3_2) x4_3).f1)] (by rfl) rfl rfl qa0 ?_; (with_reducible refine (spec_l06Value.calls x3_2 ((rd_T43 (rd_L4 l0_0 x3_2) x4_3).f1) false _ A16.out).mono ?_); rintro e w' ⟨rfl, ⟨nd, rfl⟩⟩; refine ⟨_, rfl, ?_⟩; refine hK.out _ _ ⟨qc0 BK106.out, qc1 BK106.out, qc0 BK101.out, qc1 BK101.out⟩ (fun hHeld => ?_); clear hK K; refine norm_ (a' := ?_) ?_ ?_; rotate_left
               ·exact qa20
               refine qPu 11 49 spec_StoreOK.y12 rfl rfl (any_of HT_.out qa7) qa10 qa3 ?_; refine qPu 12 50 spec_StoreOK.y13 rfl rfl (any_of HT_.out qa7) qa10 qa3 ?_; refine qPu 13 51 spec_StoreOK.y14 rfl rfl (any_of HT_.out qa7) qa10 qa3 ?_; refine pure_ (i := 14) (N := some 52) (v := undef) (a' := ?_) spec_StoreOK.y15 rfl rfl (any_of HT_.out qa7) (fun _ _ _ h => h) (Or.inr ⟨by rfl, rfl⟩) ?_ ?_; rotate_left
               ·simp only [Act.put, qzA, qzB, qzC, i64_w, i32_w]
                rfl
               refine pure_ (i := 15) (N := some 53) (v := undef) (a' := ?_) spec_StoreOK.y16 rfl rfl (any_of HT_.out qa7) (fun _ _ _ h => h) (Or.inr ⟨by rfl, rfl⟩) ?_ ?_; rotate_left
               ·simp only [Act.put, qzA, qzB, qzC, i64_w, i32_w]
                rfl
               refine pure_ (i := 16) (N := some 54) (v := undef) (a' := ?_) spec_StoreOK.y17 rfl rfl (any_of HT_.out qa7) (fun _ _ _ h => h) (Or.inr ⟨by rfl, rfl⟩) ?_ ?_; rotate_left
               ·simp only [Act.put, qzA, qzB, qzC, i64_w, i32_w]
                rfl
               refine pure_ (i := 17) (N := some 55) (v := undef) (a' := ?_) spec_StoreOK.y18 rfl rfl (any_of HT_.out qa7) (fun _ _ _ h => h) (Or.inr ⟨by rfl, rfl⟩) ?_ ?_; rotate_left
               ·simp only [Act.put, qzA, qzB, qzC, i64_w, i32_w]
                rfl
               refine pure_ (i := 18) (N := some 56) (v := undef) (a' := ?_) spec_StoreOK.y33 rfl rfl (any_of HT_.out qa7) (fun _ _ _ h => h) (Or.inr ⟨by rfl, rfl⟩) ?_ ?_; rotate_left
               ·simp only [Act.put, qzA, qzB, qzC, i64_w, i32_w]
                rfl
               refine pure_ (i := 19) (N := some 57) (v := undef) (a' := ?_) spec_StoreOK.y34 rfl rfl (any_of HT_.out qa7) (fun _ _ _ h => h) (Or.inr ⟨by rfl, rfl⟩) ?_ ?_; rotate_left
               ·simp only [Act.put, qzA, qzB, qzC, i64_w, i32_w]
                rfl
               refine pure_ (i := 20) (N := some 58) (v := undef) (a' := ?_) spec_StoreOK.y35 rfl rfl (any_of HT_.out qa7) (fun _ _ _ h => h) (Or.inr ⟨by rfl, rfl⟩) ?_ ?_; rotate_left
               ·simp only [Act.put, qzA, qzB, qzC, i64_w, i32_w]
                rfl
               refine pure_ (i := 21) (N := some 59) (v := undef) (a' := ?_) spec_StoreOK.y36 rfl rfl (any_of HT_.out qa7) (fun _ _ _ h => h) (Or.inr ⟨by rfl, rfl⟩) ?_ ?_; rotate_left
               ·simp only [Act.put, qzA, qzB, qzC, i64_w, i32_w]
                rfl
               refine pure_ (i := 22) (N := some 60) (v := undef) (a' := ?_) spec_StoreOK.y37 rfl rfl (any_of HT_.out qa7) (fun _ _ _ h => h) (Or.inr ⟨by rfl, rfl⟩) ?_ ?_; rotate_left
               ·simp only [Act.put, qzA, qzB, qzC, i64_w, i32_w]
                rfl
               refine pure_ (i := 23) (N := some 61) (v := undef) (a' := ?_) spec_StoreOK.y38 rfl rfl (any_of HT_.out qa7) (fun _ _ _ h => h) (Or.inr ⟨by rfl, rfl⟩) ?_ ?_; rotate_left
               ·simp only [Act.put, qzA, qzB, qzC, i64_w, i32_w]
                rfl
               refine pure_ (i := 24) (N := some 62) (v := undef) (a' := ?_) spec_StoreOK.y39 rfl rfl (any_of HT_.out qa7) (fun _ _ _ h => h) (Or.inr ⟨by rfl, rfl⟩) ?_ ?_; rotate_left
               ·simp only [Act.put, qzA, qzB, qzC, i64_w, i32_w]
                rfl
               refine pure_ (i := 25) (N := some 63) (v := undef) (a' := ?_) spec_StoreOK.y40 rfl rfl (any_of HT_.out qa7) (fun _ _ _ h => h) (Or.inr ⟨by rfl, rfl⟩) ?_ ?_; rotate_left
               ·simp only [Act.put, qzA, qzB, qzC, i64_w, i32_w]
                rfl
               refine pure_ (i := 26) (N := some 64) (v := undef) (a' := ?_) spec_StoreOK.y41 rfl rfl (any_of HT_.out qa7) (fun _ _ _ h => h) (Or.inr ⟨by rfl, rfl⟩) ?_ ?_; rotate_left
               ·simp only [Act.put, qzA, qzB, qzC, i64_w, i32_w]
                rfl
               refine pure_ (i := 27) (N := some 65) (v := undef) (a' := ?_) spec_StoreOK.y28 rfl rfl (any_of HT_.out qa7) (fun _ _ _ h => h) (Or.inr ⟨by rfl, rfl⟩) ?_ ?_; rotate_left
               ·simp only [Act.put, qzA, qzB, qzC, i64_w, i32_w]
                rfl
               refine pure_ (i := 28) (N := some 66) (v := undef) (a' := ?_) spec_StoreOK.y29 rfl rfl (any_of HT_.out qa7) (fun _ _ _ h => h) (Or.inr ⟨by rfl, rfl⟩) ?_ ?_; rotate_left
               ·simp only [Act.put, qzA, qzB, qzC, i64_w, i32_w]
                rfl
               refine pure_ (i := 29) (N := some 67) (v := undef) (a' := ?_) spec_StoreOK.y30 rfl rfl (any_of HT_.out qa7) (fun _ _ _ h => h) (Or.inr ⟨by rfl, rfl⟩) ?_ ?_; rotate_left
               ·simp only [Act.put, qzA, qzB, qzC, i64_w, i32_w]
                rfl
               refine pure_ (i := 30) (N := some 68) (v := undef) (a' := ?_) spec_StoreOK.y31 rfl rfl (any_of HT_.out qa7) (fun _ _ _ h => h) (Or.inr ⟨by rfl, rfl⟩) ?_ ?_; rotate_left
               ·simp only [Act.put, qzA, qzB, qzC, i64_w, i32_w]
                rfl
               refine qPu 31 69 spec_StoreOK.y32 rfl rfl (any_of HT_.out qa7) qa10 qa3 ?_; refine done_ (done_of HT_.out qa7) ?_
               try go_wp2
               go_ret
               exact ⟨qa9, qa59⟩
             ·replace c15 := Bool.eq_false_iff.mpr c15
              subst c15; have H1 : (some false) = some r := by rw [if_neg (show ¬ (false = true) by decide)] at H; exact H
              clear H; have H := H1; clear H1; obtain rfl := Option.some.inj H; obtain ⟨hcz47_0, hcz47_1, hfz47_0, hfz47_1⟩ := qb2 BK101.out; have p103 : 0 ≤ (x3_2 : Int) := qT qa2; have q103 : x3_2 < (l0_0.length : Int) := qT qa2; obtain ⟨ad103, A103_0, c103_0, e103, hx103_0, hl103_0, hi103_0⟩ := at_L4 HR0_0.out x3_2 p103 q103
              cases e103
              replace hx103_0 := (HB.out.cell (qL w _ hx103_0)).trans hx103_0; have HR103_0 := qO hi103_0; have HC103_0 := qO hl103_0; clear hi103_0 hl103_0; replace p103 := eq_true p103; replace q103 := eq_true q103; have p104 : 0 ≤ (x3_2 : Int) := qT qa2; have q104 : x3_2 < (l0_0.length : Int) := qT qa2; obtain ⟨ad104, A104_0, c104_0, e104, hx104_0, hl104_0, hi104_0⟩ := at_L4 HR0_0.out x3_2 p104 q104; obtain rfl : ad103 = ad104 := qa209; replace hx104_0 := (HB.out.cell (qL w _ hx104_0)).trans hx104_0; have HR104_0 := qO hi104_0; have HC104_0 := qO hl104_0; clear hi104_0 hl104_0; replace p104 := eq_true p104; replace q104 := eq_true q104; have ea_ := Option.some.inj (hx103_0.symm.trans hx104_0); injection ea_ with ea_ en_ ec_; subst ea_; subst ec_; clear en_; have p105 : 0 ≤ (x4_3 : Int) := qT qa2; have q105 : x4_3 < ((rd_L4 l0_0 x3_2).length : Int) := qT qa2; obtain ⟨ad105, e105, hx105_0, hx105_1⟩ := at_T43 HR104_0.out x4_3 p105 q105
              cases e105
              replace hx105_0 := (HB.out.cell (qL w _ hx105_0)).trans hx105_0; replace hx105_1 := (HB.out.cell (qL w _ hx105_1)).trans hx105_1; replace p105 := eq_true p105; replace q105 := eq_true q105
              try go_wp2_with (first | ((with_reducible refine gate_dst (N := 5) rfl ?_); refine qX 5 #[.int .i64 0, .int .i64 0] 43 ?_; intro gb106 hg w48 hbox hb; have hx_ := qHX HB hb qa1; have BK106 := qO (hbox); have GW106 := qO ((qa17 : w.heap.size ≤ gb106)); have GE106 := GW106; have NB101_106 := qO ((qa12 : gb101 ≠ gb106)); have NB106_101 := qO (Ne.symm NB101_106.out); replace BK101 := qO (qB BK101.out hx_ hb); replace HB := qO (below_step (below_step HB.out hx_) hb); clear hx_ hb hbox hg; have hnb49 := NB106_101.out; have hnc49 := NB101_106.out; obtain ⟨hcz50_0, hcz50_1, hfz50_0, hfz50_1⟩ := qb2 BK106.out))
              have n0_ : Aside0 (((w48.setCell ⟨gb106, 0, none⟩ (.int .i64 ((rd_T43 (rd_L4 l0_0 x3_2) x4_3).f0))).setCell ⟨gb106, 1, none⟩ (.int .i64 ((rd_T43 (rd_L4 l0_0 x3_2) x4_3).f1))).heap[gb101]? = some (.cells #[.slice (some ad103) l0_0.length c0_0, .int .i64 a0_1] 28 (0, 0))) := ⟨qa23⟩; have n1_ : Aside0 (((w48.setCell ⟨gb106, 0, none⟩ (.int .i64 ((rd_T43 (rd_L4 l0_0 x3_2) x4_3).f0))).setCell ⟨gb106, 1, none⟩ (.int .i64 ((rd_T43 (rd_L4 l0_0 x3_2) x4_3).f1))).heap[gb106]? = some (.cells #[.int .i64 ((rd_T43 (rd_L4 l0_0 x3_2) x4_3).f0), .int .i64 ((rd_T43 (rd_L4 l0_0 x3_2) x4_3).f1)] 43 (0, 0))) := ⟨qa42⟩; have n2_ : Aside0 (Below w.heap.size w ((w48.setCell ⟨gb106, 0, none⟩ (.int .i64 ((rd_T43 (rd_L4 l0_0 x3_2) x4_3).f0))).setCell ⟨gb106, 1, none⟩ (.int .i64 ((rd_T43 (rd_L4 l0_0 x3_2) x4_3).f1)))) := ⟨qa59⟩; (try clear BK101); (try clear BK106); (try clear HB); generalize ((w48.setCell ⟨gb106, 0, none⟩ (.int .i64 ((rd_T43 (rd_L4 l0_0 x3_2) x4_3).f0))).setCell ⟨gb106, 1, none⟩ (.int .i64 ((rd_T43 (rd_L4 l0_0 x3_2) x4_3).f1))) = w51 at n0_ n1_ n2_ ⊢; have BK101 := n0_; have BK106 := n1_; have HB := n2_; clear n0_ n1_ n2_; replace BK101 := qO (qkD BK101.out); replace BK106 := qO (qkD BK106.out); replace HB := qO (qbD HB.out); refine start_ (n := 32) (S := fun w' => w'.cell? ⟨gb106, 0, none⟩ = some (.int .i64 ((rd_T43 (rd_L4 l0_0 x3_2) x4_3).f0)) ∧ w'.cell? ⟨gb106, 1, none⟩ = some (.int .i64 ((rd_T43 (rd_L4 l0_0 x3_2) x4_3).f1)) ∧ w'.cell? ⟨gb101, 0, none⟩ = some (.slice (some ad103) l0_0.length c0_0) ∧ w'.cell? ⟨gb101, 1, none⟩ = some (.int .i64 a0_1)) (ds := []) spec_StoreOK.y0 qa7 rfl rfl ⟨qc0 BK106.out, qc1 BK106.out, qc0 BK101.out, qc1 BK101.out⟩ (fun hHeld => ?_); refine with_tabW spec_StoreOK.tab10 spec_StoreOK.bits10 (fun HT_ HW_ => ?_); generalize w51.drew = w52 at BK101 BK106 HB hHeld ⊢; refine qPu 0 38 spec_StoreOK.y1 rfl rfl (any_of HT_.out qa7) qa10 qa3 ?_; refine qPu 2 40 spec_StoreOK.y2 rfl rfl (any_of HT_.out qa7) qa10 qa3 ?_; refine qTk 1 39 spec_StoreOK.y3 rfl rfl (take_ofW HT_.out HW_.out qa7) qa55 hHeld qa3 ?_; refine qTk 3 41 spec_StoreOK.y4 rfl rfl (take_ofW HT_.out HW_.out qa7) qa55 hHeld qa3 ?_; refine one_ (i := 4) (N := some 42) spec_StoreOK.y5 rfl rfl (one_of HT_.out qa7) qa69 (fun K hK => ?_); refine goes_ Try.func96 qa7 rfl #[.int .i64 ((rd_T43 (rd_L4 l0_0 x3_2) x4_3).f0), .int .i64 1, .int .i64 a0_1] (by rfl) rfl rfl qa0 ?_; (with_reducible refine (spec_l01In.calls ((rd_T43 (rd_L4 l0_0 x3_2) x4_3).f0) 1 a0_1 false _ A14.out).mono ?_); rintro e w' ⟨rfl, ⟨nd, rfl⟩⟩; refine ⟨_, rfl, ?_⟩; refine hK.out _ _ ⟨qc0 BK106.out, qc1 BK106.out, qc0 BK101.out, qc1 BK101.out⟩ (fun hHeld => ?_); clear hK K; refine norm_ (a' := ?_) ?_ ?_; rotate_left
              ·exact qa20
              refine qPu 5 43 spec_StoreOK.y6 rfl rfl (any_of HT_.out qa7) qa10 qa3 ?_; refine qPu 6 44 spec_StoreOK.y7 rfl rfl (any_of HT_.out qa7) qa10 qa3 ?_; refine pure_ (i := 7) (N := some 45) (v := undef) (a' := ?_) spec_StoreOK.y8 rfl rfl (any_of HT_.out qa7) (fun _ _ _ h => h) (Or.inr ⟨by rfl, rfl⟩) ?_ ?_; rotate_left
              ·simp only [Act.put, qzA, qzB, qzC, i64_w, i32_w]
               rfl
              refine pure_ (i := 8) (N := some 46) (v := undef) (a' := ?_) spec_StoreOK.y9 rfl rfl (any_of HT_.out qa7) (fun _ _ _ h => h) (Or.inr ⟨by rfl, rfl⟩) ?_ ?_; rotate_left
              ·simp only [Act.put, qzA, qzB, qzC, i64_w, i32_w]
               rfl
              refine pure_ (i := 9) (N := some 47) (v := undef) (a' := ?_) spec_StoreOK.y10 rfl rfl (any_of HT_.out qa7) (fun _ _ _ h => h) (Or.inr ⟨by rfl, rfl⟩) ?_ ?_; rotate_left
              ·simp only [Act.put, qzA, qzB, qzC, i64_w, i32_w]
               rfl
              refine pure_ (i := 10) (N := some 48) (v := undef) (a' := ?_) spec_StoreOK.y11 rfl rfl (any_of HT_.out qa7) (fun _ _ _ h => h) (Or.inr ⟨by rfl, rfl⟩) ?_ ?_; rotate_left
              ·simp only [Act.put, qzA, qzB, qzC, i64_w, i32_w]
               rfl
              refine pure_ (i := 11) (N := some 49) (v := undef) (a' := ?_) spec_StoreOK.y12 rfl rfl (any_of HT_.out qa7) (fun _ _ _ h => h) (Or.inr ⟨by rfl, rfl⟩) ?_ ?_; rotate_left
              ·simp only [Act.put, qzA, qzB, qzC, i64_w, i32_w]
               rfl
              refine qPu 12 50 spec_StoreOK.y13 rfl rfl (any_of HT_.out qa7) qa10 qa3 ?_; refine qPu 13 51 spec_StoreOK.y14 rfl rfl (any_of HT_.out qa7) qa10 qa3 ?_; refine pure_ (i := 14) (N := some 52) (v := undef) (a' := ?_) spec_StoreOK.y15 rfl rfl (any_of HT_.out qa7) (fun _ _ _ h => h) (Or.inr ⟨by rfl, rfl⟩) ?_ ?_; rotate_left
              ·simp only [Act.put, qzA, qzB, qzC, i64_w, i32_w]
               rfl
              refine pure_ (i := 15) (N := some 53) (v := undef) (a' := ?_) spec_StoreOK.y16 rfl rfl (any_of HT_.out qa7) (fun _ _ _ h => h) (Or.inr ⟨by rfl, rfl⟩) ?_ ?_; rotate_left
              ·simp only [Act.put, qzA, qzB, qzC, i64_w, i32_w]
               rfl
              refine pure_ (i := 16) (N := some 54) (v := undef) (a' := ?_) spec_StoreOK.y17 rfl rfl (any_of HT_.out qa7) (fun _ _ _ h => h) (Or.inr ⟨by rfl, rfl⟩) ?_ ?_; rotate_left
              ·simp only [Act.put, qzA, qzB, qzC, i64_w, i32_w]
               rfl
              refine pure_ (i := 17) (N := some 55) (v := undef) (a' := ?_) spec_StoreOK.y18 rfl rfl (any_of HT_.out qa7) (fun _ _ _ h => h) (Or.inr ⟨by rfl, rfl⟩) ?_ ?_; rotate_left
              ·simp only [Act.put, qzA, qzB, qzC, i64_w, i32_w]
               rfl
              refine pure_ (i := 18) (N := some 56) (v := undef) (a' := ?_) spec_StoreOK.y33 rfl rfl (any_of HT_.out qa7) (fun _ _ _ h => h) (Or.inr ⟨by rfl, rfl⟩) ?_ ?_; rotate_left
              ·simp only [Act.put, qzA, qzB, qzC, i64_w, i32_w]
               rfl
              refine pure_ (i := 19) (N := some 57) (v := undef) (a' := ?_) spec_StoreOK.y34 rfl rfl (any_of HT_.out qa7) (fun _ _ _ h => h) (Or.inr ⟨by rfl, rfl⟩) ?_ ?_; rotate_left
              ·simp only [Act.put, qzA, qzB, qzC, i64_w, i32_w]
               rfl
              refine pure_ (i := 20) (N := some 58) (v := undef) (a' := ?_) spec_StoreOK.y35 rfl rfl (any_of HT_.out qa7) (fun _ _ _ h => h) (Or.inr ⟨by rfl, rfl⟩) ?_ ?_; rotate_left
              ·simp only [Act.put, qzA, qzB, qzC, i64_w, i32_w]
               rfl
              refine pure_ (i := 21) (N := some 59) (v := undef) (a' := ?_) spec_StoreOK.y36 rfl rfl (any_of HT_.out qa7) (fun _ _ _ h => h) (Or.inr ⟨by rfl, rfl⟩) ?_ ?_; rotate_left
              ·simp only [Act.put, qzA, qzB, qzC, i64_w, i32_w]
               rfl
              refine pure_ (i := 22) (N := some 60) (v := undef) (a' := ?_) spec_StoreOK.y37 rfl rfl (any_of HT_.out qa7) (fun _ _ _ h => h) (Or.inr ⟨by rfl, rfl⟩) ?_ ?_; rotate_left
              ·simp only [Act.put, qzA, qzB, qzC, i64_w, i32_w]
               rfl
              refine pure_ (i := 23) (N := some 61) (v := undef) (a' := ?_) spec_StoreOK.y38 rfl rfl (any_of HT_.out qa7) (fun _ _ _ h => h) (Or.inr ⟨by rfl, rfl⟩) ?_ ?_; rotate_left
              ·simp only [Act.put, qzA, qzB, qzC, i64_w, i32_w]
               rfl
              refine pure_ (i := 24) (N := some 62) (v := undef) (a' := ?_) spec_StoreOK.y39 rfl rfl (any_of HT_.out qa7) (fun _ _ _ h => h) (Or.inr ⟨by rfl, rfl⟩) ?_ ?_; rotate_left
              ·simp only [Act.put, qzA, qzB, qzC, i64_w, i32_w]
               rfl
              refine pure_ (i := 25) (N := some 63) (v := undef) (a' := ?_) spec_StoreOK.y40 rfl rfl (any_of HT_.out qa7) (fun _ _ _ h => h) (Or.inr ⟨by rfl, rfl⟩) ?_ ?_; rotate_left
              ·simp only [Act.put, qzA, qzB, qzC, i64_w, i32_w]
               rfl
              refine pure_ (i := 26) (N := some 64) (v := undef) (a' := ?_) spec_StoreOK.y41 rfl rfl (any_of HT_.out qa7) (fun _ _ _ h => h) (Or.inr ⟨by rfl, rfl⟩) ?_ ?_; rotate_left
              ·simp only [Act.put, qzA, qzB, qzC, i64_w, i32_w]
               rfl
              refine pure_ (i := 27) (N := some 65) (v := undef) (a' := ?_) spec_StoreOK.y28 rfl rfl (any_of HT_.out qa7) (fun _ _ _ h => h) (Or.inr ⟨by rfl, rfl⟩) ?_ ?_; rotate_left
              ·simp only [Act.put, qzA, qzB, qzC, i64_w, i32_w]
               rfl
              refine pure_ (i := 28) (N := some 66) (v := undef) (a' := ?_) spec_StoreOK.y29 rfl rfl (any_of HT_.out qa7) (fun _ _ _ h => h) (Or.inr ⟨by rfl, rfl⟩) ?_ ?_; rotate_left
              ·simp only [Act.put, qzA, qzB, qzC, i64_w, i32_w]
               rfl
              refine pure_ (i := 29) (N := some 67) (v := undef) (a' := ?_) spec_StoreOK.y30 rfl rfl (any_of HT_.out qa7) (fun _ _ _ h => h) (Or.inr ⟨by rfl, rfl⟩) ?_ ?_; rotate_left
              ·simp only [Act.put, qzA, qzB, qzC, i64_w, i32_w]
               rfl
              refine pure_ (i := 30) (N := some 68) (v := undef) (a' := ?_) spec_StoreOK.y31 rfl rfl (any_of HT_.out qa7) (fun _ _ _ h => h) (Or.inr ⟨by rfl, rfl⟩) ?_ ?_; rotate_left
              ·simp only [Act.put, qzA, qzB, qzC, i64_w, i32_w]
               rfl
              refine qPu 31 69 spec_StoreOK.y32 rfl rfl (any_of HT_.out qa7) qa10 qa3 ?_; refine done_ (done_of HT_.out qa7) ?_
              try go_wp2
              go_ret
              exact ⟨qa9, qa59⟩
            ·rw [if_neg c13] at H
             exact absurd H qa120
           ·rw [if_neg c12] at H
            have c12b0 : decide (x4_3 < ((rd_L4 l0_0 x3_2).length : Int)) = false := decide_eq_false c12; clear c12; have H' := qO H; clear H; obtain ⟨hcz53_0, hcz53_1, hfz53_0, hfz53_1⟩ := qb2 BK101.out; have p103 : 0 ≤ (x3_2 : Int) := qT qa2; have q103 : x3_2 < (l0_0.length : Int) := qT qa2; obtain ⟨ad103, A103_0, c103_0, e103, hx103_0, hl103_0, hi103_0⟩ := at_L4 HR0_0.out x3_2 p103 q103
            cases e103
            replace hx103_0 := (HB.out.cell (qL w _ hx103_0)).trans hx103_0; have HR103_0 := qO hi103_0; have HC103_0 := qO hl103_0; clear hi103_0 hl103_0; replace p103 := eq_true p103; replace q103 := eq_true q103; go_wp2
            go_roundg k3
            case measure => have := HJ1.out; have := HK2.out; have := HK3.out; omega
            case rel => exact ⟨(wrap64 (x3_2 + 1)), qa18, H', ⟨qa169⟩, ⟨qa4⟩, ⟨qa5⟩⟩
          ·rw [if_neg c11] at H
           exact absurd H qa120
         ·rw [if_neg c10] at H
          exact absurd H qa120
      ·rw [if_neg c9] at H
       have c9b0 : decide (x3_2 < 16) = false := decide_eq_false c9; clear c9; obtain rfl := Option.some.inj H; go_wp2
       go_ret
       exact ⟨qa9, qa5⟩


def spec_l06Puts.l0 : Nat → List (S58) → Int → Option (Bool)
 | 0, _, _ => none
 | k + 1, x0, x3 => if x3 < (x0.length : Int) then (if 0 ≤ x3 then ((spec_l01In.f ((rd_T58 x0 x3).f0) 0 15).bind fun t102 => (if t102 = true then ((spec_l06Value.f ((rd_T58 x0 x3).f0) ((rd_T58 x0 x3).f1)).bind fun t105 => (if t105 = true then (spec_l06Puts.l0 k x0 (wrap64 (x3 + 1))) else (some false))) else (some false))) else (none)) else (some (decide ((x0.length : Int) ≤ 400)))
def spec_l06Puts.f (k : Nat) (l0 : List (S58)) : Option (Bool) := spec_l06Puts.l0 k l0 0
set_option maxHeartbeats 8000000 in
set_option maxRecDepth 100000 in
theorem spec_l06Puts.calls (k : Nat) (A0 : Option Addr) (c0 : Nat) (l0 : List (S58)) (r : Bool) (w : World) (hr0 : Kd.C k58 w A0 l0.length l0) (hc0 : l0.length ≤ c0) (h : spec_l06Puts.f k l0 = some r) :
  Calls Try.prog 71 #[.slice A0 l0.length c0] w fun e w' => e = .returned (.bool r) ∧ Drawn0 w w' := by
 have HR0 := qO hr0; have HC0 := qO hc0; clear hr0 hc0; have H : (spec_l06Puts.l0 k l0 0) = some r := h; clear h; have H' := qO H; clear H
 go_enter Try.func71, Try.ntmps71
 go_wp2
 repeat (go_quiet (fail); try go_wp2)
 go_loopg [3] k (fun kq v3 w' => ∃ (x3_1 : Int), v3 = .int .i64 x3_1 ∧ Aside0 (spec_l06Puts.l0 kq l0 x3_1 = some r) ∧ Aside0 (kq ≤ k) ∧ Drawn0 w w')
 case atStart => exact ⟨(0), qa18, H', ⟨Nat.le_refl _⟩, qa68⟩
 case round =>
  clear H'; obtain ⟨x3_1, rfl, HA, HK1, ⟨m1, rfl⟩⟩ := hrel
  cases gk with
  | zero => exact absurd HA.out (by simp [spec_l06Puts.l0])
  | succ k1 =>
   have H := HA.out; clear HA; simp only [spec_l06Puts.l0] at H
   by_cases c2 : x3_1 < (l0.length : Int)
   ·rw [if_pos c2] at H
    have c2b0 : decide (x3_1 < (l0.length : Int)) = true := decide_eq_true c2; clear c2
    by_cases c3 : 0 ≤ x3_1
    ·rw [if_pos c3] at H
     have c3b0 : decide (0 ≤ x3_1) = true := decide_eq_true c3; clear c3; replace H := Option.bind_eq_some_iff.mp H; obtain ⟨t102, A40, H⟩ := H; replace H : (if t102 = true then ((spec_l06Value.f ((rd_T58 l0 x3_1).f0) ((rd_T58 l0 x3_1).f1)).bind fun t105 => (if t105 = true then (spec_l06Puts.l0 k1 l0 (wrap64 (x3_1 + 1))) else (some false))) else (some false)) = some r := H; have A4 := qO A40; clear A40
     by_cases c5 : t102 = true
     ·subst c5
      have H1 : ((spec_l06Value.f ((rd_T58 l0 x3_1).f0) ((rd_T58 l0 x3_1).f1)).bind fun t105 => (if t105 = true then (spec_l06Puts.l0 k1 l0 (wrap64 (x3_1 + 1))) else (some false))) = some r := by rw [if_pos rfl] at H; exact H
      clear H; have H := H1; clear H1; replace H := Option.bind_eq_some_iff.mp H; obtain ⟨t105, A60, H⟩ := H; replace H : (if t105 = true then (spec_l06Puts.l0 k1 l0 (wrap64 (x3_1 + 1))) else (some false)) = some r := H; have A6 := qO A60; clear A60
      by_cases c7 : t105 = true
      ·subst c7
       have H1 : (spec_l06Puts.l0 k1 l0 (wrap64 (x3_1 + 1))) = some r := by rw [if_pos rfl] at H; exact H
       clear H; have H := H1; clear H1; have H' := qO H; clear H; have p101 : 0 ≤ (x3_1 : Int) := qT qa2; have q101 : x3_1 < (l0.length : Int) := qT qa2; obtain ⟨ad101, e101, hx101_0, hx101_1⟩ := at_T58 HR0.out x3_1 p101 q101
       cases e101
       replace p101 := eq_true p101; replace q101 := eq_true q101
       go_wp2_with (first | (go_at_call 96; (with_reducible refine (spec_l01In.calls ((rd_T58 l0 x3_1).f0) 0 15 true _ A4.out).mono ?_); rintro e w' ⟨rfl, ⟨nd, rfl⟩⟩; (try first | exact ⟨rfl, _, World.drewN_drewN _ _ _⟩ | exact ⟨rfl, _, Eq.trans (World.drewN_drewN _ _ _) (congrArg (World.drewN _) (Nat.add_assoc _ _ _))⟩); have p103 : 0 ≤ (x3_1 : Int) := qT qa2; have q103 : x3_1 < (l0.length : Int) := qT qa2; obtain ⟨ad103, e103, hx103_0, hx103_1⟩ := at_T58 HR0.out x3_1 p103 q103; obtain rfl : ad101 = ad103 := qa215; replace p103 := eq_true p103; replace q103 := eq_true q103; have p104 : 0 ≤ (x3_1 : Int) := qT qa2; have q104 : x3_1 < (l0.length : Int) := qT qa2; obtain ⟨ad104, e104, hx104_0, hx104_1⟩ := at_T58 HR0.out x3_1 p104 q104; obtain rfl : ad101 = ad104 := qa209; replace p104 := eq_true p104; replace q104 := eq_true q104) | (go_at_call 113; (with_reducible refine (spec_l06Value.calls ((rd_T58 l0 x3_1).f0) ((rd_T58 l0 x3_1).f1) true _ A6.out).mono ?_); rintro e w' ⟨rfl, ⟨nd, rfl⟩⟩; (try first | exact ⟨rfl, _, World.drewN_drewN _ _ _⟩ | exact ⟨rfl, _, Eq.trans (World.drewN_drewN _ _ _) (congrArg (World.drewN _) (Nat.add_assoc _ _ _))⟩)))
       repeat (go_quiet (first | (go_at_call 96; (with_reducible refine (spec_l01In.calls ((rd_T58 l0 x3_1).f0) 0 15 true _ A4.out).mono ?_); rintro e w' ⟨rfl, ⟨nd, rfl⟩⟩; (try first | exact ⟨rfl, _, World.drewN_drewN _ _ _⟩ | exact ⟨rfl, _, Eq.trans (World.drewN_drewN _ _ _) (congrArg (World.drewN _) (Nat.add_assoc _ _ _))⟩); have p103 : 0 ≤ (x3_1 : Int) := qT qa2; have q103 : x3_1 < (l0.length : Int) := qT qa2; obtain ⟨ad103, e103, hx103_0, hx103_1⟩ := at_T58 HR0.out x3_1 p103 q103; obtain rfl : ad101 = ad103 := qa215; replace p103 := eq_true p103; replace q103 := eq_true q103; have p104 : 0 ≤ (x3_1 : Int) := qT qa2; have q104 : x3_1 < (l0.length : Int) := qT qa2; obtain ⟨ad104, e104, hx104_0, hx104_1⟩ := at_T58 HR0.out x3_1 p104 q104; obtain rfl : ad101 = ad104 := qa209; replace p104 := eq_true p104; replace q104 := eq_true q104) | (go_at_call 113; (with_reducible refine (spec_l06Value.calls ((rd_T58 l0 x3_1).f0) ((rd_T58 l0 x3_1).f1) true _ A6.out).mono ?_); rintro e w' ⟨rfl, ⟨nd, rfl⟩⟩; (try first | exact ⟨rfl, _, World.drewN_drewN _ _ _⟩ | exact ⟨rfl, _, Eq.trans (World.drewN_drewN _ _ _) (congrArg (World.drewN _) (Nat.add_assoc _ _ _))⟩))); try go_wp2_with (first | (go_at_call 96; (with_reducible refine (spec_l01In.calls ((rd_T58 l0 x3_1).f0) 0 15 true _ A4.out).mono ?_); rintro e w' ⟨rfl, ⟨nd, rfl⟩⟩; (try first | exact ⟨rfl, _, World.drewN_drewN _ _ _⟩ | exact ⟨rfl, _, Eq.trans (World.drewN_drewN _ _ _) (congrArg (World.drewN _) (Nat.add_assoc _ _ _))⟩); have p103 : 0 ≤ (x3_1 : Int) := qT qa2; have q103 : x3_1 < (l0.length : Int) := qT qa2; obtain ⟨ad103, e103, hx103_0, hx103_1⟩ := at_T58 HR0.out x3_1 p103 q103; obtain rfl : ad101 = ad103 := qa215; replace p103 := eq_true p103; replace q103 := eq_true q103; have p104 : 0 ≤ (x3_1 : Int) := qT qa2; have q104 : x3_1 < (l0.length : Int) := qT qa2; obtain ⟨ad104, e104, hx104_0, hx104_1⟩ := at_T58 HR0.out x3_1 p104 q104; obtain rfl : ad101 = ad104 := qa209; replace p104 := eq_true p104; replace q104 := eq_true q104) | (go_at_call 113; (with_reducible refine (spec_l06Value.calls ((rd_T58 l0 x3_1).f0) ((rd_T58 l0 x3_1).f1) true _ A6.out).mono ?_); rintro e w' ⟨rfl, ⟨nd, rfl⟩⟩; (try first | exact ⟨rfl, _, World.drewN_drewN _ _ _⟩ | exact ⟨rfl, _, Eq.trans (World.drewN_drewN _ _ _) (congrArg (World.drewN _) (Nat.add_assoc _ _ _))⟩))))
       go_roundg k1
       case measure => have := HK1.out; omega
       case rel => exact ⟨(wrap64 (x3_1 + 1)), qa18, H', ⟨qa164⟩, qa68⟩
      ·replace c7 := Bool.eq_false_iff.mpr c7
       subst c7; have H1 : (some false) = some r := by rw [if_neg (show ¬ (false = true) by decide)] at H; exact H
       clear H; have H := H1; clear H1; obtain rfl := Option.some.inj H; have p101 : 0 ≤ (x3_1 : Int) := qT qa2; have q101 : x3_1 < (l0.length : Int) := qT qa2; obtain ⟨ad101, e101, hx101_0, hx101_1⟩ := at_T58 HR0.out x3_1 p101 q101
       cases e101
       replace p101 := eq_true p101; replace q101 := eq_true q101
       go_wp2_with (first | (go_at_call 96; (with_reducible refine (spec_l01In.calls ((rd_T58 l0 x3_1).f0) 0 15 true _ A4.out).mono ?_); rintro e w' ⟨rfl, ⟨nd, rfl⟩⟩; (try first | exact ⟨rfl, _, World.drewN_drewN _ _ _⟩ | exact ⟨rfl, _, Eq.trans (World.drewN_drewN _ _ _) (congrArg (World.drewN _) (Nat.add_assoc _ _ _))⟩); have p103 : 0 ≤ (x3_1 : Int) := qT qa2; have q103 : x3_1 < (l0.length : Int) := qT qa2; obtain ⟨ad103, e103, hx103_0, hx103_1⟩ := at_T58 HR0.out x3_1 p103 q103; obtain rfl : ad101 = ad103 := qa215; replace p103 := eq_true p103; replace q103 := eq_true q103; have p104 : 0 ≤ (x3_1 : Int) := qT qa2; have q104 : x3_1 < (l0.length : Int) := qT qa2; obtain ⟨ad104, e104, hx104_0, hx104_1⟩ := at_T58 HR0.out x3_1 p104 q104; obtain rfl : ad101 = ad104 := qa209; replace p104 := eq_true p104; replace q104 := eq_true q104) | (go_at_call 113; (with_reducible refine (spec_l06Value.calls ((rd_T58 l0 x3_1).f0) ((rd_T58 l0 x3_1).f1) false _ A6.out).mono ?_); rintro e w' ⟨rfl, ⟨nd, rfl⟩⟩; (try first | exact ⟨rfl, _, World.drewN_drewN _ _ _⟩ | exact ⟨rfl, _, Eq.trans (World.drewN_drewN _ _ _) (congrArg (World.drewN _) (Nat.add_assoc _ _ _))⟩)))
       repeat (go_quiet (first | (go_at_call 96; (with_reducible refine (spec_l01In.calls ((rd_T58 l0 x3_1).f0) 0 15 true _ A4.out).mono ?_); rintro e w' ⟨rfl, ⟨nd, rfl⟩⟩; (try first | exact ⟨rfl, _, World.drewN_drewN _ _ _⟩ | exact ⟨rfl, _, Eq.trans (World.drewN_drewN _ _ _) (congrArg (World.drewN _) (Nat.add_assoc _ _ _))⟩); have p103 : 0 ≤ (x3_1 : Int) := qT qa2; have q103 : x3_1 < (l0.length : Int) := qT qa2; obtain ⟨ad103, e103, hx103_0, hx103_1⟩ := at_T58 HR0.out x3_1 p103 q103; obtain rfl : ad101 = ad103 := qa215; replace p103 := eq_true p103; replace q103 := eq_true q103; have p104 : 0 ≤ (x3_1 : Int) := qT qa2; have q104 : x3_1 < (l0.length : Int) := qT qa2; obtain ⟨ad104, e104, hx104_0, hx104_1⟩ := at_T58 HR0.out x3_1 p104 q104; obtain rfl : ad101 = ad104 := qa209; replace p104 := eq_true p104; replace q104 := eq_true q104) | (go_at_call 113; (with_reducible refine (spec_l06Value.calls ((rd_T58 l0 x3_1).f0) ((rd_T58 l0 x3_1).f1) false _ A6.out).mono ?_); rintro e w' ⟨rfl, ⟨nd, rfl⟩⟩; (try first | exact ⟨rfl, _, World.drewN_drewN _ _ _⟩ | exact ⟨rfl, _, Eq.trans (World.drewN_drewN _ _ _) (congrArg (World.drewN _) (Nat.add_assoc _ _ _))⟩))); try go_wp2_with (first | (go_at_call 96; (with_reducible refine (spec_l01In.calls ((rd_T58 l0 x3_1).f0) 0 15 true _ A4.out).mono ?_); rintro e w' ⟨rfl, ⟨nd, rfl⟩⟩; (try first | exact ⟨rfl, _, World.drewN_drewN _ _ _⟩ | exact ⟨rfl, _, Eq.trans (World.drewN_drewN _ _ _) (congrArg (World.drewN _) (Nat.add_assoc _ _ _))⟩); have p103 : 0 ≤ (x3_1 : Int) := qT qa2; have q103 : x3_1 < (l0.length : Int) := qT qa2; obtain ⟨ad103, e103, hx103_0, hx103_1⟩ := at_T58 HR0.out x3_1 p103 q103; obtain rfl : ad101 = ad103 := qa215; replace p103 := eq_true p103; replace q103 := eq_true q103; have p104 : 0 ≤ (x3_1 : Int) := qT qa2; have q104 : x3_1 < (l0.length : Int) := qT qa2; obtain ⟨ad104, e104, hx104_0, hx104_1⟩ := at_T58 HR0.out x3_1 p104 q104; obtain rfl : ad101 = ad104 := qa209; replace p104 := eq_true p104; replace q104 := eq_true q104) | (go_at_call 113; (with_reducible refine (spec_l06Value.calls ((rd_T58 l0 x3_1).f0) ((rd_T58 l0 x3_1).f1) false _ A6.out).mono ?_); rintro e w' ⟨rfl, ⟨nd, rfl⟩⟩; (try first | exact ⟨rfl, _, World.drewN_drewN _ _ _⟩ | exact ⟨rfl, _, Eq.trans (World.drewN_drewN _ _ _) (congrArg (World.drewN _) (Nat.add_assoc _ _ _))⟩))))
       go_ret
       exact ⟨qa18, qa68⟩
     ·replace c5 := Bool.eq_false_iff.mpr c5
      subst c5; have H1 : (some false) = some r := by rw [if_neg (show ¬ (false = true) by decide)] at H; exact H
      clear H; have H := H1; clear H1; obtain rfl := Option.some.inj H; have p101 : 0 ≤ (x3_1 : Int) := qT qa2; have q101 : x3_1 < (l0.length : Int) := qT qa2; obtain ⟨ad101, e101, hx101_0, hx101_1⟩ := at_T58 HR0.out x3_1 p101 q101
      cases e101
      replace p101 := eq_true p101; replace q101 := eq_true q101
      go_wp2_with (first | (go_at_call 96; (with_reducible refine (spec_l01In.calls ((rd_T58 l0 x3_1).f0) 0 15 false _ A4.out).mono ?_); rintro e w' ⟨rfl, ⟨nd, rfl⟩⟩; (try first | exact ⟨rfl, _, World.drewN_drewN _ _ _⟩ | exact ⟨rfl, _, Eq.trans (World.drewN_drewN _ _ _) (congrArg (World.drewN _) (Nat.add_assoc _ _ _))⟩)))
      repeat (go_quiet (first | (go_at_call 96; (with_reducible refine (spec_l01In.calls ((rd_T58 l0 x3_1).f0) 0 15 false _ A4.out).mono ?_); rintro e w' ⟨rfl, ⟨nd, rfl⟩⟩; (try first | exact ⟨rfl, _, World.drewN_drewN _ _ _⟩ | exact ⟨rfl, _, Eq.trans (World.drewN_drewN _ _ _) (congrArg (World.drewN _) (Nat.add_assoc _ _ _))⟩))); try go_wp2_with (first | (go_at_call 96; (with_reducible refine (spec_l01In.calls ((rd_T58 l0 x3_1).f0) 0 15 false _ A4.out).mono ?_); rintro e w' ⟨rfl, ⟨nd, rfl⟩⟩; (try first | exact ⟨rfl, _, World.drewN_drewN _ _ _⟩ | exact ⟨rfl, _, Eq.trans (World.drewN_drewN _ _ _) (congrArg (World.drewN _) (Nat.add_assoc _ _ _))⟩))))
      go_ret
      exact ⟨qa18, qa68⟩
    ·rw [if_neg c3] at H
     exact absurd H qa120
   ·rw [if_neg c2] at H
    have c2b0 : decide (x3_1 < (l0.length : Int)) = false := decide_eq_false c2; clear c2; obtain rfl := Option.some.inj H; go_wp2
    repeat (go_quiet (fail); try go_wp2)
    go_ret
    exact ⟨qa18, qa68⟩

end Go.Proofs.Ytfiboooflebdpaa.Q
