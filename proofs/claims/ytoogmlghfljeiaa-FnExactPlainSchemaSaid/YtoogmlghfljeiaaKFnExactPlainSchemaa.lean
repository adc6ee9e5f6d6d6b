/- Texts of the claim on FnExactPlainSchema, gathered by a program of this session: what the program's functions compute (proved by walks), and the plain part. -/
import Derived.Test.YtoogmlghfljeiaaProg
import Derived.Shelf.Abstract
import Derived.Lib.SliceRun
import Derived.Below
import Derived.Deep.Draws
import Derived.Deep.AppendLies
import Derived.Maps.AppendAt
import Derived.OwnWalk
import Derived.Laws.BytesArg
import Derived.Laws.MakeOwn
import Derived.Laws.OwnMore
import Derived.Deep.OwnRows
import Derived.Tactics
import Derived.Lib.ConvBytes
import Derived.Laws.Slices
import Derived.WalkKit
import Derived.KernelRfl
import Derived.RowKit3
import Derived.Deep.LoopGhost
import Derived.Deep.QuietTactic
import Derived.BigQuiet
import Derived.WideLaws
import Derived.Deep.DeepCutAuto
import Derived.Deep.CutBlock
import Derived.Deep.RegionHeld3
import Derived.Laws.Rows
import Derived.Lib.AppendStr
import Derived.ArgAppend
import Derived.Laws.IdiomCopy
import Derived.OrdersHeld
import Derived.Laws.BitsLemmas
import Derived.RowKit
import Derived.Test.YtoogmlghfljeiaaKFnExactPlainSchemaWWords
import Derived.Test.YtoogmlghfljeiaaKFnExactPlainSchemaWLast
import Derived.Test.YtoogmlghfljeiaaKFnExactPlainSchemaWTab
import Derived.Test.YtoogmlghfljeiaaKFnExactPlainSchemaWQPut
import Derived.Test.YtoogmlghfljeiaaKFnExactPlainSchemaWApart
import Derived.Test.YtoogmlghfljeiaaKFnExactPlainSchemaWArr
import Derived.Test.YtoogmlghfljeiaaKFnExactPlainSchemaWZeros
import Derived.Test.YtoogmlghfljeiaaKFnExactPlainSchemaWFoot
import Derived.Test.YtoogmlghfljeiaaKFnExactPlainSchemaWKept
import Derived.Test.YtoogmlghfljeiaaKFnExactPlainSchemaWShare
import Derived.Test.YtoogmlghfljeiaaKFnExactPlainSchemaWN
import Derived.Test.YtoogmlghfljeiaaKFnExactPlainSchemaWRepsOne
import Derived.Test.YtoogmlghfljeiaaKFnExactPlainSchemaWNEv
import Derived.Test.YtoogmlghfljeiaaKFnExactPlainSchemaWMore
import Derived.Orders
namespace Go.Proofs.Ytoogmlghfljeiaa.Q
open Go.RowKit Go.Proofs.YtoogmlghfljeiaaW.PrintWords Go.Proofs.YtoogmlghfljeiaaW.PrintLast Go.Proofs.YtoogmlghfljeiaaW.PrintMore
attribute [local go_sem] max2_int min2_int max_two min_two max_three min_three max_four min_four
set_option linter.unusedVariables false
set_option linter.unusedSimpArgs false



def errW : Option Int → Value
 | none => .nilIface
 | some c => .iface 0 (.int .i64 c)
theorem errW_none : errW none = .nilIface := rfl
theorem errW_some (c : Int) : errW (some c) = .iface 0 (.int .i64 c) := rfl

theorem info5 : (Try.prog.info? 5).map (fun i => (i.zero, i.size, i.bytes)) = some (some (.int .u8 0), 1, 1) := by kernel_rfl
theorem info9 : (Try.prog.info? 9).map (fun i => (i.zero, i.size, i.bytes)) = some (some (.string ⟨#[]⟩), 1, 16) := by kernel_rfl
theorem info38 : (Try.prog.info? 38).map (fun i => (i.zero, i.size, i.bytes)) = some (some (.agg #[(.string ⟨#[]⟩), (.slice none 0 0), (.string ⟨#[]⟩), (.bool false), (.bool false)]), 5, 64) := by kernel_rfl
theorem info53 : (Try.prog.info? 53).map (fun i => (i.zero, i.size, i.bytes)) = some (some (.agg #[(.string ⟨#[]⟩), (.slice none 0 0)]), 2, 40) := by kernel_rfl
theorem info57 : (Try.prog.info? 57).map (fun i => (i.zero, i.size, i.bytes)) = some (some (.agg #[(.string ⟨#[]⟩), (.bool false)]), 2, 24) := by kernel_rfl
-- the values' own types
/-! #### struct type 106 -/
structure S106 where
 f0 : ByteArray
 f1 : Bool
def z106 : S106 := ⟨(⟨#[]⟩ : ByteArray), false⟩
def k106 : Kd S106 := Kd.iso (Kd.pair Kd.string Kd.bool) (fun x : S106 => (x.f0, x.f1))
theorem k106_open {w : World} {x : S106} {cs : List Value} (h : k106.K w x cs) : cs = [.string x.f0, .bool x.f1] := by
 obtain ⟨_, _, rfl, rfl, rfl⟩ := h
 exact rfl
theorem k106_openM {w : World} {base : Nat} {ok : Nat → Prop} {x : S106} {cs : List Value} (h : k106.M w base ok x cs) : cs = [.string x.f0, .bool x.f1] := by
 obtain ⟨_, _, rfl, rfl, rfl⟩ := h
 exact rfl
theorem k106_mk (w : World) (x : S106)  : k106.K w x [.string x.f0, .bool x.f1] := ⟨[.string x.f0], [.bool x.f1], rfl, rfl, rfl⟩
theorem k106_mkM (w : World) (base : Nat) (ok : Nat → Prop) (x : S106)  : k106.M w base ok x [.string x.f0, .bool x.f1] := ⟨[.string x.f0], [.bool x.f1], rfl, rfl, rfl⟩
theorem k106_mkF (W : World) (ok : Nat → Prop) (x : S106) : Kd.FK k106 W ok x [.string x.f0, .bool x.f1] := fun W2 _ => k106_mk W2 x
def rd_T106 (xs : List S106) (i : Int) : S106 := xs.getD i.toNat z106
theorem at_T106 {w : World} {A : Option Addr} {n : Nat} {xs : List S106} (h : Kd.C k106 w A n xs) (i : Int) (h0 : 0 ≤ i) (h1 : i < n) : ∃ ad , A = some ad ∧ w.cell? (ad.add (i.toNat * 2)) = some (.string (rd_T106 xs i).f0) ∧ w.cell? ⟨(ad.add (i.toNat * 2)).block, (ad.add (i.toNat * 2)).off + 1, none⟩ = some (.bool (rd_T106 xs i).f1) := by
 obtain ⟨ad, c, e, _, hK, hc0⟩ := Kd.C_get h z106 i h0 h1
 have hc : ∀ j u, c[j]? = some u → w.cell? (ad.add (i.toNat * 2 + j)) = some u := hc0
 obtain rfl := k106_open hK
 exact ⟨ad, e, hc 0 _ rfl, by rw [← add_field _ _ 1 (by omega)]; exact hc 1 _ rfl⟩

def rd_L3 (xs : List (List S106)) (i : Int) : (List S106) := xs.getD i.toNat ([] : List S106)
theorem at_L3 {w : World} {A : Option Addr} {n : Nat} {xs : List (List S106)} (h : Kd.C (Kd.slice 106 k106) w A n xs) (i : Int) (h0 : 0 ≤ i) (h1 : i < n) : ∃ ad A0 c0, A = some ad ∧ w.cell? (ad.add i.toNat) = some (.slice A0 (rd_L3 xs i).length c0) ∧ (rd_L3 xs i).length ≤ c0 ∧ k106.C w A0 (rd_L3 xs i).length (rd_L3 xs i) := by
 obtain ⟨ad, c, e, _, hK, hc0⟩ := Kd.C_get h ([] : List S106) i h0 h1
 have hc : ∀ j u, c[j]? = some u → w.cell? (ad.add (i.toNat * 1 + j)) = some u := hc0
 obtain ⟨A0, c0, rfl, l0, g0⟩ := hK
 exact ⟨ad, A0, c0, e, by have hq := hc 0 _ rfl; rwa [Nat.mul_one, Nat.add_zero] at hq, l0, g0⟩

/-! #### struct type 101 -/
structure S101 where
 f0 : ByteArray
 f1 : (List S106)
 f2 : ByteArray
 f3 : Bool
 f4 : Bool
def z101 : S101 := ⟨(⟨#[]⟩ : ByteArray), ([] : List S106), (⟨#[]⟩ : ByteArray), false, false⟩
def k101 : Kd S101 := Kd.iso (Kd.pair Kd.string (Kd.pair (Kd.slice 106 k106) (Kd.pair Kd.string (Kd.pair Kd.bool Kd.bool)))) (fun x : S101 => (x.f0, x.f1, x.f2, x.f3, x.f4))
theorem k101_open {w : World} {x : S101} {cs : List Value} (h : k101.K w x cs) : ∃ A1 c1, cs = [.string x.f0, .slice A1 x.f1.length c1, .string x.f2, .bool x.f3, .bool x.f4] ∧ x.f1.length ≤ c1 ∧ k106.C w A1 x.f1.length x.f1 := by
 obtain ⟨_, _, rfl, rfl, ⟨_, _, rfl, ⟨A1, c1, rfl, l1, g1⟩, ⟨_, _, rfl, rfl, ⟨_, _, rfl, rfl, rfl⟩⟩⟩⟩ := h
 exact ⟨A1, c1, rfl, l1, g1⟩
theorem k101_openM {w : World} {base : Nat} {ok : Nat → Prop} {x : S101} {cs : List Value} (h : k101.M w base ok x cs) : ∃ v1, cs = [.string x.f0, v1, .string x.f2, .bool x.f3, .bool x.f4] ∧ k106.R 106 w base ok v1 x.f1 := by
 obtain ⟨_, _, rfl, rfl, ⟨_, _, rfl, ⟨v1, rfl, g1⟩, ⟨_, _, rfl, rfl, ⟨_, _, rfl, rfl, rfl⟩⟩⟩⟩ := h
 exact ⟨v1, rfl, g1⟩
theorem k101_mk (w : World) (x : S101) {A1 : Option Addr} {c1 : Nat} (l1 : x.f1.length ≤ c1) (g1 : k106.C w A1 x.f1.length x.f1) : k101.K w x [.string x.f0, .slice A1 x.f1.length c1, .string x.f2, .bool x.f3, .bool x.f4] := ⟨[.string x.f0], [.slice A1 x.f1.length c1, .string x.f2, .bool x.f3, .bool x.f4], rfl, rfl, ⟨[.slice A1 x.f1.length c1], [.string x.f2, .bool x.f3, .bool x.f4], rfl, ⟨A1, c1, rfl, l1, g1⟩, ⟨[.string x.f2], [.bool x.f3, .bool x.f4], rfl, rfl, ⟨[.bool x.f3], [.bool x.f4], rfl, rfl, rfl⟩⟩⟩⟩
theorem k101_mkM (w : World) (base : Nat) (ok : Nat → Prop) (x : S101) {v1 : Value} (g1 : k106.R 106 w base ok v1 x.f1) : k101.M w base ok x [.string x.f0, v1, .string x.f2, .bool x.f3, .bool x.f4] := ⟨[.string x.f0], [v1, .string x.f2, .bool x.f3, .bool x.f4], rfl, rfl, ⟨[v1], [.string x.f2, .bool x.f3, .bool x.f4], rfl, ⟨v1, rfl, g1⟩, ⟨[.string x.f2], [.bool x.f3, .bool x.f4], rfl, rfl, ⟨[.bool x.f3], [.bool x.f4], rfl, rfl, rfl⟩⟩⟩⟩
theorem k101_openF {W : World} {ok : Nat → Prop} {x : S101} {cs : List Value} (h : Kd.FK k101 W ok x cs) : ∃ A1 c1, cs = [.string x.f0, .slice A1 x.f1.length c1, .string x.f2, .bool x.f3, .bool x.f4] ∧ x.f1.length ≤ c1 ∧ Kd.F k106 W ok A1 x.f1.length x.f1 := by
 obtain ⟨A1, c1, rfl, l1, _⟩ := k101_open (Kd.FK_now h)
 exact ⟨A1, c1, rfl, l1, (fun W' hW => by obtain ⟨A1_, c1_, he, l1_, g1_⟩ := k101_open (h W' hW); injection (Option.some.inj (show some (Value.slice A1 x.f1.length c1) = some (Value.slice A1_ x.f1.length c1_) from congrArg (fun l => l[1]?) he)) with ha_ _ _; rw [ha_]; exact g1_)⟩
theorem k101_mkF (W : World) (ok : Nat → Prop) (x : S101) {A1 : Option Addr} {c1 : Nat} (l1 : x.f1.length ≤ c1) (g1 : Kd.F k106 W ok A1 x.f1.length x.f1) : Kd.FK k101 W ok x [.string x.f0, .slice A1 x.f1.length c1, .string x.f2, .bool x.f3, .bool x.f4] := fun W2 hW => k101_mk W2 x l1 (g1 W2 hW)
def rd_T101 (xs : List S101) (i : Int) : S101 := xs.getD i.toNat z101
theorem at_T101 {w : World} {A : Option Addr} {n : Nat} {xs : List S101} (h : Kd.C k101 w A n xs) (i : Int) (h0 : 0 ≤ i) (h1 : i < n) : ∃ ad A1 c1, A = some ad ∧ w.cell? (ad.add (i.toNat * 5)) = some (.string (rd_T101 xs i).f0) ∧ w.cell? ⟨(ad.add (i.toNat * 5)).block, (ad.add (i.toNat * 5)).off + 1, none⟩ = some (.slice A1 (rd_T101 xs i).f1.length c1) ∧ w.cell? ⟨(ad.add (i.toNat * 5)).block, (ad.add (i.toNat * 5)).off + 2, none⟩ = some (.string (rd_T101 xs i).f2) ∧ w.cell? ⟨(ad.add (i.toNat * 5)).block, (ad.add (i.toNat * 5)).off + 3, none⟩ = some (.bool (rd_T101 xs i).f3) ∧ w.cell? ⟨(ad.add (i.toNat * 5)).block, (ad.add (i.toNat * 5)).off + 4, none⟩ = some (.bool (rd_T101 xs i).f4) ∧ (rd_T101 xs i).f1.length ≤ c1 ∧ k106.C w A1 (rd_T101 xs i).f1.length (rd_T101 xs i).f1 := by
 obtain ⟨ad, c, e, _, hK, hc0⟩ := Kd.C_get h z101 i h0 h1
 have hc : ∀ j u, c[j]? = some u → w.cell? (ad.add (i.toNat * 5 + j)) = some u := hc0
 obtain ⟨A1, c1, rfl, l1, g1⟩ := k101_open hK
 exact ⟨ad, A1, c1, e, hc 0 _ rfl, by rw [← add_field _ _ 1 (by omega)]; exact hc 1 _ rfl, by rw [← add_field _ _ 2 (by omega)]; exact hc 2 _ rfl, by rw [← add_field _ _ 3 (by omega)]; exact hc 3 _ rfl, by rw [← add_field _ _ 4 (by omega)]; exact hc 4 _ rfl, l1, g1⟩

def rd_L5 (xs : List (List S101)) (i : Int) : (List S101) := xs.getD i.toNat ([] : List S101)
theorem at_L5 {w : World} {A : Option Addr} {n : Nat} {xs : List (List S101)} (h : Kd.C (Kd.slice 101 k101) w A n xs) (i : Int) (h0 : 0 ≤ i) (h1 : i < n) : ∃ ad A0 c0, A = some ad ∧ w.cell? (ad.add i.toNat) = some (.slice A0 (rd_L5 xs i).length c0) ∧ (rd_L5 xs i).length ≤ c0 ∧ k101.C w A0 (rd_L5 xs i).length (rd_L5 xs i) := by
 obtain ⟨ad, c, e, _, hK, hc0⟩ := Kd.C_get h ([] : List S101) i h0 h1
 have hc : ∀ j u, c[j]? = some u → w.cell? (ad.add (i.toNat * 1 + j)) = some u := hc0
 obtain ⟨A0, c0, rfl, l0, g0⟩ := hK
 exact ⟨ad, A0, c0, e, by have hq := hc 0 _ rfl; rwa [Nat.mul_one, Nat.add_zero] at hq, l0, g0⟩

/-! #### struct type 77 -/
structure S77 where
 f0 : ByteArray
 f1 : (List S101)
def z77 : S77 := ⟨(⟨#[]⟩ : ByteArray), ([] : List S101)⟩
def k77 : Kd S77 := Kd.iso (Kd.pair Kd.string (Kd.slice 101 k101)) (fun x : S77 => (x.f0, x.f1))
theorem k77_open {w : World} {x : S77} {cs : List Value} (h : k77.K w x cs) : ∃ A1 c1, cs = [.string x.f0, .slice A1 x.f1.length c1] ∧ x.f1.length ≤ c1 ∧ k101.C w A1 x.f1.length x.f1 := by
 obtain ⟨_, _, rfl, rfl, ⟨A1, c1, rfl, l1, g1⟩⟩ := h
 exact ⟨A1, c1, rfl, l1, g1⟩
theorem k77_openM {w : World} {base : Nat} {ok : Nat → Prop} {x : S77} {cs : List Value} (h : k77.M w base ok x cs) : ∃ v1, cs = [.string x.f0, v1] ∧ k101.R 101 w base ok v1 x.f1 := by
 obtain ⟨_, _, rfl, rfl, ⟨v1, rfl, g1⟩⟩ := h
 exact ⟨v1, rfl, g1⟩
theorem k77_mk (w : World) (x : S77) {A1 : Option Addr} {c1 : Nat} (l1 : x.f1.length ≤ c1) (g1 : k101.C w A1 x.f1.length x.f1) : k77.K w x [.string x.f0, .slice A1 x.f1.length c1] := ⟨[.string x.f0], [.slice A1 x.f1.length c1], rfl, rfl, ⟨A1, c1, rfl, l1, g1⟩⟩
theorem k77_mkM (w : World) (base : Nat) (ok : Nat → Prop) (x : S77) {v1 : Value} (g1 : k101.R 101 w base ok v1 x.f1) : k77.M w base ok x [.string x.f0, v1] := ⟨[.string x.f0], [v1], rfl, rfl, ⟨v1, rfl, g1⟩⟩
theorem k77_openF {W : World} {ok : Nat → Prop} {x : S77} {cs : List Value} (h : Kd.FK k77 W ok x cs) : ∃ A1 c1, cs = [.string x.f0, .slice A1 x.f1.length c1] ∧ x.f1.length ≤ c1 ∧ Kd.F k101 W ok A1 x.f1.length x.f1 := by
 obtain ⟨A1, c1, rfl, l1, _⟩ := k77_open (Kd.FK_now h)
 exact ⟨A1, c1, rfl, l1, (fun W' hW => by obtain ⟨A1_, c1_, he, l1_, g1_⟩ := k77_open (h W' hW); injection (Option.some.inj (show some (Value.slice A1 x.f1.length c1) = some (Value.slice A1_ x.f1.length c1_) from congrArg (fun l => l[1]?) he)) with ha_ _ _; rw [ha_]; exact g1_)⟩
theorem k77_mkF (W : World) (ok : Nat → Prop) (x : S77) {A1 : Option Addr} {c1 : Nat} (l1 : x.f1.length ≤ c1) (g1 : Kd.F k101 W ok A1 x.f1.length x.f1) : Kd.FK k77 W ok x [.string x.f0, .slice A1 x.f1.length c1] := fun W2 hW => k77_mk W2 x l1 (g1 W2 hW)
def rd_T77 (xs : List S77) (i : Int) : S77 := xs.getD i.toNat z77
theorem at_T77 {w : World} {A : Option Addr} {n : Nat} {xs : List S77} (h : Kd.C k77 w A n xs) (i : Int) (h0 : 0 ≤ i) (h1 : i < n) : ∃ ad A1 c1, A = some ad ∧ w.cell? (ad.add (i.toNat * 2)) = some (.string (rd_T77 xs i).f0) ∧ w.cell? ⟨(ad.add (i.toNat * 2)).block, (ad.add (i.toNat * 2)).off + 1, none⟩ = some (.slice A1 (rd_T77 xs i).f1.length c1) ∧ (rd_T77 xs i).f1.length ≤ c1 ∧ k101.C w A1 (rd_T77 xs i).f1.length (rd_T77 xs i).f1 := by
 obtain ⟨ad, c, e, _, hK, hc0⟩ := Kd.C_get h z77 i h0 h1
 have hc : ∀ j u, c[j]? = some u → w.cell? (ad.add (i.toNat * 2 + j)) = some u := hc0
 obtain ⟨A1, c1, rfl, l1, g1⟩ := k77_open hK
 exact ⟨ad, A1, c1, e, hc 0 _ rfl, by rw [← add_field _ _ 1 (by omega)]; exact hc 1 _ rfl, l1, g1⟩

/-! #### struct type 57 -/
structure S57 where
 f0 : ByteArray
 f1 : Bool
def z57 : S57 := ⟨(⟨#[]⟩ : ByteArray), false⟩
def k57 : Kd S57 := Kd.iso (Kd.pair Kd.string Kd.bool) (fun x : S57 => (x.f0, x.f1))
theorem k57_open {w : World} {x : S57} {cs : List Value} (h : k57.K w x cs) : cs = [.string x.f0, .bool x.f1] := by
 obtain ⟨_, _, rfl, rfl, rfl⟩ := h
 exact rfl
theorem k57_openM {w : World} {base : Nat} {ok : Nat → Prop} {x : S57} {cs : List Value} (h : k57.M w base ok x cs) : cs = [.string x.f0, .bool x.f1] := by
 obtain ⟨_, _, rfl, rfl, rfl⟩ := h
 exact rfl
theorem k57_mk (w : World) (x : S57)  : k57.K w x [.string x.f0, .bool x.f1] := ⟨[.string x.f0], [.bool x.f1], rfl, rfl, rfl⟩
theorem k57_mkM (w : World) (base : Nat) (ok : Nat → Prop) (x : S57)  : k57.M w base ok x [.string x.f0, .bool x.f1] := ⟨[.string x.f0], [.bool x.f1], rfl, rfl, rfl⟩
theorem k57_mkF (W : World) (ok : Nat → Prop) (x : S57) : Kd.FK k57 W ok x [.string x.f0, .bool x.f1] := fun W2 _ => k57_mk W2 x
def rd_T57 (xs : List S57) (i : Int) : S57 := xs.getD i.toNat z57
theorem at_T57 {w : World} {A : Option Addr} {n : Nat} {xs : List S57} (h : Kd.C k57 w A n xs) (i : Int) (h0 : 0 ≤ i) (h1 : i < n) : ∃ ad , A = some ad ∧ w.cell? (ad.add (i.toNat * 2)) = some (.string (rd_T57 xs i).f0) ∧ w.cell? ⟨(ad.add (i.toNat * 2)).block, (ad.add (i.toNat * 2)).off + 1, none⟩ = some (.bool (rd_T57 xs i).f1) := by
 obtain ⟨ad, c, e, _, hK, hc0⟩ := Kd.C_get h z57 i h0 h1
 have hc : ∀ j u, c[j]? = some u → w.cell? (ad.add (i.toNat * 2 + j)) = some u := hc0
 obtain rfl := k57_open hK
 exact ⟨ad, e, hc 0 _ rfl, by rw [← add_field _ _ 1 (by omega)]; exact hc 1 _ rfl⟩

def rd_L8 (xs : List (List S57)) (i : Int) : (List S57) := xs.getD i.toNat ([] : List S57)
theorem at_L8 {w : World} {A : Option Addr} {n : Nat} {xs : List (List S57)} (h : Kd.C (Kd.slice 57 k57) w A n xs) (i : Int) (h0 : 0 ≤ i) (h1 : i < n) : ∃ ad A0 c0, A = some ad ∧ w.cell? (ad.add i.toNat) = some (.slice A0 (rd_L8 xs i).length c0) ∧ (rd_L8 xs i).length ≤ c0 ∧ k57.C w A0 (rd_L8 xs i).length (rd_L8 xs i) := by
 obtain ⟨ad, c, e, _, hK, hc0⟩ := Kd.C_get h ([] : List S57) i h0 h1
 have hc : ∀ j u, c[j]? = some u → w.cell? (ad.add (i.toNat * 1 + j)) = some u := hc0
 obtain ⟨A0, c0, rfl, l0, g0⟩ := hK
 exact ⟨ad, A0, c0, e, by have hq := hc 0 _ rfl; rwa [Nat.mul_one, Nat.add_zero] at hq, l0, g0⟩

/-! #### struct type 38 -/
structure S38 where
 f0 : ByteArray
 f1 : (List S57)
 f2 : ByteArray
 f3 : Bool
 f4 : Bool
def z38 : S38 := ⟨(⟨#[]⟩ : ByteArray), ([] : List S57), (⟨#[]⟩ : ByteArray), false, false⟩
def k38 : Kd S38 := Kd.iso (Kd.pair Kd.string (Kd.pair (Kd.slice 57 k57) (Kd.pair Kd.string (Kd.pair Kd.bool Kd.bool)))) (fun x : S38 => (x.f0, x.f1, x.f2, x.f3, x.f4))
theorem k38_open {w : World} {x : S38} {cs : List Value} (h : k38.K w x cs) : ∃ A1 c1, cs = [.string x.f0, .slice A1 x.f1.length c1, .string x.f2, .bool x.f3, .bool x.f4] ∧ x.f1.length ≤ c1 ∧ k57.C w A1 x.f1.length x.f1 := by
 obtain ⟨_, _, rfl, rfl, ⟨_, _, rfl, ⟨A1, c1, rfl, l1, g1⟩, ⟨_, _, rfl, rfl, ⟨_, _, rfl, rfl, rfl⟩⟩⟩⟩ := h
 exact ⟨A1, c1, rfl, l1, g1⟩
theorem k38_openM {w : World} {base : Nat} {ok : Nat → Prop} {x : S38} {cs : List Value} (h : k38.M w base ok x cs) : ∃ v1, cs = [.string x.f0, v1, .string x.f2, .bool x.f3, .bool x.f4] ∧ k57.R 57 w base ok v1 x.f1 := by
 obtain ⟨_, _, rfl, rfl, ⟨_, _, rfl, ⟨v1, rfl, g1⟩, ⟨_, _, rfl, rfl, ⟨_, _, rfl, rfl, rfl⟩⟩⟩⟩ := h
 exact ⟨v1, rfl, g1⟩
theorem k38_mk (w : World) (x : S38) {A1 : Option Addr} {c1 : Nat} (l1 : x.f1.length ≤ c1) (g1 : k57.C w A1 x.f1.length x.f1) : k38.K w x [.string x.f0, .slice A1 x.f1.length c1, .string x.f2, .bool x.f3, .bool x.f4] := ⟨[.string x.f0], [.slice A1 x.f1.length c1, .string x.f2, .bool x.f3, .bool x.f4], rfl, rfl, ⟨[.slice A1 x.f1.length c1], [.string x.f2, .bool x.f3, .bool x.f4], rfl, ⟨A1, c1, rfl, l1, g1⟩, ⟨[.string x.f2], [.bool x.f3, .bool x.f4], rfl, rfl, ⟨[.bool x.f3], [.bool x.f4], rfl, rfl, rfl⟩⟩⟩⟩
theorem k38_mkM (w : World) (base : Nat) (ok : Nat → Prop) (x : S38) {v1 : Value} (g1 : k57.R 57 w base ok v1 x.f1) : k38.M w base ok x [.string x.f0, v1, .string x.f2, .bool x.f3, .bool x.f4] := ⟨[.string x.f0], [v1, .string x.f2, .bool x.f3, .bool x.f4], rfl, rfl, ⟨[v1], [.string x.f2, .bool x.f3, .bool x.f4], rfl, ⟨v1, rfl, g1⟩, ⟨[.string x.f2], [.bool x.f3, .bool x.f4], rfl, rfl, ⟨[.bool x.f3], [.bool x.f4], rfl, rfl, rfl⟩⟩⟩⟩
theorem k38_openF {W : World} {ok : Nat → Prop} {x : S38} {cs : List Value} (h : Kd.FK k38 W ok x cs) : ∃ A1 c1, cs = [.string x.f0, .slice A1 x.f1.length c1, .string x.f2, .bool x.f3, .bool x.f4] ∧ x.f1.length ≤ c1 ∧ Kd.F k57 W ok A1 x.f1.length x.f1 := by
 obtain ⟨A1, c1, rfl, l1, _⟩ := k38_open (Kd.FK_now h)
 exact ⟨A1, c1, rfl, l1, (fun W' hW => by obtain ⟨A1_, c1_, he, l1_, g1_⟩ := k38_open (h W' hW); injection (Option.some.inj (show some (Value.slice A1 x.f1.length c1) = some (Value.slice A1_ x.f1.length c1_) from congrArg (fun l => l[1]?) he)) with ha_ _ _; rw [ha_]; exact g1_)⟩
theorem k38_mkF (W : World) (ok : Nat → Prop) (x : S38) {A1 : Option Addr} {c1 : Nat} (l1 : x.f1.length ≤ c1) (g1 : Kd.F k57 W ok A1 x.f1.length x.f1) : Kd.FK k38 W ok x [.string x.f0, .slice A1 x.f1.length c1, .string x.f2, .bool x.f3, .bool x.f4] := fun W2 hW => k38_mk W2 x l1 (g1 W2 hW)
def rd_T38 (xs : List S38) (i : Int) : S38 := xs.getD i.toNat z38
theorem at_T38 {w : World} {A : Option Addr} {n : Nat} {xs : List S38} (h : Kd.C k38 w A n xs) (i : Int) (h0 : 0 ≤ i) (h1 : i < n) : ∃ ad A1 c1, A = some ad ∧ w.cell? (ad.add (i.toNat * 5)) = some (.string (rd_T38 xs i).f0) ∧ w.cell? ⟨(ad.add (i.toNat * 5)).block, (ad.add (i.toNat * 5)).off + 1, none⟩ = some (.slice A1 (rd_T38 xs i).f1.length c1) ∧ w.cell? ⟨(ad.add (i.toNat * 5)).block, (ad.add (i.toNat * 5)).off + 2, none⟩ = some (.string (rd_T38 xs i).f2) ∧ w.cell? ⟨(ad.add (i.toNat * 5)).block, (ad.add (i.toNat * 5)).off + 3, none⟩ = some (.bool (rd_T38 xs i).f3) ∧ w.cell? ⟨(ad.add (i.toNat * 5)).block, (ad.add (i.toNat * 5)).off + 4, none⟩ = some (.bool (rd_T38 xs i).f4) ∧ (rd_T38 xs i).f1.length ≤ c1 ∧ k57.C w A1 (rd_T38 xs i).f1.length (rd_T38 xs i).f1 := by
 obtain ⟨ad, c, e, _, hK, hc0⟩ := Kd.C_get h z38 i h0 h1
 have hc : ∀ j u, c[j]? = some u → w.cell? (ad.add (i.toNat * 5 + j)) = some u := hc0
 obtain ⟨A1, c1, rfl, l1, g1⟩ := k38_open hK
 exact ⟨ad, A1, c1, e, hc 0 _ rfl, by rw [← add_field _ _ 1 (by omega)]; exact hc 1 _ rfl, by rw [← add_field _ _ 2 (by omega)]; exact hc 2 _ rfl, by rw [← add_field _ _ 3 (by omega)]; exact hc 3 _ rfl, by rw [← add_field _ _ 4 (by omega)]; exact hc 4 _ rfl, l1, g1⟩

def rd_L10 (xs : List (List S38)) (i : Int) : (List S38) := xs.getD i.toNat ([] : List S38)
theorem at_L10 {w : World} {A : Option Addr} {n : Nat} {xs : List (List S38)} (h : Kd.C (Kd.slice 38 k38) w A n xs) (i : Int) (h0 : 0 ≤ i) (h1 : i < n) : ∃ ad A0 c0, A = some ad ∧ w.cell? (ad.add i.toNat) = some (.slice A0 (rd_L10 xs i).length c0) ∧ (rd_L10 xs i).length ≤ c0 ∧ k38.C w A0 (rd_L10 xs i).length (rd_L10 xs i) := by
 obtain ⟨ad, c, e, _, hK, hc0⟩ := Kd.C_get h ([] : List S38) i h0 h1
 have hc : ∀ j u, c[j]? = some u → w.cell? (ad.add (i.toNat * 1 + j)) = some u := hc0
 obtain ⟨A0, c0, rfl, l0, g0⟩ := hK
 exact ⟨ad, A0, c0, e, by have hq := hc 0 _ rfl; rwa [Nat.mul_one, Nat.add_zero] at hq, l0, g0⟩

/-! #### struct type 53 -/
structure S53 where
 f0 : ByteArray
 f1 : (List S38)
def z53 : S53 := ⟨(⟨#[]⟩ : ByteArray), ([] : List S38)⟩
def k53 : Kd S53 := Kd.iso (Kd.pair Kd.string (Kd.slice 38 k38)) (fun x : S53 => (x.f0, x.f1))
theorem k53_open {w : World} {x : S53} {cs : List Value} (h : k53.K w x cs) : ∃ A1 c1, cs = [.string x.f0, .slice A1 x.f1.length c1] ∧ x.f1.length ≤ c1 ∧ k38.C w A1 x.f1.length x.f1 := by
 obtain ⟨_, _, rfl, rfl, ⟨A1, c1, rfl, l1, g1⟩⟩ := h
 exact ⟨A1, c1, rfl, l1, g1⟩
theorem k53_openM {w : World} {base : Nat} {ok : Nat → Prop} {x : S53} {cs : List Value} (h : k53.M w base ok x cs) : ∃ v1, cs = [.string x.f0, v1] ∧ k38.R 38 w base ok v1 x.f1 := by
 obtain ⟨_, _, rfl, rfl, ⟨v1, rfl, g1⟩⟩ := h
 exact ⟨v1, rfl, g1⟩
theorem k53_mk (w : World) (x : S53) {A1 : Option Addr} {c1 : Nat} (l1 : x.f1.length ≤ c1) (g1 : k38.C w A1 x.f1.length x.f1) : k53.K w x [.string x.f0, .slice A1 x.f1.length c1] := ⟨[.string x.f0], [.slice A1 x.f1.length c1], rfl, rfl, ⟨A1, c1, rfl, l1, g1⟩⟩
theorem k53_mkM (w : World) (base : Nat) (ok : Nat → Prop) (x : S53) {v1 : Value} (g1 : k38.R 38 w base ok v1 x.f1) : k53.M w base ok x [.string x.f0, v1] := ⟨[.string x.f0], [v1], rfl, rfl, ⟨v1, rfl, g1⟩⟩
theorem k53_openF {W : World} {ok : Nat → Prop} {x : S53} {cs : List Value} (h : Kd.FK k53 W ok x cs) : ∃ A1 c1, cs = [.string x.f0, .slice A1 x.f1.length c1] ∧ x.f1.length ≤ c1 ∧ Kd.F k38 W ok A1 x.f1.length x.f1 := by
 obtain ⟨A1, c1, rfl, l1, _⟩ := k53_open (Kd.FK_now h)
 exact ⟨A1, c1, rfl, l1, (fun W' hW => by obtain ⟨A1_, c1_, he, l1_, g1_⟩ := k53_open (h W' hW); injection (Option.some.inj (show some (Value.slice A1 x.f1.length c1) = some (Value.slice A1_ x.f1.length c1_) from congrArg (fun l => l[1]?) he)) with ha_ _ _; rw [ha_]; exact g1_)⟩
theorem k53_mkF (W : World) (ok : Nat → Prop) (x : S53) {A1 : Option Addr} {c1 : Nat} (l1 : x.f1.length ≤ c1) (g1 : Kd.F k38 W ok A1 x.f1.length x.f1) : Kd.FK k53 W ok x [.string x.f0, .slice A1 x.f1.length c1] := fun W2 hW => k53_mk W2 x l1 (g1 W2 hW)
def rd_T53 (xs : List S53) (i : Int) : S53 := xs.getD i.toNat z53
theorem at_T53 {w : World} {A : Option Addr} {n : Nat} {xs : List S53} (h : Kd.C k53 w A n xs) (i : Int) (h0 : 0 ≤ i) (h1 : i < n) : ∃ ad A1 c1, A = some ad ∧ w.cell? (ad.add (i.toNat * 2)) = some (.string (rd_T53 xs i).f0) ∧ w.cell? ⟨(ad.add (i.toNat * 2)).block, (ad.add (i.toNat * 2)).off + 1, none⟩ = some (.slice A1 (rd_T53 xs i).f1.length c1) ∧ (rd_T53 xs i).f1.length ≤ c1 ∧ k38.C w A1 (rd_T53 xs i).f1.length (rd_T53 xs i).f1 := by
 obtain ⟨ad, c, e, _, hK, hc0⟩ := Kd.C_get h z53 i h0 h1
 have hc : ∀ j u, c[j]? = some u → w.cell? (ad.add (i.toNat * 2 + j)) = some u := hc0
 obtain ⟨A1, c1, rfl, l1, g1⟩ := k53_open hK
 exact ⟨ad, A1, c1, e, hc 0 _ rfl, by rw [← add_field _ _ 1 (by omega)]; exact hc 1 _ rfl, l1, g1⟩

def rd_L12 (xs : List (List S53)) (i : Int) : (List S53) := xs.getD i.toNat ([] : List S53)
theorem at_L12 {w : World} {A : Option Addr} {n : Nat} {xs : List (List S53)} (h : Kd.C (Kd.slice 53 k53) w A n xs) (i : Int) (h0 : 0 ≤ i) (h1 : i < n) : ∃ ad A0 c0, A = some ad ∧ w.cell? (ad.add i.toNat) = some (.slice A0 (rd_L12 xs i).length c0) ∧ (rd_L12 xs i).length ≤ c0 ∧ k53.C w A0 (rd_L12 xs i).length (rd_L12 xs i) := by
 obtain ⟨ad, c, e, _, hK, hc0⟩ := Kd.C_get h ([] : List S53) i h0 h1
 have hc : ∀ j u, c[j]? = some u → w.cell? (ad.add (i.toNat * 1 + j)) = some u := hc0
 obtain ⟨A0, c0, rfl, l0, g0⟩ := hK
 exact ⟨ad, A0, c0, e, by have hq := hc 0 _ rfl; rwa [Nat.mul_one, Nat.add_zero] at hq, l0, g0⟩

def rd_L14 (xs : List (List S77)) (i : Int) : (List S77) := xs.getD i.toNat ([] : List S77)
theorem at_L14 {w : World} {A : Option Addr} {n : Nat} {xs : List (List S77)} (h : Kd.C (Kd.slice 77 k77) w A n xs) (i : Int) (h0 : 0 ≤ i) (h1 : i < n) : ∃ ad A0 c0, A = some ad ∧ w.cell? (ad.add i.toNat) = some (.slice A0 (rd_L14 xs i).length c0) ∧ (rd_L14 xs i).length ≤ c0 ∧ k77.C w A0 (rd_L14 xs i).length (rd_L14 xs i) := by
 obtain ⟨ad, c, e, _, hK, hc0⟩ := Kd.C_get h ([] : List S77) i h0 h1
 have hc : ∀ j u, c[j]? = some u → w.cell? (ad.add (i.toNat * 1 + j)) = some u := hc0
 obtain ⟨A0, c0, rfl, l0, g0⟩ := hK
 exact ⟨ad, A0, c0, e, by have hq := hc 0 _ rfl; rwa [Nat.mul_one, Nat.add_zero] at hq, l0, g0⟩

/-! #### struct type 24 -/
structure S24 where
 f0 : (List S77)
def z24 : S24 := ⟨([] : List S77)⟩
def k24 : Kd S24 := Kd.iso (Kd.slice 77 k77) (fun x : S24 => x.f0)
theorem k24_open {w : World} {x : S24} {cs : List Value} (h : k24.K w x cs) : ∃ A0 c0, cs = [.slice A0 x.f0.length c0] ∧ x.f0.length ≤ c0 ∧ k77.C w A0 x.f0.length x.f0 := by
 obtain ⟨A0, c0, rfl, l0, g0⟩ := h
 exact ⟨A0, c0, rfl, l0, g0⟩
theorem k24_openM {w : World} {base : Nat} {ok : Nat → Prop} {x : S24} {cs : List Value} (h : k24.M w base ok x cs) : ∃ v0, cs = [v0] ∧ k77.R 77 w base ok v0 x.f0 := by
 obtain ⟨v0, rfl, g0⟩ := h
 exact ⟨v0, rfl, g0⟩
theorem k24_mk (w : World) (x : S24) {A0 : Option Addr} {c0 : Nat} (l0 : x.f0.length ≤ c0) (g0 : k77.C w A0 x.f0.length x.f0) : k24.K w x [.slice A0 x.f0.length c0] := ⟨A0, c0, rfl, l0, g0⟩
theorem k24_mkM (w : World) (base : Nat) (ok : Nat → Prop) (x : S24) {v0 : Value} (g0 : k77.R 77 w base ok v0 x.f0) : k24.M w base ok x [v0] := ⟨v0, rfl, g0⟩
theorem k24_openF {W : World} {ok : Nat → Prop} {x : S24} {cs : List Value} (h : Kd.FK k24 W ok x cs) : ∃ A0 c0, cs = [.slice A0 x.f0.length c0] ∧ x.f0.length ≤ c0 ∧ Kd.F k77 W ok A0 x.f0.length x.f0 := by
 obtain ⟨A0, c0, rfl, l0, _⟩ := k24_open (Kd.FK_now h)
 exact ⟨A0, c0, rfl, l0, (fun W' hW => by obtain ⟨A0_, c0_, he, l0_, g0_⟩ := k24_open (h W' hW); injection (Option.some.inj (show some (Value.slice A0 x.f0.length c0) = some (Value.slice A0_ x.f0.length c0_) from congrArg (fun l => l[0]?) he)) with ha_ _ _; rw [ha_]; exact g0_)⟩
theorem k24_mkF (W : World) (ok : Nat → Prop) (x : S24) {A0 : Option Addr} {c0 : Nat} (l0 : x.f0.length ≤ c0) (g0 : Kd.F k77 W ok A0 x.f0.length x.f0) : Kd.FK k24 W ok x [.slice A0 x.f0.length c0] := fun W2 hW => k24_mk W2 x l0 (g0 W2 hW)
def rd_T24 (xs : List S24) (i : Int) : S24 := xs.getD i.toNat z24
theorem at_T24 {w : World} {A : Option Addr} {n : Nat} {xs : List S24} (h : Kd.C k24 w A n xs) (i : Int) (h0 : 0 ≤ i) (h1 : i < n) : ∃ ad A0 c0, A = some ad ∧ w.cell? (ad.add i.toNat) = some (.slice A0 (rd_T24 xs i).f0.length c0) ∧ (rd_T24 xs i).f0.length ≤ c0 ∧ k77.C w A0 (rd_T24 xs i).f0.length (rd_T24 xs i).f0 := by
 obtain ⟨ad, c, e, _, hK, hc0⟩ := Kd.C_get h z24 i h0 h1
 have hc : ∀ j u, c[j]? = some u → w.cell? (ad.add (i.toNat * 1 + j)) = some u := hc0
 obtain ⟨A0, c0, rfl, l0, g0⟩ := k24_open hK
 exact ⟨ad, A0, c0, e, by have hq := hc 0 _ rfl; rwa [Nat.mul_one, Nat.add_zero] at hq, l0, g0⟩

def rd_L16 (xs : List (List ByteArray)) (i : Int) : (List ByteArray) := xs.getD i.toNat ([] : List ByteArray)
theorem at_L16 {w : World} {A : Option Addr} {n : Nat} {xs : List (List ByteArray)} (h : Kd.C (Kd.slice 9 Kd.string) w A n xs) (i : Int) (h0 : 0 ≤ i) (h1 : i < n) : ∃ ad A0 c0, A = some ad ∧ w.cell? (ad.add i.toNat) = some (.slice A0 (rd_L16 xs i).length c0) ∧ (rd_L16 xs i).length ≤ c0 ∧ Kd.string.C w A0 (rd_L16 xs i).length (rd_L16 xs i) := by
 obtain ⟨ad, c, e, _, hK, hc0⟩ := Kd.C_get h ([] : List ByteArray) i h0 h1
 have hc : ∀ j u, c[j]? = some u → w.cell? (ad.add (i.toNat * 1 + j)) = some u := hc0
 obtain ⟨A0, c0, rfl, l0, g0⟩ := hK
 exact ⟨ad, A0, c0, e, by have hq := hc 0 _ rfl; rwa [Nat.mul_one, Nat.add_zero] at hq, l0, g0⟩

end Go.Proofs.Ytoogmlghfljeiaa.Q
namespace Go.Proofs.Ytoogmlghfljeiaa.Q
set_option linter.unusedVariables false
set_option linter.unusedSimpArgs false
open Go Go.RowKit
variable {P : Program} {ops : Array Oper} {Q : Exit → Act → World → Prop}
def putAllG : Act → List (Tmp × Value) → Act
 | a, [] => a
 | a, (n, v) :: r => putAllG (a.put (some n) v) r
/-- What one operation may do: yield a value, or call and get one; K tells of it and of the world. -/
def GrowRes (P : Program) (K : Value → World → Prop) : Result Next → Prop
 | .ok (.value v) w' => K v w'
 | .ok (.enter f args) w' => Calls P f args w' (fun e w'' => ∃ v, e = .returned v ∧ K v w'')
 | _ => False
theorem nodup_le : ∀ (n : Nat) (L : List Nat), L.Nodup → (∀ x ∈ L, x < n) → L.length ≤ n
 | 0, L, _, h => by
  cases L with
  | nil => exact Nat.le_refl _
  | cons x L => exact absurd (h x (by simp)) (by omega)
 | n + 1, L, hd, h => by
  by_cases hn : n ∈ L
  ·have h1 := nodup_le n (L.erase n) (hd.erase n) (fun x hx => by
    have := h x (List.mem_of_mem_erase hx)
    have hne : x ≠ n := fun e => by rw [e] at hx; exact (hd.mem_erase_iff.1 hx).1 rfl
    omega)
   rw [List.length_erase_of_mem hn] at h1
   omega
  ·have h1 := nodup_le n L hd (fun x hx => by
    have := h x hx
    have hne : x ≠ n := fun e => hn (e ▸ hx)
    omega)
   omega
theorem all_le : ∀ (n : Nat) (L : List Nat), (∀ i, i < n → i ∈ L) → n ≤ L.length
 | 0, _, _ => Nat.zero_le _
 | n + 1, L, h => by
  have hn := h n (by omega)
  have h1 := all_le n (L.erase n) (fun i hi => (List.mem_erase_of_ne (by omega)).2 (h i (by omega)))
  rw [List.length_erase_of_mem hn] at h1
  have := List.length_pos_of_mem hn
  omega
def upd (vs : Nat → Value) (i : Nat) (v : Value) : Nat → Value := fun j => if j = i then v else vs j
/-- The frame's slots, by what has come up. -/
def Slots (n : Nat) (N : Nat → Tmp) (a0 a : Act) (L : List Nat) (vs : Nat → Value) : Prop :=
 a.defers = a0.defers ∧ a.tmps.size = a0.tmps.size ∧ (∀ i ∈ L, a.tmps[N i]? = some (vs i)) ∧ (∀ t, (∀ i ∈ L, N i ≠ t) → a.tmps[t]? = a0.tmps[t]?)
theorem putAllG_slots (n : Nat) (N : Nat → Tmp) (a0 : Act) (vs : Nat → Value) (hN : ∀ i j, i < n → j < n → N i = N j → i = j) (hlt : ∀ i, i < n → N i < a0.tmps.size) : ∀ (m : Nat) (b : Act) , m ≤ n → Slots n N a0 b (List.range (n - m)) vs → Slots n N a0 (putAllG b (((List.range n).drop (n - m)).map fun i => (N i, vs i))) (List.range n) vs := by
 intro m
 induction m with
 | zero =>
  intro b _ hb
  rw [Nat.sub_zero] at hb
  rw [Nat.sub_zero, List.drop_of_length_le (by simp)]
  exact hb
 | succ m ih =>
  intro b hm hb
  have hr : (List.range n).drop (n - (m + 1)) = (n - (m + 1)) :: (List.range n).drop (n - m) := by
   rw [List.drop_eq_getElem_cons (by simp; omega), List.getElem_range, show n - (m + 1) + 1 = n - m by omega]
  rw [hr, List.map_cons, putAllG]
  refine ih _ (by omega) ?_
  obtain ⟨h1, h2, h3, h4⟩ := hb
  have hi : N (n - (m + 1)) < b.tmps.size := by rw [h2]; exact hlt _ (by omega)
  have hrange : List.range (n - m) = List.range (n - (m + 1)) ++ [n - (m + 1)] := by
   rw [show n - m = (n - (m + 1)) + 1 by omega, List.range_succ]
  refine ⟨h1, by show (b.tmps.setIfInBounds _ _).size = _; rw [Array.size_setIfInBounds, h2], fun i hI => ?_, fun t ht => ?_⟩
  ·show (b.tmps.setIfInBounds _ _)[N i]? = _
   rw [hrange] at hI
   rcases List.mem_append.1 hI with hI | hI
   ·have hlt2 : i < n - (m + 1) := List.mem_range.1 hI
    rw [Array.getElem?_setIfInBounds_ne (fun e => by have := hN _ _ (by omega) (by omega) e; omega)]
    exact h3 i hI
   ·rw [List.mem_singleton.1 hI, Array.getElem?_setIfInBounds_self_of_lt hi]
  ·show (b.tmps.setIfInBounds _ _)[t]? = _
   rw [Array.getElem?_setIfInBounds_ne (ht (n - (m + 1)) (List.mem_range.2 (by omega)))]
   exact h4 t (fun i hI => ht i (List.mem_range.2 (by have := List.mem_range.1 hI; omega)))
theorem slots_one {n : Nat} {N : Nat → Tmp} {a0 a b : Act} {vs : Nat → Value} (ha : Slots n N a0 a (List.range n) vs) (hb : Slots n N a0 b (List.range n) vs) : a = b := by
 obtain ⟨h1, h2, h3, h4⟩ := ha
 obtain ⟨g1, g2, g3, g4⟩ := hb
 have : a.tmps = b.tmps := by
  apply Array.ext_getElem?
  intro t
  by_cases ht : ∃ i, i ∈ List.range n ∧ N i = t
  ·obtain ⟨i, hi, rfl⟩ := ht
   rw [h3 i hi, g3 i hi]
  ·rw [h4 t (fun i hi e => ht ⟨i, hi, e⟩), g4 t (fun i hi e => ht ⟨i, hi, e⟩)]
 cases a
 cases b
 simp only at this h1 g1
 subst this
 rw [h1, g1]
variable {W : World} {a0 : Act} {n : Nat} {N : Nat → Tmp} {dep cl : Nat → List Nat} {φ : Nat → (Nat → Value) → World → Nat → Nat → Prop}
set_option maxHeartbeats 1000000 in
theorem wpAny_grow (lF : Array Bool) (hF : lF.size = n + 1) (hF1 : ∀ i, i < n → lF[i]? = some true) (hF2 : lF[n]? = some false) (hn : ops.size = n + 1)
  (hwait : ∀ o, ops[n]? = some o → ∀ i, i < n → ∃ e ∈ o.after, Region.binds .any e = true ∧ e.on = i) (hN : ∀ i j, i < n → j < n → N i = N j → i = j) (hlt : ∀ i, i < n → N i < a0.tmps.size)
  (hdst : ∀ i o, i < n → ops[i]? = some o → o.dst = some (N i) ∧ o.guard = none)
  (hlow : ∀ i o, i < n → ops[i]? = some o → ∀ e ∈ o.after, Region.binds .any e = true → e.on < i)
  (hdep : ∀ i o, i < n → ops[i]? = some o → ∀ j ∈ dep i, ∃ e ∈ o.after, Region.binds .any e = true ∧ e.on = j)
  (hcl : ∀ i, ∀ j ∈ cl i, j = i ∨ ∃ d ∈ dep i, j ∈ cl d)
  (hφ : ∀ i vs vs' w lo hi, (∀ j, j = i ∨ j ∈ cl i → vs j = vs' j) → φ i vs w lo hi → φ i vs' w lo hi)
  (hmono : ∀ i vs w w' lo hi, φ i vs w lo hi → Below w.heap.size w w' → φ i vs w' lo hi)
  (hstep : ∀ i o, i < n → ops[i]? = some o → ∀ (vs : Nat → Value) (a : Act) (w : World) (lo hi : Nat → Nat), Below W.heap.size W w → (∀ j ∈ dep i, a.tmps[N j]? = some (vs j) ∧ φ j vs w (lo j) (hi j)) → (∀ t, (∀ j, j < n → N j ≠ t) → a.tmps[t]? = a0.tmps[t]?) →
   GrowRes P (fun v w' => Below w.heap.size w w' ∧ φ i (upd vs i v) w' w.heap.size w'.heap.size) ((execOp a.eval o).run P w))
  (hend : ∀ (vs : Nat → Value) (w : World) (lo hi : Nat → Nat), (∀ i, i < n → φ i vs w (lo i) (hi i) ∧ W.heap.size ≤ lo i ∧ lo i ≤ hi i ∧ hi i ≤ w.heap.size) → (∀ i j, i < n → j < n → i ≠ j → hi i ≤ lo j ∨ hi j ≤ lo i) → Below W.heap.size W w →
   wpAny P .any ops Q 1 lF (putAllG a0 ((List.range n).map fun i => (N i, vs i))) w) :
  ∀ (fuel : Nat) (l : Array Bool) (L : List Nat) (a : Act) (w : World) (vs : Nat → Value) (lo hi : Nat → Nat), L.length + fuel = n → L.Nodup → (∀ i ∈ L, i < n) → l.size = n + 1 → (∀ i, i < n → (l[i]? = some true ↔ i ∈ L)) → l[n]? = some false → Slots n N a0 a L vs →
   (∀ i ∈ L, ∀ j ∈ cl i, j ∈ L) → (∀ i ∈ L, φ i vs w (lo i) (hi i) ∧ W.heap.size ≤ lo i ∧ lo i ≤ hi i ∧ hi i ≤ w.heap.size) → (∀ i ∈ L, ∀ j ∈ L, i ≠ j → hi i ≤ lo j ∨ hi j ≤ lo i) → Below W.heap.size W w → wpAny P .any ops Q (fuel + 1) l a w := by
 intro fuel
 -- all has come up
 have fin : ∀ (l : Array Bool) (L : List Nat) (a : Act) (w : World) (vs : Nat → Value) (lo hi : Nat → Nat), (∀ i, i < n → i ∈ L) → (∀ i ∈ L, i < n) → l = lF → Slots n N a0 a L vs → (∀ i ∈ L, φ i vs w (lo i) (hi i) ∧ W.heap.size ≤ lo i ∧ lo i ≤ hi i ∧ hi i ≤ w.heap.size) → (∀ i ∈ L, ∀ j ∈ L, i ≠ j → hi i ≤ lo j ∨ hi j ≤ lo i) → Below W.heap.size W w → wpAny P .any ops Q 1 l a w := by
  intro l L a w vs lo hi hall hL hlF hs hp hd hb
  have hs' : Slots n N a0 a (List.range n) vs := ⟨hs.1, hs.2.1, fun i hi => hs.2.2.1 i (hall i (List.mem_range.1 hi)), fun t ht => hs.2.2.2 t (fun i hi => ht i (List.mem_range.2 (hL i hi)))⟩
  have hs2 : Slots n N a0 (putAllG a0 ((List.range n).map fun i => (N i, vs i))) (List.range n) vs := by
   have := putAllG_slots n N a0 vs hN hlt n a0 (Nat.le_refl _) (by rw [Nat.sub_self]; exact ⟨rfl, rfl, fun i hi => by simp at hi, fun t _ => rfl⟩)
   rwa [Nat.sub_self, List.drop_zero] at this
  rw [hlF, slots_one hs' hs2]
  exact hend vs w lo hi (fun i hi => hp i (hall i hi)) (fun i j hi hj => hd i (hall i hi) j (hall j hj)) hb
 have full : ∀ (L : List Nat), L.Nodup → (∀ i ∈ L, i < n) → L.length = n → ∀ i, i < n → i ∈ L := fun L hd hL hlen i hi => by
  refine Classical.byContradiction fun hx => ?_
  have := nodup_le n (i :: L) (List.nodup_cons.2 ⟨hx, hd⟩) (fun x hm => by
   rcases List.mem_cons.1 hm with rfl | hm
   ·exact hi
   ·exact hL x hm)
  simp at this
  omega
 have getD_true : ∀ (l : Array Bool) (i : Nat), l.size = n + 1 → i < n + 1 → (l.getD i true = false ↔ ¬ l[i]? = some true) := fun l i hl hi => by
  have : i < l.size := by omega
  simp [Array.getD, this]
 induction fuel with
 | zero =>
  intro l L a w vs lo hi hlen hd hL hls hl hln hs hcL hp hdis hb
  have hall := full L hd hL (by omega)
  refine fin l L a w vs lo hi hall hL ?_ hs hp hdis hb
  apply Array.ext_getElem?
  intro j
  by_cases hj : j < n
  ·rw [hF1 j hj, (hl j hj).2 (hall j hj)]
  ·by_cases hj2 : j = n
   ·rw [hj2, hF2, hln]
   ·rw [Array.getElem?_eq_none (by omega), Array.getElem?_eq_none (by omega)]
 | succ fuel ih =>
  intro l L a w vs lo hi hlen hd hL hls hl hln hs hcL hp hdis hb
  have hmiss : ¬ ∀ i, i < n → i ∈ L := fun hall => by have := all_le n L hall; omega
  refine ⟨fun hr => ?_, fun i hri => ?_⟩
  ·-- nothing is ready: the least that has not come up would be
   have hall : ∀ i, i < n → i ∈ L := by
    intro i
    induction i using Nat.strongRecOn with
    | ind i ihi =>
     intro hin
     refine Classical.byContradiction fun hx => ?_
     have ho : ∃ o, ops[i]? = some o := ⟨ops[i]'(by omega), Array.getElem?_eq_getElem _⟩
     obtain ⟨o, ho⟩ := ho
     have : i ∈ Region.ready .any ops l := mem_ready.2 ⟨(getD_true l i hls (by omega)).2 (fun h => hx ((hl i hin).1 h)), o, ho, fun e he hbnd => by
      have hlt2 := hlow i o hin ho e he hbnd
      have h3 := (hl e.on (by omega)).2 (ihi e.on hlt2 (by omega))
      simp [Array.getD_eq_getD_getElem?, h3]⟩
     rw [hr] at this
     cases this
   exact absurd hall hmiss
  ·obtain ⟨h1, o, ho, hall⟩ := mem_ready.1 hri
   have hin1 : i < n + 1 := by rw [← hn]; exact (Array.getElem?_eq_some_iff.1 ho).1
   have hin : i < n := by
    refine Classical.byContradiction fun hx => hmiss fun j hj => ?_
    obtain rfl : i = n := by omega
    obtain ⟨e, he, hbnd, rfl⟩ := hwait o ho j hj
    have h2 := hall e he hbnd
    exact (hl e.on hj).1 (by
     have : e.on < l.size := by omega
     simpa [Array.getD, this] using h2)
   have hiL : i ∉ L := fun h => (getD_true l i hls hin1).1 h1 ((hl i hin).2 h)
   obtain ⟨hd1, hg⟩ := hdst i o hin ho
   have hdL : ∀ j ∈ dep i, j ∈ L := fun j hj => by
    obtain ⟨e, he, hbnd, rfl⟩ := hdep i o hin ho j hj
    have h2 := hall e he hbnd
    have hjn : e.on < n := by have := hlow i o hin ho e he hbnd; omega
    exact (hl e.on hjn).1 (by
     have : e.on < l.size := by omega
     simpa [Array.getD, this] using h2)
   have hgr := hstep i o hin ho vs a w lo hi hb (fun j hj => ⟨hs.2.2.1 j (hdL j hj), (hp j (hdL j hj)).1⟩) (fun t ht => hs.2.2.2 t (fun j hj => ht j (hL j hj)))
   -- what follows
   have next : ∀ v w', Below w.heap.size w w' ∧ φ i (upd vs i v) w' w.heap.size w'.heap.size → wpAny P .any ops Q (fuel + 1) (l.setIfInBounds i true) (a.put o.dst v) w' := fun v w' ⟨hb', hph⟩ => by
    have hnot : ∀ j ∈ L, j ≠ i := fun j hj e => hiL (e ▸ hj)
    refine ih (l.setIfInBounds i true) (i :: L) (a.put o.dst v) w' (upd vs i v) (fun j => if j = i then w.heap.size else lo j) (fun j => if j = i then w'.heap.size else hi j) (by simp; omega) (List.nodup_cons.2 ⟨hiL, hd⟩) (fun x hx => ?_) (by simpa using hls) (fun j hj => ?_) (by rw [Array.getElem?_setIfInBounds_ne (by omega)]; exact hln) ?_ (fun x hx j hj => ?_) (fun x hx => ?_) (fun x hx y hy hxy => ?_) ?_
    ·rcases List.mem_cons.1 hx with rfl | hx
     ·exact hin
     ·exact hL x hx
    ·by_cases e : j = i
     ·subst e
      rw [Array.getElem?_setIfInBounds_self_of_lt (by omega)]
      simp
     ·rw [Array.getElem?_setIfInBounds_ne (Ne.symm e), hl j hj, List.mem_cons]
      exact ⟨fun h => .inr h, fun h => h.resolve_left e⟩
    ·rw [hd1]
     obtain ⟨s1, s2, s3, s4⟩ := hs
     have hi2 : N i < a.tmps.size := by rw [s2]; exact hlt i hin
     refine ⟨s1, by show (a.tmps.setIfInBounds _ _).size = _; rw [Array.size_setIfInBounds, s2], fun j hj => ?_, fun t ht => ?_⟩
     ·show (a.tmps.setIfInBounds _ _)[N j]? = _
      rcases List.mem_cons.1 hj with rfl | hj
      ·rw [Array.getElem?_setIfInBounds_self_of_lt hi2]; simp [upd]
      ·rw [Array.getElem?_setIfInBounds_ne (fun e => hnot j hj (hN _ _ (hL j hj) hin e.symm)), s3 j hj]
       simp [upd, hnot j hj]
     ·show (a.tmps.setIfInBounds _ _)[t]? = _
      rw [Array.getElem?_setIfInBounds_ne (ht i (by simp))]
      exact s4 t (fun j hj => ht j (by simp [hj]))
    ·rcases List.mem_cons.1 hx with rfl | hx
     ·rcases hcl x j hj with rfl | ⟨d, hdd, hjd⟩
      ·simp
      ·exact List.mem_cons_of_mem _ (hcL d (hdL d hdd) j hjd)
     ·exact List.mem_cons_of_mem _ (hcL x hx j hj)
    ·rcases List.mem_cons.1 hx with rfl | hx
     ·simp only [if_pos]
      exact ⟨hph, hb.size, hb'.size, Nat.le_refl _⟩
     ·have hne := hnot x hx
      simp only [if_neg hne]
      obtain ⟨p1, p2, p3, p4⟩ := hp x hx
      refine ⟨hmono x _ w w' _ _ (hφ x vs (upd vs i v) w _ _ (fun j hj => ?_) p1) hb', p2, p3, Nat.le_trans p4 hb'.size⟩
      have hji : j ≠ i := by
       rcases hj with rfl | hj
       ·exact hne
       ·exact hnot j (hcL x hx j hj)
      simp [upd, hji]
    ·rcases List.mem_cons.1 hx with ex | hx'
     ·rcases List.mem_cons.1 hy with ey | hy'
      ·exact absurd (ex.trans ey.symm) hxy
      ·rw [if_pos ex, if_pos ex, if_neg (hnot y hy'), if_neg (hnot y hy')]
       exact .inr (hp y hy').2.2.2
     ·rcases List.mem_cons.1 hy with ey | hy'
      ·rw [if_pos ey, if_pos ey, if_neg (hnot x hx'), if_neg (hnot x hx')]
       exact .inl (hp x hx').2.2.2
      ·rw [if_neg (hnot x hx'), if_neg (hnot x hx'), if_neg (hnot y hy'), if_neg (hnot y hy')]
       exact hdis x hx' y hy' hxy
    ·exact hb.trans (hb'.mono hb.size)
   unfold wpOp
   rw [ho]
   have hw : Region.wanted o (yielded ops a.tmps) = true := by simp [Region.wanted, hg]
   simp only [hw, if_true]
   refine .inl ?_
   unfold Oper.wp
   generalize (execOp a.eval o).run P w = r at hgr ⊢
   cases r with
   | halt x w' => exact hgr.elim
   | ok nx w' =>
    cases nx with
    | value v => exact next v w' hgr
    | enter f args =>
     rw [Oper.upon_enter]
     refine Calls.mono hgr fun e w'' hh => ?_
     obtain ⟨v, rfl, hk⟩ := hh
     exact next v w'' hk
    | _ => exact hgr.elim
end Go.Proofs.Ytoogmlghfljeiaa.Q
namespace Go.Proofs.Ytoogmlghfljeiaa.Q
open Go.RowKit Go.Proofs.YtoogmlghfljeiaaW.PrintWords Go.Proofs.YtoogmlghfljeiaaW.PrintLast Go.Proofs.YtoogmlghfljeiaaW.PrintMore
attribute [local go_sem] max2_int min2_int max_two min_two max_three min_three max_four min_four
set_option linter.unusedVariables false
set_option linter.unusedSimpArgs false
set_option maxHeartbeats 1000000 in
set_option maxRecDepth 100000 in
theorem need_s (s : ByteArray) (w : World) : Calls Try.prog 52 #[.string s] w fun e w' => e = .returned (.agg #[.string s, .bool true]) ∧ Below w.heap.size w w' := by
 have hu := Try.underlying57
 go_enter Try.func52, Try.ntmps52
 go_wp2_with (first | ((with_reducible refine gate_dst (N := 2) rfl ?_); refine box_event ?hg (N := 2) ?hd (cs := #[.string (⟨#[]⟩ : ByteArray), .bool false]) (t := 57) ?hr ?_; (case hd => rfl); (case hg => rfl); (case hr => first | (go_simp; done) | (go_simp; rfl)); intro gb hg w5 hbox hb; have BK := Aside0.mk hbox; have HB := Aside0.mk hb; have GE := Aside0.mk (show w.heap.size ≤ gb by rw [hg]; exact Nat.le_refl _); have hcz_0 : w5.cell? ⟨gb, 0, none⟩ = some (.string (⟨#[]⟩ : ByteArray)) := (blk_cell hbox 0).trans rfl; have hcz_1 : w5.cell? ⟨gb, 1, none⟩ = some (.bool false) := (blk_cell hbox 1).trans rfl; have hfz_0 := blk_frozen hbox 0; have hfz_1 := blk_frozen hbox 1; clear hb hbox hg))
 refine bodyPost_ret (results_cell_row rfl _ _ gb 57 #[.string s, .bool true] (0, 0) _ rfl (by (with_reducible repeat (first | refine blk_drewN ?_ _ | refine blk_drew ?_ | refine blk_alloc ?_ _)); refine blk_put (cs := #[.string s, .bool false]) ?_ 1 _ rfl; (with_reducible repeat (first | refine blk_drewN ?_ _ | refine blk_drew ?_ | refine blk_alloc ?_ _)); refine blk_put (cs := #[.string (⟨#[]⟩ : ByteArray), .bool false]) ?_ 0 _ rfl; (with_reducible repeat (first | refine blk_drewN ?_ _ | refine blk_drew ?_ | refine blk_alloc ?_ _)); exact BK.out) Try.underlying57 rfl (by kernel_rfl)) rfl ?_
 exact ⟨rfl, by repeat (first | (with_reducible first | exact HB.out | apply below_alloc | apply pw_below_drewN | apply below_drew1 | refine below_set ?_ GE.out) | exact HB.out)⟩
set_option maxHeartbeats 1000000 in
set_option maxRecDepth 100000 in
theorem field_s (s o : ByteArray) (b : Bool) (A : Option Addr) (n c : Nat) (w : World) : Calls Try.prog 51 #[.string s, .string o, .bool b, .slice A n c] w fun e w' => e = .returned (.agg #[.string s, .slice A n c, .string o, .bool false, .bool b]) ∧ Below w.heap.size w w' := by
 have hu := Try.underlying38
 go_enter Try.func51, Try.ntmps51
 go_wp2_with (first | ((with_reducible refine gate_dst (N := 8) rfl ?_); refine box_event ?hg (N := 8) ?hd (cs := #[.string (⟨#[]⟩ : ByteArray), .slice none 0 0, .string (⟨#[]⟩ : ByteArray), .bool false, .bool false]) (t := 38) ?hr ?_; (case hd => rfl); (case hg => rfl); (case hr => first | (go_simp; done) | (go_simp; rfl)); intro gb hg w5 hbox hb; have BK := Aside0.mk hbox; have HB := Aside0.mk hb; have GE := Aside0.mk (show w.heap.size ≤ gb by rw [hg]; exact Nat.le_refl _); have hcz_0 : w5.cell? ⟨gb, 0, none⟩ = some (.string (⟨#[]⟩ : ByteArray)) := (blk_cell hbox 0).trans rfl; have hcz_1 : w5.cell? ⟨gb, 1, none⟩ = some (.slice none 0 0) := (blk_cell hbox 1).trans rfl; have hcz_2 : w5.cell? ⟨gb, 2, none⟩ = some (.string (⟨#[]⟩ : ByteArray)) := (blk_cell hbox 2).trans rfl; have hcz_3 : w5.cell? ⟨gb, 3, none⟩ = some (.bool false) := (blk_cell hbox 3).trans rfl; have hcz_4 : w5.cell? ⟨gb, 4, none⟩ = some (.bool false) := (blk_cell hbox 4).trans rfl; have hfz_0 := blk_frozen hbox 0; have hfz_1 := blk_frozen hbox 1; have hfz_2 := blk_frozen hbox 2; have hfz_3 := blk_frozen hbox 3; have hfz_4 := blk_frozen hbox 4; clear hb hbox hg))
 refine bodyPost_ret (results_cell_row rfl _ _ gb 38 #[.string s, .slice A n c, .string o, .bool false, .bool b] (0, 0) _ rfl (by (with_reducible repeat (first | refine blk_drewN ?_ _ | refine blk_drew ?_ | refine blk_alloc ?_ _)); refine blk_put (cs := #[.string s, .slice A n c, .string o, .bool false, .bool false]) ?_ 4 _ rfl; (with_reducible repeat (first | refine blk_drewN ?_ _ | refine blk_drew ?_ | refine blk_alloc ?_ _)); refine blk_put (cs := #[.string s, .slice A n c, .string o, .bool false, .bool false]) ?_ 3 _ rfl; (with_reducible repeat (first | refine blk_drewN ?_ _ | refine blk_drew ?_ | refine blk_alloc ?_ _)); refine blk_put (cs := #[.string s, .slice A n c, .string (⟨#[]⟩ : ByteArray), .bool false, .bool false]) ?_ 2 _ rfl; (with_reducible repeat (first | refine blk_drewN ?_ _ | refine blk_drew ?_ | refine blk_alloc ?_ _)); refine blk_put (cs := #[.string s, .slice none 0 0, .string (⟨#[]⟩ : ByteArray), .bool false, .bool false]) ?_ 1 _ rfl; (with_reducible repeat (first | refine blk_drewN ?_ _ | refine blk_drew ?_ | refine blk_alloc ?_ _)); refine blk_put (cs := #[.string (⟨#[]⟩ : ByteArray), .slice none 0 0, .string (⟨#[]⟩ : ByteArray), .bool false, .bool false]) ?_ 0 _ rfl; (with_reducible repeat (first | refine blk_drewN ?_ _ | refine blk_drew ?_ | refine blk_alloc ?_ _)); exact BK.out) Try.underlying38 rfl (by kernel_rfl)) rfl ?_
 exact ⟨rfl, by repeat (first | (with_reducible first | exact HB.out | apply below_alloc | apply pw_below_drewN | apply below_drew1 | refine below_set ?_ GE.out) | exact HB.out)⟩
def psPhi : Nat → (Nat → Value) → World → Nat → Nat → Prop
 | 0, vs, w, lo, hi => vs 0 = .agg #[.string (⟨#[105, 100]⟩ : ByteArray), .bool true]
 | 1, vs, w, lo, hi => vs 1 = .slice (some ⟨lo, 0, none⟩) 1 1 ∧ w.heap[lo]? = some (.cells #[.string (⟨#[105, 100]⟩ : ByteArray), .bool true] 57 (0, 0)) ∧ lo < hi
 | 2, vs, w, lo, hi => vs 2 = .agg #[.string (⟨#[110, 111, 100, 101]⟩ : ByteArray), vs 1, .string (⟨#[78, 111, 100, 101]⟩ : ByteArray), .bool false, .bool false]
 | 3, vs, w, lo, hi => vs 3 = .agg #[.string (⟨#[105, 100]⟩ : ByteArray), .bool true]
 | 4, vs, w, lo, hi => vs 4 = .slice (some ⟨lo, 0, none⟩) 1 1 ∧ w.heap[lo]? = some (.cells #[.string (⟨#[105, 100]⟩ : ByteArray), .bool true] 57 (0, 0)) ∧ lo < hi
 | 5, vs, w, lo, hi => vs 5 = .agg #[.string (⟨#[109, 117, 115, 116]⟩ : ByteArray), vs 4, .string (⟨#[78, 111, 100, 101]⟩ : ByteArray), .bool false, .bool true]
 | 6, vs, w, lo, hi => vs 6 = .agg #[.string (⟨#[110, 111, 100, 101, 115]⟩ : ByteArray), .slice none 0 0, .string (⟨#[78, 111, 100, 101]⟩ : ByteArray), .bool true, .bool false]
 | 7, vs, w, lo, hi => vs 7 = .agg #[.string (⟨#[115, 105, 122, 101]⟩ : ByteArray), .slice none 0 0, .string (⟨#[73, 110, 116]⟩ : ByteArray), .bool false, .bool true]
 | 8, vs, w, lo, hi => vs 8 = .slice (some ⟨lo, 0, none⟩) 4 4 ∧ w.heap[lo]? = some (.cells #[.string (⟨#[110, 111, 100, 101]⟩ : ByteArray), vs 1, .string (⟨#[78, 111, 100, 101]⟩ : ByteArray), .bool false, .bool false, .string (⟨#[109, 117, 115, 116]⟩ : ByteArray), vs 4, .string (⟨#[78, 111, 100, 101]⟩ : ByteArray), .bool false, .bool true, .string (⟨#[110, 111, 100, 101, 115]⟩ : ByteArray), .slice none 0 0, .string (⟨#[78, 111, 100, 101]⟩ : ByteArray), .bool true, .bool false, .string (⟨#[115, 105, 122, 101]⟩ : ByteArray), .slice none 0 0, .string (⟨#[73, 110, 116]⟩ : ByteArray), .bool false, .bool true] 38 (0, 0)) ∧ lo < hi
 | 9, vs, w, lo, hi => vs 9 = .agg #[.string (⟨#[81, 117, 101, 114, 121]⟩ : ByteArray), vs 8]
 | 10, vs, w, lo, hi => vs 10 = .agg #[.string (⟨#[105, 100]⟩ : ByteArray), .bool true]
 | 11, vs, w, lo, hi => vs 11 = .agg #[.string (⟨#[118, 97, 108, 117, 101]⟩ : ByteArray), .bool true]
 | 12, vs, w, lo, hi => vs 12 = .slice (some ⟨lo, 0, none⟩) 2 2 ∧ w.heap[lo]? = some (.cells #[.string (⟨#[105, 100]⟩ : ByteArray), .bool true, .string (⟨#[118, 97, 108, 117, 101]⟩ : ByteArray), .bool true] 57 (0, 0)) ∧ lo < hi
 | 13, vs, w, lo, hi => vs 13 = .agg #[.string (⟨#[115, 101, 116]⟩ : ByteArray), vs 12, .string (⟨#[78, 111, 100, 101]⟩ : ByteArray), .bool false, .bool false]
 | 14, vs, w, lo, hi => vs 14 = .agg #[.string (⟨#[105, 100]⟩ : ByteArray), .bool true]
 | 15, vs, w, lo, hi => vs 15 = .agg #[.string (⟨#[98, 121]⟩ : ByteArray), .bool true]
 | 16, vs, w, lo, hi => vs 16 = .slice (some ⟨lo, 0, none⟩) 2 2 ∧ w.heap[lo]? = some (.cells #[.string (⟨#[105, 100]⟩ : ByteArray), .bool true, .string (⟨#[98, 121]⟩ : ByteArray), .bool true] 57 (0, 0)) ∧ lo < hi
 | 17, vs, w, lo, hi => vs 17 = .agg #[.string (⟨#[97, 100, 100]⟩ : ByteArray), vs 16, .string (⟨#[78, 111, 100, 101]⟩ : ByteArray), .bool false, .bool false]
 | 18, vs, w, lo, hi => vs 18 = .agg #[.string (⟨#[105, 100]⟩ : ByteArray), .bool true]
 | 19, vs, w, lo, hi => vs 19 = .agg #[.string (⟨#[116, 111]⟩ : ByteArray), .bool false]
 | 20, vs, w, lo, hi => vs 20 = .slice (some ⟨lo, 0, none⟩) 2 2 ∧ w.heap[lo]? = some (.cells #[.string (⟨#[105, 100]⟩ : ByteArray), .bool true, .string (⟨#[116, 111]⟩ : ByteArray), .bool false] 57 (0, 0)) ∧ lo < hi
 | 21, vs, w, lo, hi => vs 21 = .agg #[.string (⟨#[108, 105, 110, 107]⟩ : ByteArray), vs 20, .string (⟨#[78, 111, 100, 101]⟩ : ByteArray), .bool false, .bool false]
 | 22, vs, w, lo, hi => vs 22 = .slice (some ⟨lo, 0, none⟩) 3 3 ∧ w.heap[lo]? = some (.cells #[.string (⟨#[115, 101, 116]⟩ : ByteArray), vs 12, .string (⟨#[78, 111, 100, 101]⟩ : ByteArray), .bool false, .bool false, .string (⟨#[97, 100, 100]⟩ : ByteArray), vs 16, .string (⟨#[78, 111, 100, 101]⟩ : ByteArray), .bool false, .bool false, .string (⟨#[108, 105, 110, 107]⟩ : ByteArray), vs 20, .string (⟨#[78, 111, 100, 101]⟩ : ByteArray), .bool false, .bool false] 38 (0, 0)) ∧ lo < hi
 | 23, vs, w, lo, hi => vs 23 = .agg #[.string (⟨#[77, 117, 116, 97, 116, 105, 111, 110]⟩ : ByteArray), vs 22]
 | 24, vs, w, lo, hi => vs 24 = .agg #[.string (⟨#[105, 100]⟩ : ByteArray), .slice none 0 0, .string (⟨#[73, 110, 116]⟩ : ByteArray), .bool false, .bool true]
 | 25, vs, w, lo, hi => vs 25 = .agg #[.string (⟨#[118, 97, 108, 117, 101]⟩ : ByteArray), .slice none 0 0, .string (⟨#[73, 110, 116]⟩ : ByteArray), .bool false, .bool false]
 | 26, vs, w, lo, hi => vs 26 = .agg #[.string (⟨#[98, 121]⟩ : ByteArray), .bool true]
 | 27, vs, w, lo, hi => vs 27 = .slice (some ⟨lo, 0, none⟩) 1 1 ∧ w.heap[lo]? = some (.cells #[.string (⟨#[98, 121]⟩ : ByteArray), .bool true] 57 (0, 0)) ∧ lo < hi
 | 28, vs, w, lo, hi => vs 28 = .agg #[.string (⟨#[112, 108, 117, 115]⟩ : ByteArray), vs 27, .string (⟨#[73, 110, 116]⟩ : ByteArray), .bool false, .bool false]
 | 29, vs, w, lo, hi => vs 29 = .agg #[.string (⟨#[110, 101, 120, 116]⟩ : ByteArray), .slice none 0 0, .string (⟨#[78, 111, 100, 101]⟩ : ByteArray), .bool false, .bool false]
 | 30, vs, w, lo, hi => vs 30 = .agg #[.string (⟨#[110, 101, 101, 100]⟩ : ByteArray), .slice none 0 0, .string (⟨#[78, 111, 100, 101]⟩ : ByteArray), .bool false, .bool true]
 | 31, vs, w, lo, hi => vs 31 = .slice (some ⟨lo, 0, none⟩) 5 5 ∧ w.heap[lo]? = some (.cells #[.string (⟨#[105, 100]⟩ : ByteArray), .slice none 0 0, .string (⟨#[73, 110, 116]⟩ : ByteArray), .bool false, .bool true, .string (⟨#[118, 97, 108, 117, 101]⟩ : ByteArray), .slice none 0 0, .string (⟨#[73, 110, 116]⟩ : ByteArray), .bool false, .bool false, .string (⟨#[112, 108, 117, 115]⟩ : ByteArray), vs 27, .string (⟨#[73, 110, 116]⟩ : ByteArray), .bool false, .bool false, .string (⟨#[110, 101, 120, 116]⟩ : ByteArray), .slice none 0 0, .string (⟨#[78, 111, 100, 101]⟩ : ByteArray), .bool false, .bool false, .string (⟨#[110, 101, 101, 100]⟩ : ByteArray), .slice none 0 0, .string (⟨#[78, 111, 100, 101]⟩ : ByteArray), .bool false, .bool true] 38 (0, 0)) ∧ lo < hi
 | 32, vs, w, lo, hi => vs 32 = .agg #[.string (⟨#[78, 111, 100, 101]⟩ : ByteArray), vs 31]
 | 33, vs, w, lo, hi => vs 33 = .slice (some ⟨lo, 0, none⟩) 3 3 ∧ w.heap[lo]? = some (.cells #[.string (⟨#[81, 117, 101, 114, 121]⟩ : ByteArray), vs 8, .string (⟨#[77, 117, 116, 97, 116, 105, 111, 110]⟩ : ByteArray), vs 22, .string (⟨#[78, 111, 100, 101]⟩ : ByteArray), vs 31] 53 (0, 0)) ∧ lo < hi
 | 34, vs, w, lo, hi => vs 34 = .agg #[vs 33]
 | _, _, _, _, _ => True
def psDep : Nat → List Nat
 | 1 => [0]
 | 2 => [1]
 | 4 => [3]
 | 5 => [4]
 | 8 => [2, 5, 6, 7]
 | 9 => [8]
 | 12 => [10, 11]
 | 13 => [12]
 | 16 => [14, 15]
 | 17 => [16]
 | 20 => [18, 19]
 | 21 => [20]
 | 22 => [13, 17, 21]
 | 23 => [22]
 | 27 => [26]
 | 28 => [27]
 | 31 => [24, 25, 28, 29, 30]
 | 32 => [31]
 | 33 => [9, 23, 32]
 | 34 => [33]
 | _ => []
def ps_seqB : Code → Code
 | .seq _ y => y
 | c => c
def ps_seqA : Code → Code
 | .seq x _ => x
 | c => c
def ps_opsOf : Code → Array Oper
 | .region _ o _ => o
 | _ => #[]
def ps_codeOf (f : Func) : Code := f.body.getD .skip
theorem ps_new (w : World) (o : Obj) : (w.alloc o).heap[w.heap.size]? = some o := by show (w.heap.push o)[w.heap.size]? = some o; simp
theorem ev_tmp {a : Act} {t : Nat} {v : Value} (h : a.tmps[t]? = some v) : a.eval (.tmp t) = v := by
 show a.tmps.getD t undef = v
 rw [Array.getD_eq_getD_getElem?, h]; rfl
theorem grow_call {K : Value → World → Prop} {o : Oper} {a : Act} {w : World} {f : FuncId} {args : Array Value} {v : Value} {as_ : Array Operand} {ts : Array TypeId} (he : ∀ args w, (callFunc f args).run Try.prog w = .ok (.enter f args) w) (hop : o.op = .call { callee := .value (.func f), args := as_, argTypes := ts }) (hargs : as_.map a.eval = args)
  (hc : Calls Try.prog f args w fun e w' => e = .returned v ∧ Below w.heap.size w w') (hk : ∀ w', Below w.heap.size w w' → K v w') : GrowRes Try.prog K ((execOp a.eval o).run Try.prog w) := by
 have he' := he args w
 have hrun : (execOp a.eval o).run Try.prog w = .ok (.enter f args) w := by
  unfold execOp
  simp [hop, resolve, Deferred.ofValue, invoke, Act.eval, hargs, he']
 rw [hrun]
 exact hc.mono fun e w' h => ⟨v, h.1, hk w' h.2⟩
theorem grow_value {K : Value → World → Prop} {o : Oper} {a : Act} {w w' : World} {v : Value} (hrun : (execOp a.eval o).run Try.prog w = .ok (.value v) w') (hk : K v w') : GrowRes Try.prog K ((execOp a.eval o).run Try.prog w) := by
 rw [hrun]; exact hk
set_option maxHeartbeats 1000000 in
set_option maxRecDepth 100000 in
theorem ps_step0 (o : Oper) (ho : (ps_opsOf (ps_seqA (ps_seqB (ps_seqB (ps_seqB (ps_codeOf Try.f24))))))[0]? = some o) (vs : Nat → Value) (a : Act) (W w : World) (gb : Nat) (lo hi : Nat → Nat) (hb : Below W.heap.size W w) (hd : ∀ j ∈ psDep 0, a.tmps[j + 4]? = some (vs j) ∧ psPhi j vs w (lo j) (hi j)) (h1 : a.tmps[1]? = some (.pointer (some ⟨gb, 0, none⟩)))
  (hbx : W.heap[gb]? = some (.cells #[.string (⟨#[110, 111, 100, 101, 115]⟩ : ByteArray), .slice none 0 0, .string (⟨#[78, 111, 100, 101]⟩ : ByteArray), .bool true, .bool false] 38 (0, 0))) :
  GrowRes Try.prog (fun v w' => Below w.heap.size w w' ∧ psPhi 0 (upd vs 0 v) w' w.heap.size w'.heap.size) ((execOp a.eval o).run Try.prog w) := by
 obtain rfl := Option.some.inj ho
 have hc := need_s (⟨#[105, 100]⟩ : ByteArray) w
 refine grow_call (enters_ Try.func52 (by kernel_rfl) rfl) (by rfl) (by first | rfl | (simp only [List.map_toArray, List.map_cons, List.map_nil, Act.eval]; done) | (simp only [List.map_toArray, List.map_cons, List.map_nil, Act.eval]; rfl)) hc (fun w' hb' => ⟨hb', ?_⟩)
 show upd vs 0 _ 0 = _
 simp only [upd, if_true]
set_option maxHeartbeats 1000000 in
set_option maxRecDepth 100000 in
theorem ps_step1 (o : Oper) (ho : (ps_opsOf (ps_seqA (ps_seqB (ps_seqB (ps_seqB (ps_codeOf Try.f24))))))[1]? = some o) (vs : Nat → Value) (a : Act) (W w : World) (gb : Nat) (lo hi : Nat → Nat) (hb : Below W.heap.size W w) (hd : ∀ j ∈ psDep 1, a.tmps[j + 4]? = some (vs j) ∧ psPhi j vs w (lo j) (hi j)) (h1 : a.tmps[1]? = some (.pointer (some ⟨gb, 0, none⟩)))
  (hbx : W.heap[gb]? = some (.cells #[.string (⟨#[110, 111, 100, 101, 115]⟩ : ByteArray), .slice none 0 0, .string (⟨#[78, 111, 100, 101]⟩ : ByteArray), .bool true, .bool false] 38 (0, 0))) :
  GrowRes Try.prog (fun v w' => Below w.heap.size w w' ∧ psPhi 1 (upd vs 1 v) w' w.heap.size w'.heap.size) ((execOp a.eval o).run Try.prog w) := by
 obtain rfl := Option.some.inj ho
 obtain ⟨t0, f0⟩ := hd 0 (by decide)
 have v0 : vs 0 = .agg #[.string (⟨#[105, 100]⟩ : ByteArray), .bool true] := f0
 have g0 : a.eval (.tmp 4) = .agg #[.string (⟨#[105, 100]⟩ : ByteArray), .bool true] := by rw [← v0]; exact ev_tmp t0
 refine grow_value (v := .slice (some ⟨w.heap.size, 0, none⟩) 1 1) (w' := w.alloc (.cells #[.string (⟨#[105, 100]⟩ : ByteArray), .bool true] 57 (0, 0))) ?_ ⟨below_alloc (Below.refl _ _) _, ?_⟩
 ·have hop : ((ps_opsOf (ps_seqA (ps_seqB (ps_seqB (ps_seqB (ps_codeOf Try.f24))))))[1]'(by decide)).op = .buildSlice 36 1 #[(0, .tmp 4)] := rfl
  unfold execOp
  simp only [hop, List.map_toArray, List.map_cons, List.map_nil, g0]
  first | (go_simp; done) | (go_simp; rfl)
 ·refine ⟨?_, ?_⟩
  ·show upd vs 1 _ 1 = _
   simp only [upd, if_true]
  ·exact ⟨ps_new w _, by show w.heap.size < (w.heap.push _).size; simp⟩
set_option maxHeartbeats 1000000 in
set_option maxRecDepth 100000 in
theorem ps_step2 (o : Oper) (ho : (ps_opsOf (ps_seqA (ps_seqB (ps_seqB (ps_seqB (ps_codeOf Try.f24))))))[2]? = some o) (vs : Nat → Value) (a : Act) (W w : World) (gb : Nat) (lo hi : Nat → Nat) (hb : Below W.heap.size W w) (hd : ∀ j ∈ psDep 2, a.tmps[j + 4]? = some (vs j) ∧ psPhi j vs w (lo j) (hi j)) (h1 : a.tmps[1]? = some (.pointer (some ⟨gb, 0, none⟩)))
  (hbx : W.heap[gb]? = some (.cells #[.string (⟨#[110, 111, 100, 101, 115]⟩ : ByteArray), .slice none 0 0, .string (⟨#[78, 111, 100, 101]⟩ : ByteArray), .bool true, .bool false] 38 (0, 0))) :
  GrowRes Try.prog (fun v w' => Below w.heap.size w w' ∧ psPhi 2 (upd vs 2 v) w' w.heap.size w'.heap.size) ((execOp a.eval o).run Try.prog w) := by
 obtain rfl := Option.some.inj ho
 obtain ⟨t1, f1⟩ := hd 1 (by decide)
 obtain ⟨v1, c1⟩ : vs 1 = .slice (some ⟨lo 1, 0, none⟩) 1 1 ∧ w.heap[lo 1]? = some (.cells #[.string (⟨#[105, 100]⟩ : ByteArray), .bool true] 57 (0, 0)) ∧ lo 1 < hi 1 := f1
 have g1 : a.eval (.tmp 5) = .slice (some ⟨lo 1, 0, none⟩) 1 1 := by rw [← v1]; exact ev_tmp t1
 have hc := field_s (⟨#[110, 111, 100, 101]⟩ : ByteArray) (⟨#[78, 111, 100, 101]⟩ : ByteArray) false (some ⟨lo 1, 0, none⟩) 1 1 w
 refine grow_call (enters_ Try.func51 (by kernel_rfl) rfl) (by rfl) (by first | rfl | (simp only [List.map_toArray, List.map_cons, List.map_nil, g1]; done) | (simp only [List.map_toArray, List.map_cons, List.map_nil, g1]; rfl)) hc (fun w' hb' => ⟨hb', ?_⟩)
 show upd vs 2 _ 2 = _
 simp only [upd, if_true]
 rw [if_neg (by decide), v1]
set_option maxHeartbeats 1000000 in
set_option maxRecDepth 100000 in
theorem ps_step3 (o : Oper) (ho : (ps_opsOf (ps_seqA (ps_seqB (ps_seqB (ps_seqB (ps_codeOf Try.f24))))))[3]? = some o) (vs : Nat → Value) (a : Act) (W w : World) (gb : Nat) (lo hi : Nat → Nat) (hb : Below W.heap.size W w) (hd : ∀ j ∈ psDep 3, a.tmps[j + 4]? = some (vs j) ∧ psPhi j vs w (lo j) (hi j)) (h1 : a.tmps[1]? = some (.pointer (some ⟨gb, 0, none⟩)))
  (hbx : W.heap[gb]? = some (.cells #[.string (⟨#[110, 111, 100, 101, 115]⟩ : ByteArray), .slice none 0 0, .string (⟨#[78, 111, 100, 101]⟩ : ByteArray), .bool true, .bool false] 38 (0, 0))) :
  GrowRes Try.prog (fun v w' => Below w.heap.size w w' ∧ psPhi 3 (upd vs 3 v) w' w.heap.size w'.heap.size) ((execOp a.eval o).run Try.prog w) := by
 obtain rfl := Option.some.inj ho
 have hc := need_s (⟨#[105, 100]⟩ : ByteArray) w
 refine grow_call (enters_ Try.func52 (by kernel_rfl) rfl) (by rfl) (by first | rfl | (simp only [List.map_toArray, List.map_cons, List.map_nil, Act.eval]; done) | (simp only [List.map_toArray, List.map_cons, List.map_nil, Act.eval]; rfl)) hc (fun w' hb' => ⟨hb', ?_⟩)
 show upd vs 3 _ 3 = _
 simp only [upd, if_true]
set_option maxHeartbeats 1000000 in
set_option maxRecDepth 100000 in
theorem ps_step4 (o : Oper) (ho : (ps_opsOf (ps_seqA (ps_seqB (ps_seqB (ps_seqB (ps_codeOf Try.f24))))))[4]? = some o) (vs : Nat → Value) (a : Act) (W w : World) (gb : Nat) (lo hi : Nat → Nat) (hb : Below W.heap.size W w) (hd : ∀ j ∈ psDep 4, a.tmps[j + 4]? = some (vs j) ∧ psPhi j vs w (lo j) (hi j)) (h1 : a.tmps[1]? = some (.pointer (some ⟨gb, 0, none⟩)))
  (hbx : W.heap[gb]? = some (.cells #[.string (⟨#[110, 111, 100, 101, 115]⟩ : ByteArray), .slice none 0 0, .string (⟨#[78, 111, 100, 101]⟩ : ByteArray), .bool true, .bool false] 38 (0, 0))) :
  GrowRes Try.prog (fun v w' => Below w.heap.size w w' ∧ psPhi 4 (upd vs 4 v) w' w.heap.size w'.heap.size) ((execOp a.eval o).run Try.prog w) := by
 obtain rfl := Option.some.inj ho
 obtain ⟨t3, f3⟩ := hd 3 (by decide)
 have v3 : vs 3 = .agg #[.string (⟨#[105, 100]⟩ : ByteArray), .bool true] := f3
 have g3 : a.eval (.tmp 7) = .agg #[.string (⟨#[105, 100]⟩ : ByteArray), .bool true] := by rw [← v3]; exact ev_tmp t3
 refine grow_value (v := .slice (some ⟨w.heap.size, 0, none⟩) 1 1) (w' := w.alloc (.cells #[.string (⟨#[105, 100]⟩ : ByteArray), .bool true] 57 (0, 0))) ?_ ⟨below_alloc (Below.refl _ _) _, ?_⟩
 ·have hop : ((ps_opsOf (ps_seqA (ps_seqB (ps_seqB (ps_seqB (ps_codeOf Try.f24))))))[4]'(by decide)).op = .buildSlice 36 1 #[(0, .tmp 7)] := rfl
  unfold execOp
  simp only [hop, List.map_toArray, List.map_cons, List.map_nil, g3]
  first | (go_simp; done) | (go_simp; rfl)
 ·refine ⟨?_, ?_⟩
  ·show upd vs 4 _ 4 = _
   simp only [upd, if_true]
  ·exact ⟨ps_new w _, by show w.heap.size < (w.heap.push _).size; simp⟩
set_option maxHeartbeats 1000000 in
set_option maxRecDepth 100000 in
theorem ps_step5 (o : Oper) (ho : (ps_opsOf (ps_seqA (ps_seqB (ps_seqB (ps_seqB (ps_codeOf Try.f24))))))[5]? = some o) (vs : Nat → Value) (a : Act) (W w : World) (gb : Nat) (lo hi : Nat → Nat) (hb : Below W.heap.size W w) (hd : ∀ j ∈ psDep 5, a.tmps[j + 4]? = some (vs j) ∧ psPhi j vs w (lo j) (hi j)) (h1 : a.tmps[1]? = some (.pointer (some ⟨gb, 0, none⟩)))
  (hbx : W.heap[gb]? = some (.cells #[.string (⟨#[110, 111, 100, 101, 115]⟩ : ByteArray), .slice none 0 0, .string (⟨#[78, 111, 100, 101]⟩ : ByteArray), .bool true, .bool false] 38 (0, 0))) :
  GrowRes Try.prog (fun v w' => Below w.heap.size w w' ∧ psPhi 5 (upd vs 5 v) w' w.heap.size w'.heap.size) ((execOp a.eval o).run Try.prog w) := by
 obtain rfl := Option.some.inj ho
 obtain ⟨t4, f4⟩ := hd 4 (by decide)
 obtain ⟨v4, c4⟩ : vs 4 = .slice (some ⟨lo 4, 0, none⟩) 1 1 ∧ w.heap[lo 4]? = some (.cells #[.string (⟨#[105, 100]⟩ : ByteArray), .bool true] 57 (0, 0)) ∧ lo 4 < hi 4 := f4
 have g4 : a.eval (.tmp 8) = .slice (some ⟨lo 4, 0, none⟩) 1 1 := by rw [← v4]; exact ev_tmp t4
 have hc := field_s (⟨#[109, 117, 115, 116]⟩ : ByteArray) (⟨#[78, 111, 100, 101]⟩ : ByteArray) true (some ⟨lo 4, 0, none⟩) 1 1 w
 refine grow_call (enters_ Try.func51 (by kernel_rfl) rfl) (by rfl) (by first | rfl | (simp only [List.map_toArray, List.map_cons, List.map_nil, g4]; done) | (simp only [List.map_toArray, List.map_cons, List.map_nil, g4]; rfl)) hc (fun w' hb' => ⟨hb', ?_⟩)
 show upd vs 5 _ 5 = _
 simp only [upd, if_true]
 rw [if_neg (by decide), v4]
set_option maxHeartbeats 1000000 in
set_option maxRecDepth 100000 in
theorem ps_step6 (o : Oper) (ho : (ps_opsOf (ps_seqA (ps_seqB (ps_seqB (ps_seqB (ps_codeOf Try.f24))))))[6]? = some o) (vs : Nat → Value) (a : Act) (W w : World) (gb : Nat) (lo hi : Nat → Nat) (hb : Below W.heap.size W w) (hd : ∀ j ∈ psDep 6, a.tmps[j + 4]? = some (vs j) ∧ psPhi j vs w (lo j) (hi j)) (h1 : a.tmps[1]? = some (.pointer (some ⟨gb, 0, none⟩)))
  (hbx : W.heap[gb]? = some (.cells #[.string (⟨#[110, 111, 100, 101, 115]⟩ : ByteArray), .slice none 0 0, .string (⟨#[78, 111, 100, 101]⟩ : ByteArray), .bool true, .bool false] 38 (0, 0))) :
  GrowRes Try.prog (fun v w' => Below w.heap.size w w' ∧ psPhi 6 (upd vs 6 v) w' w.heap.size w'.heap.size) ((execOp a.eval o).run Try.prog w) := by
 obtain rfl := Option.some.inj ho
 have hw := blk_below hbx hb
 have c0 : w.cell? ⟨gb, 0, none⟩ = some (.string (⟨#[110, 111, 100, 101, 115]⟩ : ByteArray)) := (blk_cell hw 0).trans rfl
 have c1 : w.cell? ⟨gb, 1, none⟩ = some (.slice none 0 0) := (blk_cell hw 1).trans rfl
 have c2 : w.cell? ⟨gb, 2, none⟩ = some (.string (⟨#[78, 111, 100, 101]⟩ : ByteArray)) := (blk_cell hw 2).trans rfl
 have c3 : w.cell? ⟨gb, 3, none⟩ = some (.bool true) := (blk_cell hw 3).trans rfl
 have c4 : w.cell? ⟨gb, 4, none⟩ = some (.bool false) := (blk_cell hw 4).trans rfl
 have g1 : a.eval (.tmp 1) = .pointer (some ⟨gb, 0, none⟩) := ev_tmp h1
 refine grow_value (v := .agg #[.string (⟨#[110, 111, 100, 101, 115]⟩ : ByteArray), .slice none 0 0, .string (⟨#[78, 111, 100, 101]⟩ : ByteArray), .bool true, .bool false]) (w' := w) ?_ ⟨Below.refl _ _, ?_⟩
 ·have hop : ((ps_opsOf (ps_seqA (ps_seqB (ps_seqB (ps_seqB (ps_codeOf Try.f24))))))[6]'(by decide)).op = .load 38 (.tmp 1) := rfl
  have hu := Try.underlying38
  unfold execOp
  simp only [hop, g1]
  first | (go_simp; done) | (go_simp; rfl)
 ·show upd vs 6 _ 6 = _
  simp only [upd, if_true]
set_option maxHeartbeats 1000000 in
set_option maxRecDepth 100000 in
theorem ps_step7 (o : Oper) (ho : (ps_opsOf (ps_seqA (ps_seqB (ps_seqB (ps_seqB (ps_codeOf Try.f24))))))[7]? = some o) (vs : Nat → Value) (a : Act) (W w : World) (gb : Nat) (lo hi : Nat → Nat) (hb : Below W.heap.size W w) (hd : ∀ j ∈ psDep 7, a.tmps[j + 4]? = some (vs j) ∧ psPhi j vs w (lo j) (hi j)) (h1 : a.tmps[1]? = some (.pointer (some ⟨gb, 0, none⟩)))
  (hbx : W.heap[gb]? = some (.cells #[.string (⟨#[110, 111, 100, 101, 115]⟩ : ByteArray), .slice none 0 0, .string (⟨#[78, 111, 100, 101]⟩ : ByteArray), .bool true, .bool false] 38 (0, 0))) :
  GrowRes Try.prog (fun v w' => Below w.heap.size w w' ∧ psPhi 7 (upd vs 7 v) w' w.heap.size w'.heap.size) ((execOp a.eval o).run Try.prog w) := by
 obtain rfl := Option.some.inj ho
 have hc := field_s (⟨#[115, 105, 122, 101]⟩ : ByteArray) (⟨#[73, 110, 116]⟩ : ByteArray) true none 0 0 w
 refine grow_call (enters_ Try.func51 (by kernel_rfl) rfl) (by rfl) (by first | rfl | (simp only [List.map_toArray, List.map_cons, List.map_nil, Act.eval]; done) | (simp only [List.map_toArray, List.map_cons, List.map_nil, Act.eval]; rfl)) hc (fun w' hb' => ⟨hb', ?_⟩)
 show upd vs 7 _ 7 = _
 simp only [upd, if_true]
set_option maxHeartbeats 1000000 in
set_option maxRecDepth 100000 in
theorem ps_step8 (o : Oper) (ho : (ps_opsOf (ps_seqA (ps_seqB (ps_seqB (ps_seqB (ps_codeOf Try.f24))))))[8]? = some o) (vs : Nat → Value) (a : Act) (W w : World) (gb : Nat) (lo hi : Nat → Nat) (hb : Below W.heap.size W w) (hd : ∀ j ∈ psDep 8, a.tmps[j + 4]? = some (vs j) ∧ psPhi j vs w (lo j) (hi j)) (h1 : a.tmps[1]? = some (.pointer (some ⟨gb, 0, none⟩)))
  (hbx : W.heap[gb]? = some (.cells #[.string (⟨#[110, 111, 100, 101, 115]⟩ : ByteArray), .slice none 0 0, .string (⟨#[78, 111, 100, 101]⟩ : ByteArray), .bool true, .bool false] 38 (0, 0))) :
  GrowRes Try.prog (fun v w' => Below w.heap.size w w' ∧ psPhi 8 (upd vs 8 v) w' w.heap.size w'.heap.size) ((execOp a.eval o).run Try.prog w) := by
 obtain rfl := Option.some.inj ho
 obtain ⟨t2, f2⟩ := hd 2 (by decide)
 have v2 : vs 2 = .agg #[.string (⟨#[110, 111, 100, 101]⟩ : ByteArray), vs 1, .string (⟨#[78, 111, 100, 101]⟩ : ByteArray), .bool false, .bool false] := f2
 have g2 : a.eval (.tmp 6) = .agg #[.string (⟨#[110, 111, 100, 101]⟩ : ByteArray), vs 1, .string (⟨#[78, 111, 100, 101]⟩ : ByteArray), .bool false, .bool false] := by rw [← v2]; exact ev_tmp t2
 obtain ⟨t5, f5⟩ := hd 5 (by decide)
 have v5 : vs 5 = .agg #[.string (⟨#[109, 117, 115, 116]⟩ : ByteArray), vs 4, .string (⟨#[78, 111, 100, 101]⟩ : ByteArray), .bool false, .bool true] := f5
 have g5 : a.eval (.tmp 9) = .agg #[.string (⟨#[109, 117, 115, 116]⟩ : ByteArray), vs 4, .string (⟨#[78, 111, 100, 101]⟩ : ByteArray), .bool false, .bool true] := by rw [← v5]; exact ev_tmp t5
 obtain ⟨t6, f6⟩ := hd 6 (by decide)
 have v6 : vs 6 = .agg #[.string (⟨#[110, 111, 100, 101, 115]⟩ : ByteArray), .slice none 0 0, .string (⟨#[78, 111, 100, 101]⟩ : ByteArray), .bool true, .bool false] := f6
 have g6 : a.eval (.tmp 10) = .agg #[.string (⟨#[110, 111, 100, 101, 115]⟩ : ByteArray), .slice none 0 0, .string (⟨#[78, 111, 100, 101]⟩ : ByteArray), .bool true, .bool false] := by rw [← v6]; exact ev_tmp t6
 obtain ⟨t7, f7⟩ := hd 7 (by decide)
 have v7 : vs 7 = .agg #[.string (⟨#[115, 105, 122, 101]⟩ : ByteArray), .slice none 0 0, .string (⟨#[73, 110, 116]⟩ : ByteArray), .bool false, .bool true] := f7
 have g7 : a.eval (.tmp 11) = .agg #[.string (⟨#[115, 105, 122, 101]⟩ : ByteArray), .slice none 0 0, .string (⟨#[73, 110, 116]⟩ : ByteArray), .bool false, .bool true] := by rw [← v7]; exact ev_tmp t7
 refine grow_value (v := .slice (some ⟨w.heap.size, 0, none⟩) 4 4) (w' := w.alloc (.cells #[.string (⟨#[110, 111, 100, 101]⟩ : ByteArray), vs 1, .string (⟨#[78, 111, 100, 101]⟩ : ByteArray), .bool false, .bool false, .string (⟨#[109, 117, 115, 116]⟩ : ByteArray), vs 4, .string (⟨#[78, 111, 100, 101]⟩ : ByteArray), .bool false, .bool true, .string (⟨#[110, 111, 100, 101, 115]⟩ : ByteArray), .slice none 0 0, .string (⟨#[78, 111, 100, 101]⟩ : ByteArray), .bool true, .bool false, .string (⟨#[115, 105, 122, 101]⟩ : ByteArray), .slice none 0 0, .string (⟨#[73, 110, 116]⟩ : ByteArray), .bool false, .bool true] 38 (0, 0))) ?_ ⟨below_alloc (Below.refl _ _) _, ?_⟩
 ·have hop : ((ps_opsOf (ps_seqA (ps_seqB (ps_seqB (ps_seqB (ps_codeOf Try.f24))))))[8]'(by decide)).op = .buildSlice 51 4 #[(0, .tmp 6), (1, .tmp 9), (2, .tmp 10), (3, .tmp 11)] := rfl
  unfold execOp
  simp only [hop, List.map_toArray, List.map_cons, List.map_nil, g2, g5, g6, g7]
  first | (go_simp; done) | (go_simp; rfl)
 ·refine ⟨?_, ?_⟩
  ·show upd vs 8 _ 8 = _
   simp only [upd, if_true]
  ·exact ⟨ps_new w _, by show w.heap.size < (w.heap.push _).size; simp⟩
set_option maxHeartbeats 1000000 in
set_option maxRecDepth 100000 in
theorem ps_step9 (o : Oper) (ho : (ps_opsOf (ps_seqA (ps_seqB (ps_seqB (ps_seqB (ps_codeOf Try.f24))))))[9]? = some o) (vs : Nat → Value) (a : Act) (W w : World) (gb : Nat) (lo hi : Nat → Nat) (hb : Below W.heap.size W w) (hd : ∀ j ∈ psDep 9, a.tmps[j + 4]? = some (vs j) ∧ psPhi j vs w (lo j) (hi j)) (h1 : a.tmps[1]? = some (.pointer (some ⟨gb, 0, none⟩)))
  (hbx : W.heap[gb]? = some (.cells #[.string (⟨#[110, 111, 100, 101, 115]⟩ : ByteArray), .slice none 0 0, .string (⟨#[78, 111, 100, 101]⟩ : ByteArray), .bool true, .bool false] 38 (0, 0))) :
  GrowRes Try.prog (fun v w' => Below w.heap.size w w' ∧ psPhi 9 (upd vs 9 v) w' w.heap.size w'.heap.size) ((execOp a.eval o).run Try.prog w) := by
 obtain rfl := Option.some.inj ho
 obtain ⟨t8, f8⟩ := hd 8 (by decide)
 obtain ⟨v8, c8⟩ : vs 8 = .slice (some ⟨lo 8, 0, none⟩) 4 4 ∧ w.heap[lo 8]? = some (.cells #[.string (⟨#[110, 111, 100, 101]⟩ : ByteArray), vs 1, .string (⟨#[78, 111, 100, 101]⟩ : ByteArray), .bool false, .bool false, .string (⟨#[109, 117, 115, 116]⟩ : ByteArray), vs 4, .string (⟨#[78, 111, 100, 101]⟩ : ByteArray), .bool false, .bool true, .string (⟨#[110, 111, 100, 101, 115]⟩ : ByteArray), .slice none 0 0, .string (⟨#[78, 111, 100, 101]⟩ : ByteArray), .bool true, .bool false, .string (⟨#[115, 105, 122, 101]⟩ : ByteArray), .slice none 0 0, .string (⟨#[73, 110, 116]⟩ : ByteArray), .bool false, .bool true] 38 (0, 0)) ∧ lo 8 < hi 8 := f8
 have g8 : a.eval (.tmp 12) = .slice (some ⟨lo 8, 0, none⟩) 4 4 := by rw [← v8]; exact ev_tmp t8
 have hu := Try.underlying53
 refine grow_value (v := .agg #[.string (⟨#[81, 117, 101, 114, 121]⟩ : ByteArray), vs 8]) (w' := w) ?_ ⟨Below.refl _ _, ?_⟩
 ·have hop : ((ps_opsOf (ps_seqA (ps_seqB (ps_seqB (ps_seqB (ps_codeOf Try.f24))))))[9]'(by decide)).op = .build 53 #[(0, .const (.string (⟨#[81, 117, 101, 114, 121]⟩ : ByteArray))), (1, .tmp 12)] := rfl
  unfold execOp
  simp only [hop, List.map_toArray, List.map_cons, List.map_nil, g8]
  rw [v8]
  first | (go_simp; done) | (go_simp; rfl)
 ·show upd vs 9 _ 9 = _
  simp only [upd, if_true]
  rw [if_neg (by decide)]
set_option maxHeartbeats 1000000 in
set_option maxRecDepth 100000 in
theorem ps_step10 (o : Oper) (ho : (ps_opsOf (ps_seqA (ps_seqB (ps_seqB (ps_seqB (ps_codeOf Try.f24))))))[10]? = some o) (vs : Nat → Value) (a : Act) (W w : World) (gb : Nat) (lo hi : Nat → Nat) (hb : Below W.heap.size W w) (hd : ∀ j ∈ psDep 10, a.tmps[j + 4]? = some (vs j) ∧ psPhi j vs w (lo j) (hi j)) (h1 : a.tmps[1]? = some (.pointer (some ⟨gb, 0, none⟩)))
  (hbx : W.heap[gb]? = some (.cells #[.string (⟨#[110, 111, 100, 101, 115]⟩ : ByteArray), .slice none 0 0, .string (⟨#[78, 111, 100, 101]⟩ : ByteArray), .bool true, .bool false] 38 (0, 0))) :
  GrowRes Try.prog (fun v w' => Below w.heap.size w w' ∧ psPhi 10 (upd vs 10 v) w' w.heap.size w'.heap.size) ((execOp a.eval o).run Try.prog w) := by
 obtain rfl := Option.some.inj ho
 have hc := need_s (⟨#[105, 100]⟩ : ByteArray) w
 refine grow_call (enters_ Try.func52 (by kernel_rfl) rfl) (by rfl) (by first | rfl | (simp only [List.map_toArray, List.map_cons, List.map_nil, Act.eval]; done) | (simp only [List.map_toArray, List.map_cons, List.map_nil, Act.eval]; rfl)) hc (fun w' hb' => ⟨hb', ?_⟩)
 show upd vs 10 _ 10 = _
 simp only [upd, if_true]
set_option maxHeartbeats 1000000 in
set_option maxRecDepth 100000 in
theorem ps_step11 (o : Oper) (ho : (ps_opsOf (ps_seqA (ps_seqB (ps_seqB (ps_seqB (ps_codeOf Try.f24))))))[11]? = some o) (vs : Nat → Value) (a : Act) (W w : World) (gb : Nat) (lo hi : Nat → Nat) (hb : Below W.heap.size W w) (hd : ∀ j ∈ psDep 11, a.tmps[j + 4]? = some (vs j) ∧ psPhi j vs w (lo j) (hi j)) (h1 : a.tmps[1]? = some (.pointer (some ⟨gb, 0, none⟩)))
  (hbx : W.heap[gb]? = some (.cells #[.string (⟨#[110, 111, 100, 101, 115]⟩ : ByteArray), .slice none 0 0, .string (⟨#[78, 111, 100, 101]⟩ : ByteArray), .bool true, .bool false] 38 (0, 0))) :
  GrowRes Try.prog (fun v w' => Below w.heap.size w w' ∧ psPhi 11 (upd vs 11 v) w' w.heap.size w'.heap.size) ((execOp a.eval o).run Try.prog w) := by
 obtain rfl := Option.some.inj ho
 have hc := need_s (⟨#[118, 97, 108, 117, 101]⟩ : ByteArray) w
 refine grow_call (enters_ Try.func52 (by kernel_rfl) rfl) (by rfl) (by first | rfl | (simp only [List.map_toArray, List.map_cons, List.map_nil, Act.eval]; done) | (simp only [List.map_toArray, List.map_cons, List.map_nil, Act.eval]; rfl)) hc (fun w' hb' => ⟨hb', ?_⟩)
 show upd vs 11 _ 11 = _
 simp only [upd, if_true]
set_option maxHeartbeats 1000000 in
set_option maxRecDepth 100000 in
theorem ps_step12 (o : Oper) (ho : (ps_opsOf (ps_seqA (ps_seqB (ps_seqB (ps_seqB (ps_codeOf Try.f24))))))[12]? = some o) (vs : Nat → Value) (a : Act) (W w : World) (gb : Nat) (lo hi : Nat → Nat) (hb : Below W.heap.size W w) (hd : ∀ j ∈ psDep 12, a.tmps[j + 4]? = some (vs j) ∧ psPhi j vs w (lo j) (hi j)) (h1 : a.tmps[1]? = some (.pointer (some ⟨gb, 0, none⟩)))
  (hbx : W.heap[gb]? = some (.cells #[.string (⟨#[110, 111, 100, 101, 115]⟩ : ByteArray), .slice none 0 0, .string (⟨#[78, 111, 100, 101]⟩ : ByteArray), .bool true, .bool false] 38 (0, 0))) :
  GrowRes Try.prog (fun v w' => Below w.heap.size w w' ∧ psPhi 12 (upd vs 12 v) w' w.heap.size w'.heap.size) ((execOp a.eval o).run Try.prog w) := by
 obtain rfl := Option.some.inj ho
 obtain ⟨t10, f10⟩ := hd 10 (by decide)
 have v10 : vs 10 = .agg #[.string (⟨#[105, 100]⟩ : ByteArray), .bool true] := f10
 have g10 : a.eval (.tmp 14) = .agg #[.string (⟨#[105, 100]⟩ : ByteArray), .bool true] := by rw [← v10]; exact ev_tmp t10
 obtain ⟨t11, f11⟩ := hd 11 (by decide)
 have v11 : vs 11 = .agg #[.string (⟨#[118, 97, 108, 117, 101]⟩ : ByteArray), .bool true] := f11
 have g11 : a.eval (.tmp 15) = .agg #[.string (⟨#[118, 97, 108, 117, 101]⟩ : ByteArray), .bool true] := by rw [← v11]; exact ev_tmp t11
 refine grow_value (v := .slice (some ⟨w.heap.size, 0, none⟩) 2 2) (w' := w.alloc (.cells #[.string (⟨#[105, 100]⟩ : ByteArray), .bool true, .string (⟨#[118, 97, 108, 117, 101]⟩ : ByteArray), .bool true] 57 (0, 0))) ?_ ⟨below_alloc (Below.refl _ _) _, ?_⟩
 ·have hop : ((ps_opsOf (ps_seqA (ps_seqB (ps_seqB (ps_seqB (ps_codeOf Try.f24))))))[12]'(by decide)).op = .buildSlice 36 2 #[(0, .tmp 14), (1, .tmp 15)] := rfl
  unfold execOp
  simp only [hop, List.map_toArray, List.map_cons, List.map_nil, g10, g11]
  first | (go_simp; done) | (go_simp; rfl)
 ·refine ⟨?_, ?_⟩
  ·show upd vs 12 _ 12 = _
   simp only [upd, if_true]
  ·exact ⟨ps_new w _, by show w.heap.size < (w.heap.push _).size; simp⟩
set_option maxHeartbeats 1000000 in
set_option maxRecDepth 100000 in
theorem ps_step13 (o : Oper) (ho : (ps_opsOf (ps_seqA (ps_seqB (ps_seqB (ps_seqB (ps_codeOf Try.f24))))))[13]? = some o) (vs : Nat → Value) (a : Act) (W w : World) (gb : Nat) (lo hi : Nat → Nat) (hb : Below W.heap.size W w) (hd : ∀ j ∈ psDep 13, a.tmps[j + 4]? = some (vs j) ∧ psPhi j vs w (lo j) (hi j)) (h1 : a.tmps[1]? = some (.pointer (some ⟨gb, 0, none⟩)))
  (hbx : W.heap[gb]? = some (.cells #[.string (⟨#[110, 111, 100, 101, 115]⟩ : ByteArray), .slice none 0 0, .string (⟨#[78, 111, 100, 101]⟩ : ByteArray), .bool true, .bool false] 38 (0, 0))) :
  GrowRes Try.prog (fun v w' => Below w.heap.size w w' ∧ psPhi 13 (upd vs 13 v) w' w.heap.size w'.heap.size) ((execOp a.eval o).run Try.prog w) := by
 obtain rfl := Option.some.inj ho
 obtain ⟨t12, f12⟩ := hd 12 (by decide)
 obtain ⟨v12, c12⟩ : vs 12 = .slice (some ⟨lo 12, 0, none⟩) 2 2 ∧ w.heap[lo 12]? = some (.cells #[.string (⟨#[105, 100]⟩ : ByteArray), .bool true, .string (⟨#[118, 97, 108, 117, 101]⟩ : ByteArray), .bool true] 57 (0, 0)) ∧ lo 12 < hi 12 := f12
 have g12 : a.eval (.tmp 16) = .slice (some ⟨lo 12, 0, none⟩) 2 2 := by rw [← v12]; exact ev_tmp t12
 have hc := field_s (⟨#[115, 101, 116]⟩ : ByteArray) (⟨#[78, 111, 100, 101]⟩ : ByteArray) false (some ⟨lo 12, 0, none⟩) 2 2 w
 refine grow_call (enters_ Try.func51 (by kernel_rfl) rfl) (by rfl) (by first | rfl | (simp only [List.map_toArray, List.map_cons, List.map_nil, g12]; done) | (simp only [List.map_toArray, List.map_cons, List.map_nil, g12]; rfl)) hc (fun w' hb' => ⟨hb', ?_⟩)
 show upd vs 13 _ 13 = _
 simp only [upd, if_true]
 rw [if_neg (by decide), v12]
set_option maxHeartbeats 1000000 in
set_option maxRecDepth 100000 in
theorem ps_step14 (o : Oper) (ho : (ps_opsOf (ps_seqA (ps_seqB (ps_seqB (ps_seqB (ps_codeOf Try.f24))))))[14]? = some o) (vs : Nat → Value) (a : Act) (W w : World) (gb : Nat) (lo hi : Nat → Nat) (hb : Below W.heap.size W w) (hd : ∀ j ∈ psDep 14, a.tmps[j + 4]? = some (vs j) ∧ psPhi j vs w (lo j) (hi j)) (h1 : a.tmps[1]? = some (.pointer (some ⟨gb, 0, none⟩)))
  (hbx : W.heap[gb]? = some (.cells #[.string (⟨#[110, 111, 100, 101, 115]⟩ : ByteArray), .slice none 0 0, .string (⟨#[78, 111, 100, 101]⟩ : ByteArray), .bool true, .bool false] 38 (0, 0))) :
  GrowRes Try.prog (fun v w' => Below w.heap.size w w' ∧ psPhi 14 (upd vs 14 v) w' w.heap.size w'.heap.size) ((execOp a.eval o).run Try.prog w) := by
 obtain rfl := Option.some.inj ho
 have hc := need_s (⟨#[105, 100]⟩ : ByteArray) w
 refine grow_call (enters_ Try.func52 (by kernel_rfl) rfl) (by rfl) (by first | rfl | (simp only [List.map_toArray, List.map_cons, List.map_nil, Act.eval]; done) | (simp only [List.map_toArray, List.map_cons, List.map_nil, Act.eval]; rfl)) hc (fun w' hb' => ⟨hb', ?_⟩)
 show upd vs 14 _ 14 = _
 simp only [upd, if_true]
set_option maxHeartbeats 1000000 in
set_option maxRecDepth 100000 in
theorem ps_step15 (o : Oper) (ho : (ps_opsOf (ps_seqA (ps_seqB (ps_seqB (ps_seqB (ps_codeOf Try.f24))))))[15]? = some o) (vs : Nat → Value) (a : Act) (W w : World) (gb : Nat) (lo hi : Nat → Nat) (hb : Below W.heap.size W w) (hd : ∀ j ∈ psDep 15, a.tmps[j + 4]? = some (vs j) ∧ psPhi j vs w (lo j) (hi j)) (h1 : a.tmps[1]? = some (.pointer (some ⟨gb, 0, none⟩)))
  (hbx : W.heap[gb]? = some (.cells #[.string (⟨#[110, 111, 100, 101, 115]⟩ : ByteArray), .slice none 0 0, .string (⟨#[78, 111, 100, 101]⟩ : ByteArray), .bool true, .bool false] 38 (0, 0))) :
  GrowRes Try.prog (fun v w' => Below w.heap.size w w' ∧ psPhi 15 (upd vs 15 v) w' w.heap.size w'.heap.size) ((execOp a.eval o).run Try.prog w) := by
 obtain rfl := Option.some.inj ho
 have hc := need_s (⟨#[98, 121]⟩ : ByteArray) w
 refine grow_call (enters_ Try.func52 (by kernel_rfl) rfl) (by rfl) (by first | rfl | (simp only [List.map_toArray, List.map_cons, List.map_nil, Act.eval]; done) | (simp only [List.map_toArray, List.map_cons, List.map_nil, Act.eval]; rfl)) hc (fun w' hb' => ⟨hb', ?_⟩)
 show upd vs 15 _ 15 = _
 simp only [upd, if_true]
set_option maxHeartbeats 1000000 in
set_option maxRecDepth 100000 in
theorem ps_step16 (o : Oper) (ho : (ps_opsOf (ps_seqA (ps_seqB (ps_seqB (ps_seqB (ps_codeOf Try.f24))))))[16]? = some o) (vs : Nat → Value) (a : Act) (W w : World) (gb : Nat) (lo hi : Nat → Nat) (hb : Below W.heap.size W w) (hd : ∀ j ∈ psDep 16, a.tmps[j + 4]? = some (vs j) ∧ psPhi j vs w (lo j) (hi j)) (h1 : a.tmps[1]? = some (.pointer (some ⟨gb, 0, none⟩)))
  (hbx : W.heap[gb]? = some (.cells #[.string (⟨#[110, 111, 100, 101, 115]⟩ : ByteArray), .slice none 0 0, .string (⟨#[78, 111, 100, 101]⟩ : ByteArray), .bool true, .bool false] 38 (0, 0))) :
  GrowRes Try.prog (fun v w' => Below w.heap.size w w' ∧ psPhi 16 (upd vs 16 v) w' w.heap.size w'.heap.size) ((execOp a.eval o).run Try.prog w) := by
 obtain rfl := Option.some.inj ho
 obtain ⟨t14, f14⟩ := hd 14 (by decide)
 have v14 : vs 14 = .agg #[.string (⟨#[105, 100]⟩ : ByteArray), .bool true] := f14
 have g14 : a.eval (.tmp 18) = .agg #[.string (⟨#[105, 100]⟩ : ByteArray), .bool true] := by rw [← v14]; exact ev_tmp t14
 obtain ⟨t15, f15⟩ := hd 15 (by decide)
 have v15 : vs 15 = .agg #[.string (⟨#[98, 121]⟩ : ByteArray), .bool true] := f15
 have g15 : a.eval (.tmp 19) = .agg #[.string (⟨#[98, 121]⟩ : ByteArray), .bool true] := by rw [← v15]; exact ev_tmp t15
 refine grow_value (v := .slice (some ⟨w.heap.size, 0, none⟩) 2 2) (w' := w.alloc (.cells #[.string (⟨#[105, 100]⟩ : ByteArray), .bool true, .string (⟨#[98, 121]⟩ : ByteArray), .bool true] 57 (0, 0))) ?_ ⟨below_alloc (Below.refl _ _) _, ?_⟩
 ·have hop : ((ps_opsOf (ps_seqA (ps_seqB (ps_seqB (ps_seqB (ps_codeOf Try.f24))))))[16]'(by decide)).op = .buildSlice 36 2 #[(0, .tmp 18), (1, .tmp 19)] := rfl
  unfold execOp
  simp only [hop, List.map_toArray, List.map_cons, List.map_nil, g14, g15]
  first | (go_simp; done) | (go_simp; rfl)
 ·refine ⟨?_, ?_⟩
  ·show upd vs 16 _ 16 = _
   simp only [upd, if_true]
  ·exact ⟨ps_new w _, by show w.heap.size < (w.heap.push _).size; simp⟩
set_option maxHeartbeats 1000000 in
set_option maxRecDepth 100000 in
theorem ps_step17 (o : Oper) (ho : (ps_opsOf (ps_seqA (ps_seqB (ps_seqB (ps_seqB (ps_codeOf Try.f24))))))[17]? = some o) (vs : Nat → Value) (a : Act) (W w : World) (gb : Nat) (lo hi : Nat → Nat) (hb : Below W.heap.size W w) (hd : ∀ j ∈ psDep 17, a.tmps[j + 4]? = some (vs j) ∧ psPhi j vs w (lo j) (hi j)) (h1 : a.tmps[1]? = some (.pointer (some ⟨gb, 0, none⟩)))
  (hbx : W.heap[gb]? = some (.cells #[.string (⟨#[110, 111, 100, 101, 115]⟩ : ByteArray), .slice none 0 0, .string (⟨#[78, 111, 100, 101]⟩ : ByteArray), .bool true, .bool false] 38 (0, 0))) :
  GrowRes Try.prog (fun v w' => Below w.heap.size w w' ∧ psPhi 17 (upd vs 17 v) w' w.heap.size w'.heap.size) ((execOp a.eval o).run Try.prog w) := by
 obtain rfl := Option.some.inj ho
 obtain ⟨t16, f16⟩ := hd 16 (by decide)
 obtain ⟨v16, c16⟩ : vs 16 = .slice (some ⟨lo 16, 0, none⟩) 2 2 ∧ w.heap[lo 16]? = some (.cells #[.string (⟨#[105, 100]⟩ : ByteArray), .bool true, .string (⟨#[98, 121]⟩ : ByteArray), .bool true] 57 (0, 0)) ∧ lo 16 < hi 16 := f16
 have g16 : a.eval (.tmp 20) = .slice (some ⟨lo 16, 0, none⟩) 2 2 := by rw [← v16]; exact ev_tmp t16
 have hc := field_s (⟨#[97, 100, 100]⟩ : ByteArray) (⟨#[78, 111, 100, 101]⟩ : ByteArray) false (some ⟨lo 16, 0, none⟩) 2 2 w
 refine grow_call (enters_ Try.func51 (by kernel_rfl) rfl) (by rfl) (by first | rfl | (simp only [List.map_toArray, List.map_cons, List.map_nil, g16]; done) | (simp only [List.map_toArray, List.map_cons, List.map_nil, g16]; rfl)) hc (fun w' hb' => ⟨hb', ?_⟩)
 show upd vs 17 _ 17 = _
 simp only [upd, if_true]
 rw [if_neg (by decide), v16]
set_option maxHeartbeats 1000000 in
set_option maxRecDepth 100000 in
theorem ps_step18 (o : Oper) (ho : (ps_opsOf (ps_seqA (ps_seqB (ps_seqB (ps_seqB (ps_codeOf Try.f24))))))[18]? = some o) (vs : Nat → Value) (a : Act) (W w : World) (gb : Nat) (lo hi : Nat → Nat) (hb : Below W.heap.size W w) (hd : ∀ j ∈ psDep 18, a.tmps[j + 4]? = some (vs j) ∧ psPhi j vs w (lo j) (hi j)) (h1 : a.tmps[1]? = some (.pointer (some ⟨gb, 0, none⟩)))
  (hbx : W.heap[gb]? = some (.cells #[.string (⟨#[110, 111, 100, 101, 115]⟩ : ByteArray), .slice none 0 0, .string (⟨#[78, 111, 100, 101]⟩ : ByteArray), .bool true, .bool false] 38 (0, 0))) :
  GrowRes Try.prog (fun v w' => Below w.heap.size w w' ∧ psPhi 18 (upd vs 18 v) w' w.heap.size w'.heap.size) ((execOp a.eval o).run Try.prog w) := by
 obtain rfl := Option.some.inj ho
 have hc := need_s (⟨#[105, 100]⟩ : ByteArray) w
 refine grow_call (enters_ Try.func52 (by kernel_rfl) rfl) (by rfl) (by first | rfl | (simp only [List.map_toArray, List.map_cons, List.map_nil, Act.eval]; done) | (simp only [List.map_toArray, List.map_cons, List.map_nil, Act.eval]; rfl)) hc (fun w' hb' => ⟨hb', ?_⟩)
 show upd vs 18 _ 18 = _
 simp only [upd, if_true]
set_option maxHeartbeats 1000000 in
set_option maxRecDepth 100000 in
theorem ps_step19 (o : Oper) (ho : (ps_opsOf (ps_seqA (ps_seqB (ps_seqB (ps_seqB (ps_codeOf Try.f24))))))[19]? = some o) (vs : Nat → Value) (a : Act) (W w : World) (gb : Nat) (lo hi : Nat → Nat) (hb : Below W.heap.size W w) (hd : ∀ j ∈ psDep 19, a.tmps[j + 4]? = some (vs j) ∧ psPhi j vs w (lo j) (hi j)) (h1 : a.tmps[1]? = some (.pointer (some ⟨gb, 0, none⟩)))
  (hbx : W.heap[gb]? = some (.cells #[.string (⟨#[110, 111, 100, 101, 115]⟩ : ByteArray), .slice none 0 0, .string (⟨#[78, 111, 100, 101]⟩ : ByteArray), .bool true, .bool false] 38 (0, 0))) :
  GrowRes Try.prog (fun v w' => Below w.heap.size w w' ∧ psPhi 19 (upd vs 19 v) w' w.heap.size w'.heap.size) ((execOp a.eval o).run Try.prog w) := by
 obtain rfl := Option.some.inj ho
 have hu := Try.underlying57
 refine grow_value (v := .agg #[.string (⟨#[116, 111]⟩ : ByteArray), .bool false]) (w' := w) ?_ ⟨Below.refl _ _, ?_⟩
 ·have hop : ((ps_opsOf (ps_seqA (ps_seqB (ps_seqB (ps_seqB (ps_codeOf Try.f24))))))[19]'(by decide)).op = .build 57 #[(0, .const (.string (⟨#[116, 111]⟩ : ByteArray)))] := rfl
  unfold execOp
  simp only [hop, List.map_toArray, List.map_cons, List.map_nil]
  skip
  first | (go_simp; done) | (go_simp; rfl)
 ·show upd vs 19 _ 19 = _
  simp only [upd, if_true]
  skip
set_option maxHeartbeats 1000000 in
set_option maxRecDepth 100000 in
theorem ps_step20 (o : Oper) (ho : (ps_opsOf (ps_seqA (ps_seqB (ps_seqB (ps_seqB (ps_codeOf Try.f24))))))[20]? = some o) (vs : Nat → Value) (a : Act) (W w : World) (gb : Nat) (lo hi : Nat → Nat) (hb : Below W.heap.size W w) (hd : ∀ j ∈ psDep 20, a.tmps[j + 4]? = some (vs j) ∧ psPhi j vs w (lo j) (hi j)) (h1 : a.tmps[1]? = some (.pointer (some ⟨gb, 0, none⟩)))
  (hbx : W.heap[gb]? = some (.cells #[.string (⟨#[110, 111, 100, 101, 115]⟩ : ByteArray), .slice none 0 0, .string (⟨#[78, 111, 100, 101]⟩ : ByteArray), .bool true, .bool false] 38 (0, 0))) :
  GrowRes Try.prog (fun v w' => Below w.heap.size w w' ∧ psPhi 20 (upd vs 20 v) w' w.heap.size w'.heap.size) ((execOp a.eval o).run Try.prog w) := by
 obtain rfl := Option.some.inj ho
 obtain ⟨t18, f18⟩ := hd 18 (by decide)
 have v18 : vs 18 = .agg #[.string (⟨#[105, 100]⟩ : ByteArray), .bool true] := f18
 have g18 : a.eval (.tmp 22) = .agg #[.string (⟨#[105, 100]⟩ : ByteArray), .bool true] := by rw [← v18]; exact ev_tmp t18
 obtain ⟨t19, f19⟩ := hd 19 (by decide)
 have v19 : vs 19 = .agg #[.string (⟨#[116, 111]⟩ : ByteArray), .bool false] := f19
 have g19 : a.eval (.tmp 23) = .agg #[.string (⟨#[116, 111]⟩ : ByteArray), .bool false] := by rw [← v19]; exact ev_tmp t19
 refine grow_value (v := .slice (some ⟨w.heap.size, 0, none⟩) 2 2) (w' := w.alloc (.cells #[.string (⟨#[105, 100]⟩ : ByteArray), .bool true, .string (⟨#[116, 111]⟩ : ByteArray), .bool false] 57 (0, 0))) ?_ ⟨below_alloc (Below.refl _ _) _, ?_⟩
 ·have hop : ((ps_opsOf (ps_seqA (ps_seqB (ps_seqB (ps_seqB (ps_codeOf Try.f24))))))[20]'(by decide)).op = .buildSlice 36 2 #[(0, .tmp 22), (1, .tmp 23)] := rfl
  unfold execOp
  simp only [hop, List.map_toArray, List.map_cons, List.map_nil, g18, g19]
  first | (go_simp; done) | (go_simp; rfl)
 ·refine ⟨?_, ?_⟩
  ·show upd vs 20 _ 20 = _
   simp only [upd, if_true]
  ·exact ⟨ps_new w _, by show w.heap.size < (w.heap.push _).size; simp⟩
set_option maxHeartbeats 1000000 in
set_option maxRecDepth 100000 in
theorem ps_step21 (o : Oper) (ho : (ps_opsOf (ps_seqA (ps_seqB (ps_seqB (ps_seqB (ps_codeOf Try.f24))))))[21]? = some o) (vs : Nat → Value) (a : Act) (W w : World) (gb : Nat) (lo hi : Nat → Nat) (hb : Below W.heap.size W w) (hd : ∀ j ∈ psDep 21, a.tmps[j + 4]? = some (vs j) ∧ psPhi j vs w (lo j) (hi j)) (h1 : a.tmps[1]? = some (.pointer (some ⟨gb, 0, none⟩)))
  (hbx : W.heap[gb]? = some (.cells #[.string (⟨#[110, 111, 100, 101, 115]⟩ : ByteArray), .slice none 0 0, .string (⟨#[78, 111, 100, 101]⟩ : ByteArray), .bool true, .bool false] 38 (0, 0))) :
  GrowRes Try.prog (fun v w' => Below w.heap.size w w' ∧ psPhi 21 (upd vs 21 v) w' w.heap.size w'.heap.size) ((execOp a.eval o).run Try.prog w) := by
 obtain rfl := Option.some.inj ho
 obtain ⟨t20, f20⟩ := hd 20 (by decide)
 obtain ⟨v20, c20⟩ : vs 20 = .slice (some ⟨lo 20, 0, none⟩) 2 2 ∧ w.heap[lo 20]? = some (.cells #[.string (⟨#[105, 100]⟩ : ByteArray), .bool true, .string (⟨#[116, 111]⟩ : ByteArray), .bool false] 57 (0, 0)) ∧ lo 20 < hi 20 := f20
 have g20 : a.eval (.tmp 24) = .slice (some ⟨lo 20, 0, none⟩) 2 2 := by rw [← v20]; exact ev_tmp t20
 have hc := field_s (⟨#[108, 105, 110, 107]⟩ : ByteArray) (⟨#[78, 111, 100, 101]⟩ : ByteArray) false (some ⟨lo 20, 0, none⟩) 2 2 w
 refine grow_call (enters_ Try.func51 (by kernel_rfl) rfl) (by rfl) (by first | rfl | (simp only [List.map_toArray, List.map_cons, List.map_nil, g20]; done) | (simp only [List.map_toArray, List.map_cons, List.map_nil, g20]; rfl)) hc (fun w' hb' => ⟨hb', ?_⟩)
 show upd vs 21 _ 21 = _
 simp only [upd, if_true]
 rw [if_neg (by decide), v20]
set_option maxHeartbeats 1000000 in
set_option maxRecDepth 100000 in
theorem ps_step22 (o : Oper) (ho : (ps_opsOf (ps_seqA (ps_seqB (ps_seqB (ps_seqB (ps_codeOf Try.f24))))))[22]? = some o) (vs : Nat → Value) (a : Act) (W w : World) (gb : Nat) (lo hi : Nat → Nat) (hb : Below W.heap.size W w) (hd : ∀ j ∈ psDep 22, a.tmps[j + 4]? = some (vs j) ∧ psPhi j vs w (lo j) (hi j)) (h1 : a.tmps[1]? = some (.pointer (some ⟨gb, 0, none⟩)))
  (hbx : W.heap[gb]? = some (.cells #[.string (⟨#[110, 111, 100, 101, 115]⟩ : ByteArray), .slice none 0 0, .string (⟨#[78, 111, 100, 101]⟩ : ByteArray), .bool true, .bool false] 38 (0, 0))) :
  GrowRes Try.prog (fun v w' => Below w.heap.size w w' ∧ psPhi 22 (upd vs 22 v) w' w.heap.size w'.heap.size) ((execOp a.eval o).run Try.prog w) := by
 obtain rfl := Option.some.inj ho
 obtain ⟨t13, f13⟩ := hd 13 (by decide)
 have v13 : vs 13 = .agg #[.string (⟨#[115, 101, 116]⟩ : ByteArray), vs 12, .string (⟨#[78, 111, 100, 101]⟩ : ByteArray), .bool false, .bool false] := f13
 have g13 : a.eval (.tmp 17) = .agg #[.string (⟨#[115, 101, 116]⟩ : ByteArray), vs 12, .string (⟨#[78, 111, 100, 101]⟩ : ByteArray), .bool false, .bool false] := by rw [← v13]; exact ev_tmp t13
 obtain ⟨t17, f17⟩ := hd 17 (by decide)
 have v17 : vs 17 = .agg #[.string (⟨#[97, 100, 100]⟩ : ByteArray), vs 16, .string (⟨#[78, 111, 100, 101]⟩ : ByteArray), .bool false, .bool false] := f17
 have g17 : a.eval (.tmp 21) = .agg #[.string (⟨#[97, 100, 100]⟩ : ByteArray), vs 16, .string (⟨#[78, 111, 100, 101]⟩ : ByteArray), .bool false, .bool false] := by rw [← v17]; exact ev_tmp t17
 obtain ⟨t21, f21⟩ := hd 21 (by decide)
 have v21 : vs 21 = .agg #[.string (⟨#[108, 105, 110, 107]⟩ : ByteArray), vs 20, .string (⟨#[78, 111, 100, 101]⟩ : ByteArray), .bool false, .bool false] := f21
 have g21 : a.eval (.tmp 25) = .agg #[.string (⟨#[108, 105, 110, 107]⟩ : ByteArray), vs 20, .string (⟨#[78, 111, 100, 101]⟩ : ByteArray), .bool false, .bool false] := by rw [← v21]; exact ev_tmp t21
 refine grow_value (v := .slice (some ⟨w.heap.size, 0, none⟩) 3 3) (w' := w.alloc (.cells #[.string (⟨#[115, 101, 116]⟩ : ByteArray), vs 12, .string (⟨#[78, 111, 100, 101]⟩ : ByteArray), .bool false, .bool false, .string (⟨#[97, 100, 100]⟩ : ByteArray), vs 16, .string (⟨#[78, 111, 100, 101]⟩ : ByteArray), .bool false, .bool false, .string (⟨#[108, 105, 110, 107]⟩ : ByteArray), vs 20, .string (⟨#[78, 111, 100, 101]⟩ : ByteArray), .bool false, .bool false] 38 (0, 0))) ?_ ⟨below_alloc (Below.refl _ _) _, ?_⟩
 ·have hop : ((ps_opsOf (ps_seqA (ps_seqB (ps_seqB (ps_seqB (ps_codeOf Try.f24))))))[22]'(by decide)).op = .buildSlice 51 3 #[(0, .tmp 17), (1, .tmp 21), (2, .tmp 25)] := rfl
  unfold execOp
  simp only [hop, List.map_toArray, List.map_cons, List.map_nil, g13, g17, g21]
  first | (go_simp; done) | (go_simp; rfl)
 ·refine ⟨?_, ?_⟩
  ·show upd vs 22 _ 22 = _
   simp only [upd, if_true]
  ·exact ⟨ps_new w _, by show w.heap.size < (w.heap.push _).size; simp⟩
set_option maxHeartbeats 1000000 in
set_option maxRecDepth 100000 in
theorem ps_step23 (o : Oper) (ho : (ps_opsOf (ps_seqA (ps_seqB (ps_seqB (ps_seqB (ps_codeOf Try.f24))))))[23]? = some o) (vs : Nat → Value) (a : Act) (W w : World) (gb : Nat) (lo hi : Nat → Nat) (hb : Below W.heap.size W w) (hd : ∀ j ∈ psDep 23, a.tmps[j + 4]? = some (vs j) ∧ psPhi j vs w (lo j) (hi j)) (h1 : a.tmps[1]? = some (.pointer (some ⟨gb, 0, none⟩)))
  (hbx : W.heap[gb]? = some (.cells #[.string (⟨#[110, 111, 100, 101, 115]⟩ : ByteArray), .slice none 0 0, .string (⟨#[78, 111, 100, 101]⟩ : ByteArray), .bool true, .bool false] 38 (0, 0))) :
  GrowRes Try.prog (fun v w' => Below w.heap.size w w' ∧ psPhi 23 (upd vs 23 v) w' w.heap.size w'.heap.size) ((execOp a.eval o).run Try.prog w) := by
 obtain rfl := Option.some.inj ho
 obtain ⟨t22, f22⟩ := hd 22 (by decide)
 obtain ⟨v22, c22⟩ : vs 22 = .slice (some ⟨lo 22, 0, none⟩) 3 3 ∧ w.heap[lo 22]? = some (.cells #[.string (⟨#[115, 101, 116]⟩ : ByteArray), vs 12, .string (⟨#[78, 111, 100, 101]⟩ : ByteArray), .bool false, .bool false, .string (⟨#[97, 100, 100]⟩ : ByteArray), vs 16, .string (⟨#[78, 111, 100, 101]⟩ : ByteArray), .bool false, .bool false, .string (⟨#[108, 105, 110, 107]⟩ : ByteArray), vs 20, .string (⟨#[78, 111, 100, 101]⟩ : ByteArray), .bool false, .bool false] 38 (0, 0)) ∧ lo 22 < hi 22 := f22
 have g22 : a.eval (.tmp 26) = .slice (some ⟨lo 22, 0, none⟩) 3 3 := by rw [← v22]; exact ev_tmp t22
 have hu := Try.underlying53
 refine grow_value (v := .agg #[.string (⟨#[77, 117, 116, 97, 116, 105, 111, 110]⟩ : ByteArray), vs 22]) (w' := w) ?_ ⟨Below.refl _ _, ?_⟩
 ·have hop : ((ps_opsOf (ps_seqA (ps_seqB (ps_seqB (ps_seqB (ps_codeOf Try.f24))))))[23]'(by decide)).op = .build 53 #[(0, .const (.string (⟨#[77, 117, 116, 97, 116, 105, 111, 110]⟩ : ByteArray))), (1, .tmp 26)] := rfl
  unfold execOp
  simp only [hop, List.map_toArray, List.map_cons, List.map_nil, g22]
  rw [v22]
  first | (go_simp; done) | (go_simp; rfl)
 ·show upd vs 23 _ 23 = _
  simp only [upd, if_true]
  rw [if_neg (by decide)]
set_option maxHeartbeats 1000000 in
set_option maxRecDepth 100000 in
theorem ps_step24 (o : Oper) (ho : (ps_opsOf (ps_seqA (ps_seqB (ps_seqB (ps_seqB (ps_codeOf Try.f24))))))[24]? = some o) (vs : Nat → Value) (a : Act) (W w : World) (gb : Nat) (lo hi : Nat → Nat) (hb : Below W.heap.size W w) (hd : ∀ j ∈ psDep 24, a.tmps[j + 4]? = some (vs j) ∧ psPhi j vs w (lo j) (hi j)) (h1 : a.tmps[1]? = some (.pointer (some ⟨gb, 0, none⟩)))
  (hbx : W.heap[gb]? = some (.cells #[.string (⟨#[110, 111, 100, 101, 115]⟩ : ByteArray), .slice none 0 0, .string (⟨#[78, 111, 100, 101]⟩ : ByteArray), .bool true, .bool false] 38 (0, 0))) :
  GrowRes Try.prog (fun v w' => Below w.heap.size w w' ∧ psPhi 24 (upd vs 24 v) w' w.heap.size w'.heap.size) ((execOp a.eval o).run Try.prog w) := by
 obtain rfl := Option.some.inj ho
 have hc := field_s (⟨#[105, 100]⟩ : ByteArray) (⟨#[73, 110, 116]⟩ : ByteArray) true none 0 0 w
 refine grow_call (enters_ Try.func51 (by kernel_rfl) rfl) (by rfl) (by first | rfl | (simp only [List.map_toArray, List.map_cons, List.map_nil, Act.eval]; done) | (simp only [List.map_toArray, List.map_cons, List.map_nil, Act.eval]; rfl)) hc (fun w' hb' => ⟨hb', ?_⟩)
 show upd vs 24 _ 24 = _
 simp only [upd, if_true]
set_option maxHeartbeats 1000000 in
set_option maxRecDepth 100000 in
theorem ps_step25 (o : Oper) (ho : (ps_opsOf (ps_seqA (ps_seqB (ps_seqB (ps_seqB (ps_codeOf Try.f24))))))[25]? = some o) (vs : Nat → Value) (a : Act) (W w : World) (gb : Nat) (lo hi : Nat → Nat) (hb : Below W.heap.size W w) (hd : ∀ j ∈ psDep 25, a.tmps[j + 4]? = some (vs j) ∧ psPhi j vs w (lo j) (hi j)) (h1 : a.tmps[1]? = some (.pointer (some ⟨gb, 0, none⟩)))
  (hbx : W.heap[gb]? = some (.cells #[.string (⟨#[110, 111, 100, 101, 115]⟩ : ByteArray), .slice none 0 0, .string (⟨#[78, 111, 100, 101]⟩ : ByteArray), .bool true, .bool false] 38 (0, 0))) :
  GrowRes Try.prog (fun v w' => Below w.heap.size w w' ∧ psPhi 25 (upd vs 25 v) w' w.heap.size w'.heap.size) ((execOp a.eval o).run Try.prog w) := by
 obtain rfl := Option.some.inj ho
 have hc := field_s (⟨#[118, 97, 108, 117, 101]⟩ : ByteArray) (⟨#[73, 110, 116]⟩ : ByteArray) false none 0 0 w
 refine grow_call (enters_ Try.func51 (by kernel_rfl) rfl) (by rfl) (by first | rfl | (simp only [List.map_toArray, List.map_cons, List.map_nil, Act.eval]; done) | (simp only [List.map_toArray, List.map_cons, List.map_nil, Act.eval]; rfl)) hc (fun w' hb' => ⟨hb', ?_⟩)
 show upd vs 25 _ 25 = _
 simp only [upd, if_true]
set_option maxHeartbeats 1000000 in
set_option maxRecDepth 100000 in
theorem ps_step26 (o : Oper) (ho : (ps_opsOf (ps_seqA (ps_seqB (ps_seqB (ps_seqB (ps_codeOf Try.f24))))))[26]? = some o) (vs : Nat → Value) (a : Act) (W w : World) (gb : Nat) (lo hi : Nat → Nat) (hb : Below W.heap.size W w) (hd : ∀ j ∈ psDep 26, a.tmps[j + 4]? = some (vs j) ∧ psPhi j vs w (lo j) (hi j)) (h1 : a.tmps[1]? = some (.pointer (some ⟨gb, 0, none⟩)))
  (hbx : W.heap[gb]? = some (.cells #[.string (⟨#[110, 111, 100, 101, 115]⟩ : ByteArray), .slice none 0 0, .string (⟨#[78, 111, 100, 101]⟩ : ByteArray), .bool true, .bool false] 38 (0, 0))) :
  GrowRes Try.prog (fun v w' => Below w.heap.size w w' ∧ psPhi 26 (upd vs 26 v) w' w.heap.size w'.heap.size) ((execOp a.eval o).run Try.prog w) := by
 obtain rfl := Option.some.inj ho
 have hc := need_s (⟨#[98, 121]⟩ : ByteArray) w
 refine grow_call (enters_ Try.func52 (by kernel_rfl) rfl) (by rfl) (by first | rfl | (simp only [List.map_toArray, List.map_cons, List.map_nil, Act.eval]; done) | (simp only [List.map_toArray, List.map_cons, List.map_nil, Act.eval]; rfl)) hc (fun w' hb' => ⟨hb', ?_⟩)
 show upd vs 26 _ 26 = _
 simp only [upd, if_true]
set_option maxHeartbeats 1000000 in
set_option maxRecDepth 100000 in
theorem ps_step27 (o : Oper) (ho : (ps_opsOf (ps_seqA (ps_seqB (ps_seqB (ps_seqB (ps_codeOf Try.f24))))))[27]? = some o) (vs : Nat → Value) (a : Act) (W w : World) (gb : Nat) (lo hi : Nat → Nat) (hb : Below W.heap.size W w) (hd : ∀ j ∈ psDep 27, a.tmps[j + 4]? = some (vs j) ∧ psPhi j vs w (lo j) (hi j)) (h1 : a.tmps[1]? = some (.pointer (some ⟨gb, 0, none⟩)))
  (hbx : W.heap[gb]? = some (.cells #[.string (⟨#[110, 111, 100, 101, 115]⟩ : ByteArray), .slice none 0 0, .string (⟨#[78, 111, 100, 101]⟩ : ByteArray), .bool true, .bool false] 38 (0, 0))) :
  GrowRes Try.prog (fun v w' => Below w.heap.size w w' ∧ psPhi 27 (upd vs 27 v) w' w.heap.size w'.heap.size) ((execOp a.eval o).run Try.prog w) := by
 obtain rfl := Option.some.inj ho
 obtain ⟨t26, f26⟩ := hd 26 (by decide)
 have v26 : vs 26 = .agg #[.string (⟨#[98, 121]⟩ : ByteArray), .bool true] := f26
 have g26 : a.eval (.tmp 30) = .agg #[.string (⟨#[98, 121]⟩ : ByteArray), .bool true] := by rw [← v26]; exact ev_tmp t26
 refine grow_value (v := .slice (some ⟨w.heap.size, 0, none⟩) 1 1) (w' := w.alloc (.cells #[.string (⟨#[98, 121]⟩ : ByteArray), .bool true] 57 (0, 0))) ?_ ⟨below_alloc (Below.refl _ _) _, ?_⟩
 ·have hop : ((ps_opsOf (ps_seqA (ps_seqB (ps_seqB (ps_seqB (ps_codeOf Try.f24))))))[27]'(by decide)).op = .buildSlice 36 1 #[(0, .tmp 30)] := rfl
  unfold execOp
  simp only [hop, List.map_toArray, List.map_cons, List.map_nil, g26]
  first | (go_simp; done) | (go_simp; rfl)
 ·refine ⟨?_, ?_⟩
  ·show upd vs 27 _ 27 = _
   simp only [upd, if_true]
  ·exact ⟨ps_new w _, by show w.heap.size < (w.heap.push _).size; simp⟩
set_option maxHeartbeats 1000000 in
set_option maxRecDepth 100000 in
theorem ps_step28 (o : Oper) (ho : (ps_opsOf (ps_seqA (ps_seqB (ps_seqB (ps_seqB (ps_codeOf Try.f24))))))[28]? = some o) (vs : Nat → Value) (a : Act) (W w : World) (gb : Nat) (lo hi : Nat → Nat) (hb : Below W.heap.size W w) (hd : ∀ j ∈ psDep 28, a.tmps[j + 4]? = some (vs j) ∧ psPhi j vs w (lo j) (hi j)) (h1 : a.tmps[1]? = some (.pointer (some ⟨gb, 0, none⟩)))
  (hbx : W.heap[gb]? = some (.cells #[.string (⟨#[110, 111, 100, 101, 115]⟩ : ByteArray), .slice none 0 0, .string (⟨#[78, 111, 100, 101]⟩ : ByteArray), .bool true, .bool false] 38 (0, 0))) :
  GrowRes Try.prog (fun v w' => Below w.heap.size w w' ∧ psPhi 28 (upd vs 28 v) w' w.heap.size w'.heap.size) ((execOp a.eval o).run Try.prog w) := by
 obtain rfl := Option.some.inj ho
 obtain ⟨t27, f27⟩ := hd 27 (by decide)
 obtain ⟨v27, c27⟩ : vs 27 = .slice (some ⟨lo 27, 0, none⟩) 1 1 ∧ w.heap[lo 27]? = some (.cells #[.string (⟨#[98, 121]⟩ : ByteArray), .bool true] 57 (0, 0)) ∧ lo 27 < hi 27 := f27
 have g27 : a.eval (.tmp 31) = .slice (some ⟨lo 27, 0, none⟩) 1 1 := by rw [← v27]; exact ev_tmp t27
 have hc := field_s (⟨#[112, 108, 117, 115]⟩ : ByteArray) (⟨#[73, 110, 116]⟩ : ByteArray) false (some ⟨lo 27, 0, none⟩) 1 1 w
 refine grow_call (enters_ Try.func51 (by kernel_rfl) rfl) (by rfl) (by first | rfl | (simp only [List.map_toArray, List.map_cons, List.map_nil, g27]; done) | (simp only [List.map_toArray, List.map_cons, List.map_nil, g27]; rfl)) hc (fun w' hb' => ⟨hb', ?_⟩)
 show upd vs 28 _ 28 = _
 simp only [upd, if_true]
 rw [if_neg (by decide), v27]
set_option maxHeartbeats 1000000 in
set_option maxRecDepth 100000 in
theorem ps_step29 (o : Oper) (ho : (ps_opsOf (ps_seqA (ps_seqB (ps_seqB (ps_seqB (ps_codeOf Try.f24))))))[29]? = some o) (vs : Nat → Value) (a : Act) (W w : World) (gb : Nat) (lo hi : Nat → Nat) (hb : Below W.heap.size W w) (hd : ∀ j ∈ psDep 29, a.tmps[j + 4]? = some (vs j) ∧ psPhi j vs w (lo j) (hi j)) (h1 : a.tmps[1]? = some (.pointer (some ⟨gb, 0, none⟩)))
  (hbx : W.heap[gb]? = some (.cells #[.string (⟨#[110, 111, 100, 101, 115]⟩ : ByteArray), .slice none 0 0, .string (⟨#[78, 111, 100, 101]⟩ : ByteArray), .bool true, .bool false] 38 (0, 0))) :
  GrowRes Try.prog (fun v w' => Below w.heap.size w w' ∧ psPhi 29 (upd vs 29 v) w' w.heap.size w'.heap.size) ((execOp a.eval o).run Try.prog w) := by
 obtain rfl := Option.some.inj ho
 have hc := field_s (⟨#[110, 101, 120, 116]⟩ : ByteArray) (⟨#[78, 111, 100, 101]⟩ : ByteArray) false none 0 0 w
 refine grow_call (enters_ Try.func51 (by kernel_rfl) rfl) (by rfl) (by first | rfl | (simp only [List.map_toArray, List.map_cons, List.map_nil, Act.eval]; done) | (simp only [List.map_toArray, List.map_cons, List.map_nil, Act.eval]; rfl)) hc (fun w' hb' => ⟨hb', ?_⟩)
 show upd vs 29 _ 29 = _
 simp only [upd, if_true]
set_option maxHeartbeats 1000000 in
set_option maxRecDepth 100000 in
theorem ps_step30 (o : Oper) (ho : (ps_opsOf (ps_seqA (ps_seqB (ps_seqB (ps_seqB (ps_codeOf Try.f24))))))[30]? = some o) (vs : Nat → Value) (a : Act) (W w : World) (gb : Nat) (lo hi : Nat → Nat) (hb : Below W.heap.size W w) (hd : ∀ j ∈ psDep 30, a.tmps[j + 4]? = some (vs j) ∧ psPhi j vs w (lo j) (hi j)) (h1 : a.tmps[1]? = some (.pointer (some ⟨gb, 0, none⟩)))
  (hbx : W.heap[gb]? = some (.cells #[.string (⟨#[110, 111, 100, 101, 115]⟩ : ByteArray), .slice none 0 0, .string (⟨#[78, 111, 100, 101]⟩ : ByteArray), .bool true, .bool false] 38 (0, 0))) :
  GrowRes Try.prog (fun v w' => Below w.heap.size w w' ∧ psPhi 30 (upd vs 30 v) w' w.heap.size w'.heap.size) ((execOp a.eval o).run Try.prog w) := by
 obtain rfl := Option.some.inj ho
 have hc := field_s (⟨#[110, 101, 101, 100]⟩ : ByteArray) (⟨#[78, 111, 100, 101]⟩ : ByteArray) true none 0 0 w
 refine grow_call (enters_ Try.func51 (by kernel_rfl) rfl) (by rfl) (by first | rfl | (simp only [List.map_toArray, List.map_cons, List.map_nil, Act.eval]; done) | (simp only [List.map_toArray, List.map_cons, List.map_nil, Act.eval]; rfl)) hc (fun w' hb' => ⟨hb', ?_⟩)
 show upd vs 30 _ 30 = _
 simp only [upd, if_true]
set_option maxHeartbeats 1000000 in
set_option maxRecDepth 100000 in
theorem ps_step31 (o : Oper) (ho : (ps_opsOf (ps_seqA (ps_seqB (ps_seqB (ps_seqB (ps_codeOf Try.f24))))))[31]? = some o) (vs : Nat → Value) (a : Act) (W w : World) (gb : Nat) (lo hi : Nat → Nat) (hb : Below W.heap.size W w) (hd : ∀ j ∈ psDep 31, a.tmps[j + 4]? = some (vs j) ∧ psPhi j vs w (lo j) (hi j)) (h1 : a.tmps[1]? = some (.pointer (some ⟨gb, 0, none⟩)))
  (hbx : W.heap[gb]? = some (.cells #[.string (⟨#[110, 111, 100, 101, 115]⟩ : ByteArray), .slice none 0 0, .string (⟨#[78, 111, 100, 101]⟩ : ByteArray), .bool true, .bool false] 38 (0, 0))) :
  GrowRes Try.prog (fun v w' => Below w.heap.size w w' ∧ psPhi 31 (upd vs 31 v) w' w.heap.size w'.heap.size) ((execOp a.eval o).run Try.prog w) := by
 obtain rfl := Option.some.inj ho
 obtain ⟨t24, f24⟩ := hd 24 (by decide)
 have v24 : vs 24 = .agg #[.string (⟨#[105, 100]⟩ : ByteArray), .slice none 0 0, .string (⟨#[73, 110, 116]⟩ : ByteArray), .bool false, .bool true] := f24
 have g24 : a.eval (.tmp 28) = .agg #[.string (⟨#[105, 100]⟩ : ByteArray), .slice none 0 0, .string (⟨#[73, 110, 116]⟩ : ByteArray), .bool false, .bool true] := by rw [← v24]; exact ev_tmp t24
 obtain ⟨t25, f25⟩ := hd 25 (by decide)
 have v25 : vs 25 = .agg #[.string (⟨#[118, 97, 108, 117, 101]⟩ : ByteArray), .slice none 0 0, .string (⟨#[73, 110, 116]⟩ : ByteArray), .bool false, .bool false] := f25
 have g25 : a.eval (.tmp 29) = .agg #[.string (⟨#[118, 97, 108, 117, 101]⟩ : ByteArray), .slice none 0 0, .string (⟨#[73, 110, 116]⟩ : ByteArray), .bool false, .bool false] := by rw [← v25]; exact ev_tmp t25
 obtain ⟨t28, f28⟩ := hd 28 (by decide)
 have v28 : vs 28 = .agg #[.string (⟨#[112, 108, 117, 115]⟩ : ByteArray), vs 27, .string (⟨#[73, 110, 116]⟩ : ByteArray), .bool false, .bool false] := f28
 have g28 : a.eval (.tmp 32) = .agg #[.string (⟨#[112, 108, 117, 115]⟩ : ByteArray), vs 27, .string (⟨#[73, 110, 116]⟩ : ByteArray), .bool false, .bool false] := by rw [← v28]; exact ev_tmp t28
 obtain ⟨t29, f29⟩ := hd 29 (by decide)
 have v29 : vs 29 = .agg #[.string (⟨#[110, 101, 120, 116]⟩ : ByteArray), .slice none 0 0, .string (⟨#[78, 111, 100, 101]⟩ : ByteArray), .bool false, .bool false] := f29
 have g29 : a.eval (.tmp 33) = .agg #[.string (⟨#[110, 101, 120, 116]⟩ : ByteArray), .slice none 0 0, .string (⟨#[78, 111, 100, 101]⟩ : ByteArray), .bool false, .bool false] := by rw [← v29]; exact ev_tmp t29
 obtain ⟨t30, f30⟩ := hd 30 (by decide)
 have v30 : vs 30 = .agg #[.string (⟨#[110, 101, 101, 100]⟩ : ByteArray), .slice none 0 0, .string (⟨#[78, 111, 100, 101]⟩ : ByteArray), .bool false, .bool true] := f30
 have g30 : a.eval (.tmp 34) = .agg #[.string (⟨#[110, 101, 101, 100]⟩ : ByteArray), .slice none 0 0, .string (⟨#[78, 111, 100, 101]⟩ : ByteArray), .bool false, .bool true] := by rw [← v30]; exact ev_tmp t30
 refine grow_value (v := .slice (some ⟨w.heap.size, 0, none⟩) 5 5) (w' := w.alloc (.cells #[.string (⟨#[105, 100]⟩ : ByteArray), .slice none 0 0, .string (⟨#[73, 110, 116]⟩ : ByteArray), .bool false, .bool true, .string (⟨#[118, 97, 108, 117, 101]⟩ : ByteArray), .slice none 0 0, .string (⟨#[73, 110, 116]⟩ : ByteArray), .bool false, .bool false, .string (⟨#[112, 108, 117, 115]⟩ : ByteArray), vs 27, .string (⟨#[73, 110, 116]⟩ : ByteArray), .bool false, .bool false, .string (⟨#[110, 101, 120, 116]⟩ : ByteArray), .slice none 0 0, .string (⟨#[78, 111, 100, 101]⟩ : ByteArray), .bool false, .bool false, .string (⟨#[110, 101, 101, 100]⟩ : ByteArray), .slice none 0 0, .string (⟨#[78, 111, 100, 101]⟩ : ByteArray), .bool false, .bool true] 38 (0, 0))) ?_ ⟨below_alloc (Below.refl _ _) _, ?_⟩
 ·have hop : ((ps_opsOf (ps_seqA (ps_seqB (ps_seqB (ps_seqB (ps_codeOf Try.f24))))))[31]'(by decide)).op = .buildSlice 51 5 #[(0, .tmp 28), (1, .tmp 29), (2, .tmp 32), (3, .tmp 33), (4, .tmp 34)] := rfl
  unfold execOp
  simp only [hop, List.map_toArray, List.map_cons, List.map_nil, g24, g25, g28, g29, g30]
  first | (go_simp; done) | (go_simp; rfl)
 ·refine ⟨?_, ?_⟩
  ·show upd vs 31 _ 31 = _
   simp only [upd, if_true]
  ·exact ⟨ps_new w _, by show w.heap.size < (w.heap.push _).size; simp⟩
set_option maxHeartbeats 1000000 in
set_option maxRecDepth 100000 in
theorem ps_step32 (o : Oper) (ho : (ps_opsOf (ps_seqA (ps_seqB (ps_seqB (ps_seqB (ps_codeOf Try.f24))))))[32]? = some o) (vs : Nat → Value) (a : Act) (W w : World) (gb : Nat) (lo hi : Nat → Nat) (hb : Below W.heap.size W w) (hd : ∀ j ∈ psDep 32, a.tmps[j + 4]? = some (vs j) ∧ psPhi j vs w (lo j) (hi j)) (h1 : a.tmps[1]? = some (.pointer (some ⟨gb, 0, none⟩)))
  (hbx : W.heap[gb]? = some (.cells #[.string (⟨#[110, 111, 100, 101, 115]⟩ : ByteArray), .slice none 0 0, .string (⟨#[78, 111, 100, 101]⟩ : ByteArray), .bool true, .bool false] 38 (0, 0))) :
  GrowRes Try.prog (fun v w' => Below w.heap.size w w' ∧ psPhi 32 (upd vs 32 v) w' w.heap.size w'.heap.size) ((execOp a.eval o).run Try.prog w) := by
 obtain rfl := Option.some.inj ho
 obtain ⟨t31, f31⟩ := hd 31 (by decide)
 obtain ⟨v31, c31⟩ : vs 31 = .slice (some ⟨lo 31, 0, none⟩) 5 5 ∧ w.heap[lo 31]? = some (.cells #[.string (⟨#[105, 100]⟩ : ByteArray), .slice none 0 0, .string (⟨#[73, 110, 116]⟩ : ByteArray), .bool false, .bool true, .string (⟨#[118, 97, 108, 117, 101]⟩ : ByteArray), .slice none 0 0, .string (⟨#[73, 110, 116]⟩ : ByteArray), .bool false, .bool false, .string (⟨#[112, 108, 117, 115]⟩ : ByteArray), vs 27, .string (⟨#[73, 110, 116]⟩ : ByteArray), .bool false, .bool false, .string (⟨#[110, 101, 120, 116]⟩ : ByteArray), .slice none 0 0, .string (⟨#[78, 111, 100, 101]⟩ : ByteArray), .bool false, .bool false, .string (⟨#[110, 101, 101, 100]⟩ : ByteArray), .slice none 0 0, .string (⟨#[78, 111, 100, 101]⟩ : ByteArray), .bool false, .bool true] 38 (0, 0)) ∧ lo 31 < hi 31 := f31
 have g31 : a.eval (.tmp 35) = .slice (some ⟨lo 31, 0, none⟩) 5 5 := by rw [← v31]; exact ev_tmp t31
 have hu := Try.underlying53
 refine grow_value (v := .agg #[.string (⟨#[78, 111, 100, 101]⟩ : ByteArray), vs 31]) (w' := w) ?_ ⟨Below.refl _ _, ?_⟩
 ·have hop : ((ps_opsOf (ps_seqA (ps_seqB (ps_seqB (ps_seqB (ps_codeOf Try.f24))))))[32]'(by decide)).op = .build 53 #[(0, .const (.string (⟨#[78, 111, 100, 101]⟩ : ByteArray))), (1, .tmp 35)] := rfl
  unfold execOp
  simp only [hop, List.map_toArray, List.map_cons, List.map_nil, g31]
  rw [v31]
  first | (go_simp; done) | (go_simp; rfl)
 ·show upd vs 32 _ 32 = _
  simp only [upd, if_true]
  rw [if_neg (by decide)]
set_option maxHeartbeats 1000000 in
set_option maxRecDepth 100000 in
theorem ps_step33 (o : Oper) (ho : (ps_opsOf (ps_seqA (ps_seqB (ps_seqB (ps_seqB (ps_codeOf Try.f24))))))[33]? = some o) (vs : Nat → Value) (a : Act) (W w : World) (gb : Nat) (lo hi : Nat → Nat) (hb : Below W.heap.size W w) (hd : ∀ j ∈ psDep 33, a.tmps[j + 4]? = some (vs j) ∧ psPhi j vs w (lo j) (hi j)) (h1 : a.tmps[1]? = some (.pointer (some ⟨gb, 0, none⟩)))
  (hbx : W.heap[gb]? = some (.cells #[.string (⟨#[110, 111, 100, 101, 115]⟩ : ByteArray), .slice none 0 0, .string (⟨#[78, 111, 100, 101]⟩ : ByteArray), .bool true, .bool false] 38 (0, 0))) :
  GrowRes Try.prog (fun v w' => Below w.heap.size w w' ∧ psPhi 33 (upd vs 33 v) w' w.heap.size w'.heap.size) ((execOp a.eval o).run Try.prog w) := by
 obtain rfl := Option.some.inj ho
 obtain ⟨t9, f9⟩ := hd 9 (by decide)
 have v9 : vs 9 = .agg #[.string (⟨#[81, 117, 101, 114, 121]⟩ : ByteArray), vs 8] := f9
 have g9 : a.eval (.tmp 13) = .agg #[.string (⟨#[81, 117, 101, 114, 121]⟩ : ByteArray), vs 8] := by rw [← v9]; exact ev_tmp t9
 obtain ⟨t23, f23⟩ := hd 23 (by decide)
 have v23 : vs 23 = .agg #[.string (⟨#[77, 117, 116, 97, 116, 105, 111, 110]⟩ : ByteArray), vs 22] := f23
 have g23 : a.eval (.tmp 27) = .agg #[.string (⟨#[77, 117, 116, 97, 116, 105, 111, 110]⟩ : ByteArray), vs 22] := by rw [← v23]; exact ev_tmp t23
 obtain ⟨t32, f32⟩ := hd 32 (by decide)
 have v32 : vs 32 = .agg #[.string (⟨#[78, 111, 100, 101]⟩ : ByteArray), vs 31] := f32
 have g32 : a.eval (.tmp 36) = .agg #[.string (⟨#[78, 111, 100, 101]⟩ : ByteArray), vs 31] := by rw [← v32]; exact ev_tmp t32
 refine grow_value (v := .slice (some ⟨w.heap.size, 0, none⟩) 3 3) (w' := w.alloc (.cells #[.string (⟨#[81, 117, 101, 114, 121]⟩ : ByteArray), vs 8, .string (⟨#[77, 117, 116, 97, 116, 105, 111, 110]⟩ : ByteArray), vs 22, .string (⟨#[78, 111, 100, 101]⟩ : ByteArray), vs 31] 53 (0, 0))) ?_ ⟨below_alloc (Below.refl _ _) _, ?_⟩
 ·have hop : ((ps_opsOf (ps_seqA (ps_seqB (ps_seqB (ps_seqB (ps_codeOf Try.f24))))))[33]'(by decide)).op = .buildSlice 27 3 #[(0, .tmp 13), (1, .tmp 27), (2, .tmp 36)] := rfl
  unfold execOp
  simp only [hop, List.map_toArray, List.map_cons, List.map_nil, g9, g23, g32]
  first | (go_simp; done) | (go_simp; rfl)
 ·refine ⟨?_, ?_⟩
  ·show upd vs 33 _ 33 = _
   simp only [upd, if_true]
  ·exact ⟨ps_new w _, by show w.heap.size < (w.heap.push _).size; simp⟩
set_option maxHeartbeats 1000000 in
set_option maxRecDepth 100000 in
theorem ps_step34 (o : Oper) (ho : (ps_opsOf (ps_seqA (ps_seqB (ps_seqB (ps_seqB (ps_codeOf Try.f24))))))[34]? = some o) (vs : Nat → Value) (a : Act) (W w : World) (gb : Nat) (lo hi : Nat → Nat) (hb : Below W.heap.size W w) (hd : ∀ j ∈ psDep 34, a.tmps[j + 4]? = some (vs j) ∧ psPhi j vs w (lo j) (hi j)) (h1 : a.tmps[1]? = some (.pointer (some ⟨gb, 0, none⟩)))
  (hbx : W.heap[gb]? = some (.cells #[.string (⟨#[110, 111, 100, 101, 115]⟩ : ByteArray), .slice none 0 0, .string (⟨#[78, 111, 100, 101]⟩ : ByteArray), .bool true, .bool false] 38 (0, 0))) :
  GrowRes Try.prog (fun v w' => Below w.heap.size w w' ∧ psPhi 34 (upd vs 34 v) w' w.heap.size w'.heap.size) ((execOp a.eval o).run Try.prog w) := by
 obtain rfl := Option.some.inj ho
 obtain ⟨t33, f33⟩ := hd 33 (by decide)
 obtain ⟨v33, c33⟩ : vs 33 = .slice (some ⟨lo 33, 0, none⟩) 3 3 ∧ w.heap[lo 33]? = some (.cells #[.string (⟨#[81, 117, 101, 114, 121]⟩ : ByteArray), vs 8, .string (⟨#[77, 117, 116, 97, 116, 105, 111, 110]⟩ : ByteArray), vs 22, .string (⟨#[78, 111, 100, 101]⟩ : ByteArray), vs 31] 53 (0, 0)) ∧ lo 33 < hi 33 := f33
 have g33 : a.eval (.tmp 37) = .slice (some ⟨lo 33, 0, none⟩) 3 3 := by rw [← v33]; exact ev_tmp t33
 have hu := Try.underlying29
 refine grow_value (v := .agg #[vs 33]) (w' := w) ?_ ⟨Below.refl _ _, ?_⟩
 ·have hop : ((ps_opsOf (ps_seqA (ps_seqB (ps_seqB (ps_seqB (ps_codeOf Try.f24))))))[34]'(by decide)).op = .build 29 #[(0, .tmp 37)] := rfl
  unfold execOp
  simp only [hop, List.map_toArray, List.map_cons, List.map_nil, g33]
  rw [v33]
  first | (go_simp; done) | (go_simp; rfl)
 ·show upd vs 34 _ 34 = _
  simp only [upd, if_true]
  rw [if_neg (by decide)]
def psCl (i : Nat) : List Nat := i :: (psDep i ++ (psDep i).flatMap psDep)
theorem ps_cl (i : Nat) : ∀ j ∈ psCl i, j = i ∨ ∃ d ∈ psDep i, j ∈ psCl d := by
 intro j hj
 rcases List.mem_cons.1 hj with h | h
 ·exact .inl h
 ·rcases List.mem_append.1 h with h | h
  ·exact .inr ⟨j, h, List.mem_cons_self⟩
  ·obtain ⟨d, hd, hjd⟩ := List.mem_flatMap.1 h
   exact .inr ⟨d, hd, List.mem_cons_of_mem _ (List.mem_append_left _ hjd)⟩
theorem ps_same : ∀ (i : Nat) (vs vs' : Nat → Value) (w : World) (lo hi : Nat), (∀ j, j = i ∨ j ∈ psCl i → vs j = vs' j) → psPhi i vs w lo hi → psPhi i vs' w lo hi
 | 0, vs, vs', w, lo, hi, h, hp => by
  have e0 := h 0 (.inl rfl)
  show vs' 0 = .agg #[.string (⟨#[105, 100]⟩ : ByteArray), .bool true]
  rw [← e0]
  exact hp
 | 1, vs, vs', w, lo, hi, h, hp => by
  have e1 := h 1 (.inl rfl)
  show vs' 1 = .slice (some ⟨lo, 0, none⟩) 1 1 ∧ w.heap[lo]? = some (.cells #[.string (⟨#[105, 100]⟩ : ByteArray), .bool true] 57 (0, 0)) ∧ lo < hi
  rw [← e1]
  exact hp
 | 2, vs, vs', w, lo, hi, h, hp => by
  have e1 := h 1 (.inr (by decide))
  have e2 := h 2 (.inl rfl)
  show vs' 2 = .agg #[.string (⟨#[110, 111, 100, 101]⟩ : ByteArray), vs' 1, .string (⟨#[78, 111, 100, 101]⟩ : ByteArray), .bool false, .bool false]
  rw [← e1, ← e2]
  exact hp
 | 3, vs, vs', w, lo, hi, h, hp => by
  have e3 := h 3 (.inl rfl)
  show vs' 3 = .agg #[.string (⟨#[105, 100]⟩ : ByteArray), .bool true]
  rw [← e3]
  exact hp
 | 4, vs, vs', w, lo, hi, h, hp => by
  have e4 := h 4 (.inl rfl)
  show vs' 4 = .slice (some ⟨lo, 0, none⟩) 1 1 ∧ w.heap[lo]? = some (.cells #[.string (⟨#[105, 100]⟩ : ByteArray), .bool true] 57 (0, 0)) ∧ lo < hi
  rw [← e4]
  exact hp
 | 5, vs, vs', w, lo, hi, h, hp => by
  have e4 := h 4 (.inr (by decide))
  have e5 := h 5 (.inl rfl)
  show vs' 5 = .agg #[.string (⟨#[109, 117, 115, 116]⟩ : ByteArray), vs' 4, .string (⟨#[78, 111, 100, 101]⟩ : ByteArray), .bool false, .bool true]
  rw [← e4, ← e5]
  exact hp
 | 6, vs, vs', w, lo, hi, h, hp => by
  have e6 := h 6 (.inl rfl)
  show vs' 6 = .agg #[.string (⟨#[110, 111, 100, 101, 115]⟩ : ByteArray), .slice none 0 0, .string (⟨#[78, 111, 100, 101]⟩ : ByteArray), .bool true, .bool false]
  rw [← e6]
  exact hp
 | 7, vs, vs', w, lo, hi, h, hp => by
  have e7 := h 7 (.inl rfl)
  show vs' 7 = .agg #[.string (⟨#[115, 105, 122, 101]⟩ : ByteArray), .slice none 0 0, .string (⟨#[73, 110, 116]⟩ : ByteArray), .bool false, .bool true]
  rw [← e7]
  exact hp
 | 8, vs, vs', w, lo, hi, h, hp => by
  have e1 := h 1 (.inr (by decide))
  have e4 := h 4 (.inr (by decide))
  have e8 := h 8 (.inl rfl)
  show vs' 8 = .slice (some ⟨lo, 0, none⟩) 4 4 ∧ w.heap[lo]? = some (.cells #[.string (⟨#[110, 111, 100, 101]⟩ : ByteArray), vs' 1, .string (⟨#[78, 111, 100, 101]⟩ : ByteArray), .bool false, .bool false, .string (⟨#[109, 117, 115, 116]⟩ : ByteArray), vs' 4, .string (⟨#[78, 111, 100, 101]⟩ : ByteArray), .bool false, .bool true, .string (⟨#[110, 111, 100, 101, 115]⟩ : ByteArray), .slice none 0 0, .string (⟨#[78, 111, 100, 101]⟩ : ByteArray), .bool true, .bool false, .string (⟨#[115, 105, 122, 101]⟩ : ByteArray), .slice none 0 0, .string (⟨#[73, 110, 116]⟩ : ByteArray), .bool false, .bool true] 38 (0, 0)) ∧ lo < hi
  rw [← e1, ← e4, ← e8]
  exact hp
 | 9, vs, vs', w, lo, hi, h, hp => by
  have e8 := h 8 (.inr (by decide))
  have e9 := h 9 (.inl rfl)
  show vs' 9 = .agg #[.string (⟨#[81, 117, 101, 114, 121]⟩ : ByteArray), vs' 8]
  rw [← e8, ← e9]
  exact hp
 | 10, vs, vs', w, lo, hi, h, hp => by
  have e10 := h 10 (.inl rfl)
  show vs' 10 = .agg #[.string (⟨#[105, 100]⟩ : ByteArray), .bool true]
  rw [← e10]
  exact hp
 | 11, vs, vs', w, lo, hi, h, hp => by
  have e11 := h 11 (.inl rfl)
  show vs' 11 = .agg #[.string (⟨#[118, 97, 108, 117, 101]⟩ : ByteArray), .bool true]
  rw [← e11]
  exact hp
 | 12, vs, vs', w, lo, hi, h, hp => by
  have e12 := h 12 (.inl rfl)
  show vs' 12 = .slice (some ⟨lo, 0, none⟩) 2 2 ∧ w.heap[lo]? = some (.cells #[.string (⟨#[105, 100]⟩ : ByteArray), .bool true, .string (⟨#[118, 97, 108, 117, 101]⟩ : ByteArray), .bool true] 57 (0, 0)) ∧ lo < hi
  rw [← e12]
  exact hp
 | 13, vs, vs', w, lo, hi, h, hp => by
  have e12 := h 12 (.inr (by decide))
  have e13 := h 13 (.inl rfl)
  show vs' 13 = .agg #[.string (⟨#[115, 101, 116]⟩ : ByteArray), vs' 12, .string (⟨#[78, 111, 100, 101]⟩ : ByteArray), .bool false, .bool false]
  rw [← e12, ← e13]
  exact hp
 | 14, vs, vs', w, lo, hi, h, hp => by
  have e14 := h 14 (.inl rfl)
  show vs' 14 = .agg #[.string (⟨#[105, 100]⟩ : ByteArray), .bool true]
  rw [← e14]
  exact hp
 | 15, vs, vs', w, lo, hi, h, hp => by
  have e15 := h 15 (.inl rfl)
  show vs' 15 = .agg #[.string (⟨#[98, 121]⟩ : ByteArray), .bool true]
  rw [← e15]
  exact hp
 | 16, vs, vs', w, lo, hi, h, hp => by
  have e16 := h 16 (.inl rfl)
  show vs' 16 = .slice (some ⟨lo, 0, none⟩) 2 2 ∧ w.heap[lo]? = some (.cells #[.string (⟨#[105, 100]⟩ : ByteArray), .bool true, .string (⟨#[98, 121]⟩ : ByteArray), .bool true] 57 (0, 0)) ∧ lo < hi
  rw [← e16]
  exact hp
 | 17, vs, vs', w, lo, hi, h, hp => by
  have e16 := h 16 (.inr (by decide))
  have e17 := h 17 (.inl rfl)
  show vs' 17 = .agg #[.string (⟨#[97, 100, 100]⟩ : ByteArray), vs' 16, .string (⟨#[78, 111, 100, 101]⟩ : ByteArray), .bool false, .bool false]
  rw [← e16, ← e17]
  exact hp
 | 18, vs, vs', w, lo, hi, h, hp => by
  have e18 := h 18 (.inl rfl)
  show vs' 18 = .agg #[.string (⟨#[105, 100]⟩ : ByteArray), .bool true]
  rw [← e18]
  exact hp
 | 19, vs, vs', w, lo, hi, h, hp => by
  have e19 := h 19 (.inl rfl)
  show vs' 19 = .agg #[.string (⟨#[116, 111]⟩ : ByteArray), .bool false]
  rw [← e19]
  exact hp
 | 20, vs, vs', w, lo, hi, h, hp => by
  have e20 := h 20 (.inl rfl)
  show vs' 20 = .slice (some ⟨lo, 0, none⟩) 2 2 ∧ w.heap[lo]? = some (.cells #[.string (⟨#[105, 100]⟩ : ByteArray), .bool true, .string (⟨#[116, 111]⟩ : ByteArray), .bool false] 57 (0, 0)) ∧ lo < hi
  rw [← e20]
  exact hp
 | 21, vs, vs', w, lo, hi, h, hp => by
  have e20 := h 20 (.inr (by decide))
  have e21 := h 21 (.inl rfl)
  show vs' 21 = .agg #[.string (⟨#[108, 105, 110, 107]⟩ : ByteArray), vs' 20, .string (⟨#[78, 111, 100, 101]⟩ : ByteArray), .bool false, .bool false]
  rw [← e20, ← e21]
  exact hp
 | 22, vs, vs', w, lo, hi, h, hp => by
  have e12 := h 12 (.inr (by decide))
  have e16 := h 16 (.inr (by decide))
  have e20 := h 20 (.inr (by decide))
  have e22 := h 22 (.inl rfl)
  show vs' 22 = .slice (some ⟨lo, 0, none⟩) 3 3 ∧ w.heap[lo]? = some (.cells #[.string (⟨#[115, 101, 116]⟩ : ByteArray), vs' 12, .string (⟨#[78, 111, 100, 101]⟩ : ByteArray), .bool false, .bool false, .string (⟨#[97, 100, 100]⟩ : ByteArray), vs' 16, .string (⟨#[78, 111, 100, 101]⟩ : ByteArray), .bool false, .bool false, .string (⟨#[108, 105, 110, 107]⟩ : ByteArray), vs' 20, .string (⟨#[78, 111, 100, 101]⟩ : ByteArray), .bool false, .bool false] 38 (0, 0)) ∧ lo < hi
  rw [← e12, ← e16, ← e20, ← e22]
  exact hp
 | 23, vs, vs', w, lo, hi, h, hp => by
  have e22 := h 22 (.inr (by decide))
  have e23 := h 23 (.inl rfl)
  show vs' 23 = .agg #[.string (⟨#[77, 117, 116, 97, 116, 105, 111, 110]⟩ : ByteArray), vs' 22]
  rw [← e22, ← e23]
  exact hp
 | 24, vs, vs', w, lo, hi, h, hp => by
  have e24 := h 24 (.inl rfl)
  show vs' 24 = .agg #[.string (⟨#[105, 100]⟩ : ByteArray), .slice none 0 0, .string (⟨#[73, 110, 116]⟩ : ByteArray), .bool false, .bool true]
  rw [← e24]
  exact hp
 | 25, vs, vs', w, lo, hi, h, hp => by
  have e25 := h 25 (.inl rfl)
  show vs' 25 = .agg #[.string (⟨#[118, 97, 108, 117, 101]⟩ : ByteArray), .slice none 0 0, .string (⟨#[73, 110, 116]⟩ : ByteArray), .bool false, .bool false]
  rw [← e25]
  exact hp
 | 26, vs, vs', w, lo, hi, h, hp => by
  have e26 := h 26 (.inl rfl)
  show vs' 26 = .agg #[.string (⟨#[98, 121]⟩ : ByteArray), .bool true]
  rw [← e26]
  exact hp
 | 27, vs, vs', w, lo, hi, h, hp => by
  have e27 := h 27 (.inl rfl)
  show vs' 27 = .slice (some ⟨lo, 0, none⟩) 1 1 ∧ w.heap[lo]? = some (.cells #[.string (⟨#[98, 121]⟩ : ByteArray), .bool true] 57 (0, 0)) ∧ lo < hi
  rw [← e27]
  exact hp
 | 28, vs, vs', w, lo, hi, h, hp => by
  have e27 := h 27 (.inr (by decide))
  have e28 := h 28 (.inl rfl)
  show vs' 28 = .agg #[.string (⟨#[112, 108, 117, 115]⟩ : ByteArray), vs' 27, .string (⟨#[73, 110, 116]⟩ : ByteArray), .bool false, .bool false]
  rw [← e27, ← e28]
  exact hp
 | 29, vs, vs', w, lo, hi, h, hp => by
  have e29 := h 29 (.inl rfl)
  show vs' 29 = .agg #[.string (⟨#[110, 101, 120, 116]⟩ : ByteArray), .slice none 0 0, .string (⟨#[78, 111, 100, 101]⟩ : ByteArray), .bool false, .bool false]
  rw [← e29]
  exact hp
 | 30, vs, vs', w, lo, hi, h, hp => by
  have e30 := h 30 (.inl rfl)
  show vs' 30 = .agg #[.string (⟨#[110, 101, 101, 100]⟩ : ByteArray), .slice none 0 0, .string (⟨#[78, 111, 100, 101]⟩ : ByteArray), .bool false, .bool true]
  rw [← e30]
  exact hp
 | 31, vs, vs', w, lo, hi, h, hp => by
  have e27 := h 27 (.inr (by decide))
  have e31 := h 31 (.inl rfl)
  show vs' 31 = .slice (some ⟨lo, 0, none⟩) 5 5 ∧ w.heap[lo]? = some (.cells #[.string (⟨#[105, 100]⟩ : ByteArray), .slice none 0 0, .string (⟨#[73, 110, 116]⟩ : ByteArray), .bool false, .bool true, .string (⟨#[118, 97, 108, 117, 101]⟩ : ByteArray), .slice none 0 0, .string (⟨#[73, 110, 116]⟩ : ByteArray), .bool false, .bool false, .string (⟨#[112, 108, 117, 115]⟩ : ByteArray), vs' 27, .string (⟨#[73, 110, 116]⟩ : ByteArray), .bool false, .bool false, .string (⟨#[110, 101, 120, 116]⟩ : ByteArray), .slice none 0 0, .string (⟨#[78, 111, 100, 101]⟩ : ByteArray), .bool false, .bool false, .string (⟨#[110, 101, 101, 100]⟩ : ByteArray), .slice none 0 0, .string (⟨#[78, 111, 100, 101]⟩ : ByteArray), .bool false, .bool true] 38 (0, 0)) ∧ lo < hi
  rw [← e27, ← e31]
  exact hp
 | 32, vs, vs', w, lo, hi, h, hp => by
  have e31 := h 31 (.inr (by decide))
  have e32 := h 32 (.inl rfl)
  show vs' 32 = .agg #[.string (⟨#[78, 111, 100, 101]⟩ : ByteArray), vs' 31]
  rw [← e31, ← e32]
  exact hp
 | 33, vs, vs', w, lo, hi, h, hp => by
  have e8 := h 8 (.inr (by decide))
  have e22 := h 22 (.inr (by decide))
  have e31 := h 31 (.inr (by decide))
  have e33 := h 33 (.inl rfl)
  show vs' 33 = .slice (some ⟨lo, 0, none⟩) 3 3 ∧ w.heap[lo]? = some (.cells #[.string (⟨#[81, 117, 101, 114, 121]⟩ : ByteArray), vs' 8, .string (⟨#[77, 117, 116, 97, 116, 105, 111, 110]⟩ : ByteArray), vs' 22, .string (⟨#[78, 111, 100, 101]⟩ : ByteArray), vs' 31] 53 (0, 0)) ∧ lo < hi
  rw [← e8, ← e22, ← e31, ← e33]
  exact hp
 | 34, vs, vs', w, lo, hi, h, hp => by
  have e33 := h 33 (.inr (by decide))
  have e34 := h 34 (.inl rfl)
  show vs' 34 = .agg #[vs' 33]
  rw [← e33, ← e34]
  exact hp
 | n + 35, _, _, _, _, _, _, _ => trivial
theorem ps_mono : ∀ (i : Nat) (vs : Nat → Value) (w w' : World) (lo hi : Nat), psPhi i vs w lo hi → Below w.heap.size w w' → psPhi i vs w' lo hi
 | 0, vs, w, w', lo, hi, hp, hb => hp
 | 1, vs, w, w', lo, hi, hp, hb => ⟨hp.1, blk_below hp.2.1 hb, hp.2.2⟩
 | 2, vs, w, w', lo, hi, hp, hb => hp
 | 3, vs, w, w', lo, hi, hp, hb => hp
 | 4, vs, w, w', lo, hi, hp, hb => ⟨hp.1, blk_below hp.2.1 hb, hp.2.2⟩
 | 5, vs, w, w', lo, hi, hp, hb => hp
 | 6, vs, w, w', lo, hi, hp, hb => hp
 | 7, vs, w, w', lo, hi, hp, hb => hp
 | 8, vs, w, w', lo, hi, hp, hb => ⟨hp.1, blk_below hp.2.1 hb, hp.2.2⟩
 | 9, vs, w, w', lo, hi, hp, hb => hp
 | 10, vs, w, w', lo, hi, hp, hb => hp
 | 11, vs, w, w', lo, hi, hp, hb => hp
 | 12, vs, w, w', lo, hi, hp, hb => ⟨hp.1, blk_below hp.2.1 hb, hp.2.2⟩
 | 13, vs, w, w', lo, hi, hp, hb => hp
 | 14, vs, w, w', lo, hi, hp, hb => hp
 | 15, vs, w, w', lo, hi, hp, hb => hp
 | 16, vs, w, w', lo, hi, hp, hb => ⟨hp.1, blk_below hp.2.1 hb, hp.2.2⟩
 | 17, vs, w, w', lo, hi, hp, hb => hp
 | 18, vs, w, w', lo, hi, hp, hb => hp
 | 19, vs, w, w', lo, hi, hp, hb => hp
 | 20, vs, w, w', lo, hi, hp, hb => ⟨hp.1, blk_below hp.2.1 hb, hp.2.2⟩
 | 21, vs, w, w', lo, hi, hp, hb => hp
 | 22, vs, w, w', lo, hi, hp, hb => ⟨hp.1, blk_below hp.2.1 hb, hp.2.2⟩
 | 23, vs, w, w', lo, hi, hp, hb => hp
 | 24, vs, w, w', lo, hi, hp, hb => hp
 | 25, vs, w, w', lo, hi, hp, hb => hp
 | 26, vs, w, w', lo, hi, hp, hb => hp
 | 27, vs, w, w', lo, hi, hp, hb => ⟨hp.1, blk_below hp.2.1 hb, hp.2.2⟩
 | 28, vs, w, w', lo, hi, hp, hb => hp
 | 29, vs, w, w', lo, hi, hp, hb => hp
 | 30, vs, w, w', lo, hi, hp, hb => hp
 | 31, vs, w, w', lo, hi, hp, hb => ⟨hp.1, blk_below hp.2.1 hb, hp.2.2⟩
 | 32, vs, w, w', lo, hi, hp, hb => hp
 | 33, vs, w, w', lo, hi, hp, hb => ⟨hp.1, blk_below hp.2.1 hb, hp.2.2⟩
 | 34, vs, w, w', lo, hi, hp, hb => hp
 | n + 35, _, _, _, _, _, _, _ => trivial
def psChk (ops : Array Oper) : Bool := (List.range 35).all fun i => match ops[i]? with
 | some o => (o.dst == some (i + 4)) && o.guard.isNone && (o.after.toList.all fun e => !(Region.binds .any e) || decide (e.on < i)) && ((psDep i).all fun j => o.after.toList.any fun e => Region.binds .any e && (e.on == j))
 | none => false
theorem ps_chk : psChk (ps_opsOf (ps_seqA (ps_seqB (ps_seqB (ps_seqB (ps_codeOf Try.f24)))))) = true := by kernel_rfl
def psWait (ops : Array Oper) : Bool := match ops[35]? with
 | some o => (List.range 35).all fun j => o.after.toList.any fun e => Region.binds .any e && (e.on == j)
 | none => false
theorem ps_wait : psWait (ps_opsOf (ps_seqA (ps_seqB (ps_seqB (ps_seqB (ps_codeOf Try.f24)))))) = true := by kernel_rfl
theorem ps_of {ops : Array Oper} (h : psChk ops = true) (i : Nat) (o : Oper) (hi : i < 35) (ho : ops[i]? = some o) : o.dst = some (i + 4) ∧ o.guard = none ∧ (∀ e ∈ o.after, Region.binds .any e = true → e.on < i) ∧ ∀ j ∈ psDep i, ∃ e ∈ o.after, Region.binds .any e = true ∧ e.on = j := by
 have h1 := List.all_eq_true.1 h i (List.mem_range.2 hi)
 rw [ho] at h1
 simp only [Bool.and_eq_true, beq_iff_eq, Option.isNone_iff_eq_none] at h1
 obtain ⟨⟨⟨a, b⟩, c⟩, d⟩ := h1
 refine ⟨a, b, fun e he hb => ?_, fun j hj => ?_⟩
 ·have := List.all_eq_true.1 c e (Array.mem_toList_iff.2 he)
  rw [hb] at this
  simpa using this
 ·have := List.all_eq_true.1 d j hj
  obtain ⟨e, he, h2⟩ := List.any_eq_true.1 this
  simp only [Bool.and_eq_true, beq_iff_eq] at h2
  exact ⟨e, Array.mem_toList_iff.1 he, h2⟩
theorem ps_waits {ops : Array Oper} (h : psWait ops = true) (o : Oper) (ho : ops[35]? = some o) (j : Nat) (hj : j < 35) : ∃ e ∈ o.after, Region.binds .any e = true ∧ e.on = j := by
 unfold psWait at h
 rw [ho] at h
 have := List.all_eq_true.1 h j (List.mem_range.2 hj)
 obtain ⟨e, he, h2⟩ := List.any_eq_true.1 this
 simp only [Bool.and_eq_true, beq_iff_eq] at h2
 exact ⟨e, Array.mem_toList_iff.1 he, h2⟩
theorem ps_step (W : World) (a0 : Act) (gb : Nat) (h1 : a0.tmps[1]? = some (.pointer (some ⟨gb, 0, none⟩))) (hbx : W.heap[gb]? = some (.cells #[.string (⟨#[110, 111, 100, 101, 115]⟩ : ByteArray), .slice none 0 0, .string (⟨#[78, 111, 100, 101]⟩ : ByteArray), .bool true, .bool false] 38 (0, 0))) : ∀ i o, i < 35 → (ps_opsOf (ps_seqA (ps_seqB (ps_seqB (ps_seqB (ps_codeOf Try.f24))))))[i]? = some o → ∀ (vs : Nat → Value) (a : Act) (w : World) (lo hi : Nat → Nat), Below W.heap.size W w → (∀ j ∈ psDep i, a.tmps[j + 4]? = some (vs j) ∧ psPhi j vs w (lo j) (hi j)) → (∀ t, (∀ j, j < 35 → j + 4 ≠ t) → a.tmps[t]? = a0.tmps[t]?) →
   GrowRes Try.prog (fun v w' => Below w.heap.size w w' ∧ psPhi i (upd vs i v) w' w.heap.size w'.heap.size) ((execOp a.eval o).run Try.prog w)
 | 0, o, _, ho, vs, a, w, lo, hi, hb, hd, ht => ps_step0 o ho vs a W w gb lo hi hb hd ((ht 1 (fun j _ => by omega)).trans h1) hbx
 | 1, o, _, ho, vs, a, w, lo, hi, hb, hd, ht => ps_step1 o ho vs a W w gb lo hi hb hd ((ht 1 (fun j _ => by omega)).trans h1) hbx
 | 2, o, _, ho, vs, a, w, lo, hi, hb, hd, ht => ps_step2 o ho vs a W w gb lo hi hb hd ((ht 1 (fun j _ => by omega)).trans h1) hbx
 | 3, o, _, ho, vs, a, w, lo, hi, hb, hd, ht => ps_step3 o ho vs a W w gb lo hi hb hd ((ht 1 (fun j _ => by omega)).trans h1) hbx
 | 4, o, _, ho, vs, a, w, lo, hi, hb, hd, ht => ps_step4 o ho vs a W w gb lo hi hb hd ((ht 1 (fun j _ => by omega)).trans h1) hbx
 | 5, o, _, ho, vs, a, w, lo, hi, hb, hd, ht => ps_step5 o ho vs a W w gb lo hi hb hd ((ht 1 (fun j _ => by omega)).trans h1) hbx
 | 6, o, _, ho, vs, a, w, lo, hi, hb, hd, ht => ps_step6 o ho vs a W w gb lo hi hb hd ((ht 1 (fun j _ => by omega)).trans h1) hbx
 | 7, o, _, ho, vs, a, w, lo, hi, hb, hd, ht => ps_step7 o ho vs a W w gb lo hi hb hd ((ht 1 (fun j _ => by omega)).trans h1) hbx
 | 8, o, _, ho, vs, a, w, lo, hi, hb, hd, ht => ps_step8 o ho vs a W w gb lo hi hb hd ((ht 1 (fun j _ => by omega)).trans h1) hbx
 | 9, o, _, ho, vs, a, w, lo, hi, hb, hd, ht => ps_step9 o ho vs a W w gb lo hi hb hd ((ht 1 (fun j _ => by omega)).trans h1) hbx
 | 10, o, _, ho, vs, a, w, lo, hi, hb, hd, ht => ps_step10 o ho vs a W w gb lo hi hb hd ((ht 1 (fun j _ => by omega)).trans h1) hbx
 | 11, o, _, ho, vs, a, w, lo, hi, hb, hd, ht => ps_step11 o ho vs a W w gb lo hi hb hd ((ht 1 (fun j _ => by omega)).trans h1) hbx
 | 12, o, _, ho, vs, a, w, lo, hi, hb, hd, ht => ps_step12 o ho vs a W w gb lo hi hb hd ((ht 1 (fun j _ => by omega)).trans h1) hbx
 | 13, o, _, ho, vs, a, w, lo, hi, hb, hd, ht => ps_step13 o ho vs a W w gb lo hi hb hd ((ht 1 (fun j _ => by omega)).trans h1) hbx
 | 14, o, _, ho, vs, a, w, lo, hi, hb, hd, ht => ps_step14 o ho vs a W w gb lo hi hb hd ((ht 1 (fun j _ => by omega)).trans h1) hbx
 | 15, o, _, ho, vs, a, w, lo, hi, hb, hd, ht => ps_step15 o ho vs a W w gb lo hi hb hd ((ht 1 (fun j _ => by omega)).trans h1) hbx
 | 16, o, _, ho, vs, a, w, lo, hi, hb, hd, ht => ps_step16 o ho vs a W w gb lo hi hb hd ((ht 1 (fun j _ => by omega)).trans h1) hbx
 | 17, o, _, ho, vs, a, w, lo, hi, hb, hd, ht => ps_step17 o ho vs a W w gb lo hi hb hd ((ht 1 (fun j _ => by omega)).trans h1) hbx
 | 18, o, _, ho, vs, a, w, lo, hi, hb, hd, ht => ps_step18 o ho vs a W w gb lo hi hb hd ((ht 1 (fun j _ => by omega)).trans h1) hbx
 | 19, o, _, ho, vs, a, w, lo, hi, hb, hd, ht => ps_step19 o ho vs a W w gb lo hi hb hd ((ht 1 (fun j _ => by omega)).trans h1) hbx
 | 20, o, _, ho, vs, a, w, lo, hi, hb, hd, ht => ps_step20 o ho vs a W w gb lo hi hb hd ((ht 1 (fun j _ => by omega)).trans h1) hbx
 | 21, o, _, ho, vs, a, w, lo, hi, hb, hd, ht => ps_step21 o ho vs a W w gb lo hi hb hd ((ht 1 (fun j _ => by omega)).trans h1) hbx
 | 22, o, _, ho, vs, a, w, lo, hi, hb, hd, ht => ps_step22 o ho vs a W w gb lo hi hb hd ((ht 1 (fun j _ => by omega)).trans h1) hbx
 | 23, o, _, ho, vs, a, w, lo, hi, hb, hd, ht => ps_step23 o ho vs a W w gb lo hi hb hd ((ht 1 (fun j _ => by omega)).trans h1) hbx
 | 24, o, _, ho, vs, a, w, lo, hi, hb, hd, ht => ps_step24 o ho vs a W w gb lo hi hb hd ((ht 1 (fun j _ => by omega)).trans h1) hbx
 | 25, o, _, ho, vs, a, w, lo, hi, hb, hd, ht => ps_step25 o ho vs a W w gb lo hi hb hd ((ht 1 (fun j _ => by omega)).trans h1) hbx
 | 26, o, _, ho, vs, a, w, lo, hi, hb, hd, ht => ps_step26 o ho vs a W w gb lo hi hb hd ((ht 1 (fun j _ => by omega)).trans h1) hbx
 | 27, o, _, ho, vs, a, w, lo, hi, hb, hd, ht => ps_step27 o ho vs a W w gb lo hi hb hd ((ht 1 (fun j _ => by omega)).trans h1) hbx
 | 28, o, _, ho, vs, a, w, lo, hi, hb, hd, ht => ps_step28 o ho vs a W w gb lo hi hb hd ((ht 1 (fun j _ => by omega)).trans h1) hbx
 | 29, o, _, ho, vs, a, w, lo, hi, hb, hd, ht => ps_step29 o ho vs a W w gb lo hi hb hd ((ht 1 (fun j _ => by omega)).trans h1) hbx
 | 30, o, _, ho, vs, a, w, lo, hi, hb, hd, ht => ps_step30 o ho vs a W w gb lo hi hb hd ((ht 1 (fun j _ => by omega)).trans h1) hbx
 | 31, o, _, ho, vs, a, w, lo, hi, hb, hd, ht => ps_step31 o ho vs a W w gb lo hi hb hd ((ht 1 (fun j _ => by omega)).trans h1) hbx
 | 32, o, _, ho, vs, a, w, lo, hi, hb, hd, ht => ps_step32 o ho vs a W w gb lo hi hb hd ((ht 1 (fun j _ => by omega)).trans h1) hbx
 | 33, o, _, ho, vs, a, w, lo, hi, hb, hd, ht => ps_step33 o ho vs a W w gb lo hi hb hd ((ht 1 (fun j _ => by omega)).trans h1) hbx
 | 34, o, _, ho, vs, a, w, lo, hi, hb, hd, ht => ps_step34 o ho vs a W w gb lo hi hb hd ((ht 1 (fun j _ => by omega)).trans h1) hbx
 | n + 35, _, h, _, _, _, _, _, _, _, _, _ => absurd h (by omega)
set_option maxHeartbeats 4000000 in
set_option maxRecDepth 100000 in
theorem ps_region {Q : Exit → Act → World → Prop} {id : Nat} (a0 : Act) (W : World) (g0 gb : Nat) (hs : a0.tmps.size = 39) (h0 : a0.tmps[0]? = some (.pointer (some ⟨g0, 0, none⟩))) (h1 : a0.tmps[1]? = some (.pointer (some ⟨gb, 0, none⟩)))
  (hbx : W.heap[gb]? = some (.cells #[.string (⟨#[110, 111, 100, 101, 115]⟩ : ByteArray), .slice none 0 0, .string (⟨#[78, 111, 100, 101]⟩ : ByteArray), .bool true, .bool false] 38 (0, 0))) (hg0 : W.heap[g0]? = some (.cells #[.slice none 0 0] 29 (0, 0)))
  (hfin : ∀ (vs : Nat → Value) (w : World) (lo hi : Nat → Nat), (∀ i, i < 35 → psPhi i vs w (lo i) (hi i) ∧ W.heap.size ≤ lo i ∧ lo i ≤ hi i ∧ hi i ≤ w.heap.size) → (∀ i j, i < 35 → j < 35 → i ≠ j → hi i ≤ lo j ∨ hi j ≤ lo i) → Below W.heap.size W w →
   Q .normal (putAllG a0 ((List.range 35).map fun i => (i + 4, vs i))) (w.setCell ⟨g0, 0, none⟩ (vs 33))) :
  (Code.region id (ps_opsOf (ps_seqA (ps_seqB (ps_seqB (ps_seqB (ps_codeOf Try.f24)))))) true).wp Try.prog Q a0 W := by
 refine wp_region_any (by kernel_rfl) ?_
 refine wpAny_grow (W := W) (a0 := a0) (n := 35) (N := fun i => i + 4) (dep := psDep) (cl := psCl) (φ := psPhi) #[true, true, true, true, true, true, true, true, true, true, true, true, true, true, true, true, true, true, true, true, true, true, true, true, true, true, true, true, true, true, true, true, true, true, true, false] rfl (fun i hi => ?_) rfl (by kernel_rfl) (fun o ho i hi => ps_waits ps_wait o ho i hi) (fun i j _ _ h => by have h' : i + 4 = j + 4 := h; omega) (fun i hi => by show i + 4 < _; omega) (fun i o hi ho => ⟨(ps_of ps_chk i o hi ho).1, (ps_of ps_chk i o hi ho).2.1⟩)
  (fun i o hi ho => (ps_of ps_chk i o hi ho).2.2.1) (fun i o hi ho => (ps_of ps_chk i o hi ho).2.2.2) ps_cl ps_same ps_mono (ps_step W a0 gb h1 hbx) ?hend 35 _ [] a0 _ (fun _ => undef) (fun _ => 0) (fun _ => 0) rfl List.nodup_nil (fun _ h => nomatch h) (by kernel_rfl) (fun i hi => ?_) ?_ ⟨rfl, rfl, (fun _ h => nomatch h), (fun _ _ => rfl)⟩ (fun _ h => nomatch h) (fun _ h => nomatch h) (fun _ h => nomatch h) ?_
 case hend =>
  intro vs w lo hi hp hd hb
  have hS := putAllG_slots 35 (fun i => i + 4) a0 vs (fun i j _ _ h => by have h' : i + 4 = j + 4 := h; omega) (fun i hi => by show i + 4 < _; omega) 35 a0 (Nat.le_refl _) ⟨rfl, rfl, (fun i hi => by simp at hi), (fun _ _ => rfl)⟩
  rw [Nat.sub_self, List.drop_zero] at hS
  generalize hAA : putAllG a0 ((List.range 35).map fun i => (i + 4, vs i)) = A at hS ⊢
  have h0' : A.tmps[0]? = some (.pointer (some ⟨g0, 0, none⟩)) := (hS.2.2.2 0 (fun i _ => by show i + 4 ≠ 0; omega)).trans h0
  have h38 : A.tmps[38]? = some (vs 34) := hS.2.2.1 34 (List.mem_range.2 (by omega))
  have v34 : vs 34 = .agg #[vs 33] := (hp 34 (by omega)).1
  have v33 := (hp 33 (by omega)).1.1
  have e0 : A.eval (.tmp 0) = .pointer (some ⟨g0, 0, none⟩) := ev_tmp h0'
  have e38 : A.eval (.tmp 38) = .agg #[vs 33] := by rw [← v34]; exact ev_tmp h38
  have hgw := blk_below hg0 hb
  have hc0 : w.cell? ⟨g0, 0, none⟩ = some (.slice none 0 0) := (blk_cell hgw 0).trans rfl
  have hf0 := blk_frozen hgw 0
  have hr : Region.ready .any (ps_opsOf (ps_seqA (ps_seqB (ps_seqB (ps_seqB (ps_codeOf Try.f24)))))) #[true, true, true, true, true, true, true, true, true, true, true, true, true, true, true, true, true, true, true, true, true, true, true, true, true, true, true, true, true, true, true, true, true, true, true, false] = [35] := by kernel_rfl
  refine ⟨fun h => absurd (hr.symm.trans h) (by decide), fun i hri => ?_⟩
  rw [hr] at hri
  obtain rfl := List.mem_singleton.1 hri
  refine wpOp_step (o := ((ps_opsOf (ps_seqA (ps_seqB (ps_seqB (ps_seqB (ps_codeOf Try.f24)))))))[35]'(by decide)) rfl (fun K' hK => ?_)
  refine skip_ (w1 := w.setCell ⟨g0, 0, none⟩ (vs 33)) (by rfl) rfl ?_ (hK _ _ ⟨by kernel_rfl, by rw [← hAA]; exact hfin vs w lo hi hp hd hb⟩)
  have hop : (((ps_opsOf (ps_seqA (ps_seqB (ps_seqB (ps_seqB (ps_codeOf Try.f24)))))))[35]'(by decide)).op = .store 29 (.tmp 0) (.tmp 38) := rfl
  have hu := Try.underlying29
  rw [v33] at e38 ⊢
  unfold execOp
  simp only [hop, e0, e38]
  first | (go_simp; done) | (go_simp; rfl)
 ·have : i ∈ List.range 35 := List.mem_range.2 hi
  have hc : ((List.range 35).all fun i => (#[true, true, true, true, true, true, true, true, true, true, true, true, true, true, true, true, true, true, true, true, true, true, true, true, true, true, true, true, true, true, true, true, true, true, true, false] : Array Bool)[i]? == some true) = true := by kernel_rfl
  have := List.all_eq_true.1 hc i this
  simpa using this
 ·have hc : ((List.range 35).all fun i => (Array.replicate (ps_opsOf (ps_seqA (ps_seqB (ps_seqB (ps_seqB (ps_codeOf Try.f24)))))).size false)[i]? == some false) = true := by kernel_rfl
  have h2 := List.all_eq_true.1 hc i (List.mem_range.2 hi)
  have h3 : (Array.replicate (ps_opsOf (ps_seqA (ps_seqB (ps_seqB (ps_seqB (ps_codeOf Try.f24)))))).size false)[i]? = some false := by simpa using h2
  rw [h3]
  exact ⟨(fun h => nomatch h), (fun h => nomatch h)⟩
 ·kernel_rfl
 ·exact ⟨rfl, rfl, rfl, Nat.le_refl _, fun _ _ => rfl⟩
theorem ps_far : ∀ (i : Nat) (vs : Nat → Value) (w : World) (lo hi g : Nat) (v : Value), psPhi i vs w lo hi → lo ≠ g → psPhi i vs (w.setCell ⟨g, 0, none⟩ v) lo hi
 | 0, vs, w, lo, hi, g, v, hp, hn => hp
 | 1, vs, w, lo, hi, g, v, hp, hn => ⟨hp.1, (Below.heap_setCell _ ⟨g, 0, none⟩ _ _ hn).trans hp.2.1, hp.2.2⟩
 | 2, vs, w, lo, hi, g, v, hp, hn => hp
 | 3, vs, w, lo, hi, g, v, hp, hn => hp
 | 4, vs, w, lo, hi, g, v, hp, hn => ⟨hp.1, (Below.heap_setCell _ ⟨g, 0, none⟩ _ _ hn).trans hp.2.1, hp.2.2⟩
 | 5, vs, w, lo, hi, g, v, hp, hn => hp
 | 6, vs, w, lo, hi, g, v, hp, hn => hp
 | 7, vs, w, lo, hi, g, v, hp, hn => hp
 | 8, vs, w, lo, hi, g, v, hp, hn => ⟨hp.1, (Below.heap_setCell _ ⟨g, 0, none⟩ _ _ hn).trans hp.2.1, hp.2.2⟩
 | 9, vs, w, lo, hi, g, v, hp, hn => hp
 | 10, vs, w, lo, hi, g, v, hp, hn => hp
 | 11, vs, w, lo, hi, g, v, hp, hn => hp
 | 12, vs, w, lo, hi, g, v, hp, hn => ⟨hp.1, (Below.heap_setCell _ ⟨g, 0, none⟩ _ _ hn).trans hp.2.1, hp.2.2⟩
 | 13, vs, w, lo, hi, g, v, hp, hn => hp
 | 14, vs, w, lo, hi, g, v, hp, hn => hp
 | 15, vs, w, lo, hi, g, v, hp, hn => hp
 | 16, vs, w, lo, hi, g, v, hp, hn => ⟨hp.1, (Below.heap_setCell _ ⟨g, 0, none⟩ _ _ hn).trans hp.2.1, hp.2.2⟩
 | 17, vs, w, lo, hi, g, v, hp, hn => hp
 | 18, vs, w, lo, hi, g, v, hp, hn => hp
 | 19, vs, w, lo, hi, g, v, hp, hn => hp
 | 20, vs, w, lo, hi, g, v, hp, hn => ⟨hp.1, (Below.heap_setCell _ ⟨g, 0, none⟩ _ _ hn).trans hp.2.1, hp.2.2⟩
 | 21, vs, w, lo, hi, g, v, hp, hn => hp
 | 22, vs, w, lo, hi, g, v, hp, hn => ⟨hp.1, (Below.heap_setCell _ ⟨g, 0, none⟩ _ _ hn).trans hp.2.1, hp.2.2⟩
 | 23, vs, w, lo, hi, g, v, hp, hn => hp
 | 24, vs, w, lo, hi, g, v, hp, hn => hp
 | 25, vs, w, lo, hi, g, v, hp, hn => hp
 | 26, vs, w, lo, hi, g, v, hp, hn => hp
 | 27, vs, w, lo, hi, g, v, hp, hn => ⟨hp.1, (Below.heap_setCell _ ⟨g, 0, none⟩ _ _ hn).trans hp.2.1, hp.2.2⟩
 | 28, vs, w, lo, hi, g, v, hp, hn => hp
 | 29, vs, w, lo, hi, g, v, hp, hn => hp
 | 30, vs, w, lo, hi, g, v, hp, hn => hp
 | 31, vs, w, lo, hi, g, v, hp, hn => ⟨hp.1, (Below.heap_setCell _ ⟨g, 0, none⟩ _ _ hn).trans hp.2.1, hp.2.2⟩
 | 32, vs, w, lo, hi, g, v, hp, hn => hp
 | 33, vs, w, lo, hi, g, v, hp, hn => ⟨hp.1, (Below.heap_setCell _ ⟨g, 0, none⟩ _ _ hn).trans hp.2.1, hp.2.2⟩
 | 34, vs, w, lo, hi, g, v, hp, hn => hp
 | n + 35, _, _, _, _, _, _, _, _ => trivial
set_option maxHeartbeats 4000000 in
set_option maxRecDepth 100000 in
theorem ps_calls (w : World) : Calls Try.prog 24 #[] w fun e w' => ∃ (vs : Nat → Value) (lo hi : Nat → Nat), e = .returned (.agg #[vs 33]) ∧ (∀ i, i < 35 → psPhi i vs w' (lo i) (hi i) ∧ w.heap.size ≤ lo i ∧ lo i ≤ hi i ∧ hi i ≤ w'.heap.size) ∧ (∀ i j, i < 35 → j < 35 → i ≠ j → hi i ≤ lo j ∨ hi j ≤ lo i) ∧ Below w.heap.size w w' := by
 have hu29 := Try.underlying29
 have hu38 := Try.underlying38
 go_enter Try.func24, Try.ntmps24
 go_wp2_with (first | ((with_reducible refine gate_dst (N := 0) rfl ?_); refine box_event ?hg (N := 0) ?hd (cs := #[.slice none 0 0]) (t := 29) ?hr ?_; (case hd => rfl); (case hg => rfl); (case hr => first | (go_simp; done) | (go_simp; rfl)); intro g0 hg w1 hbox hb; have BK0 := Aside0.mk hbox; have HB := Aside0.mk hb; have GE0 := Aside0.mk (show w.heap.size ≤ g0 by rw [hg]; exact Nat.le_refl _); clear hb hbox hg) | (go_at_call 51; refine (field_s (⟨#[110, 111, 100, 101, 115]⟩ : ByteArray) (⟨#[78, 111, 100, 101]⟩ : ByteArray) false none 0 0 _).mono ?_; rintro e w2 ⟨rfl, hb2⟩; have n0_ := Aside0.mk (blk_below BK0.out hb2); have n1_ := Aside0.mk (below_step HB.out hb2); clear BK0; clear HB; have BK0 := n0_; have HB := n1_; clear n0_ n1_ hb2) | ((with_reducible refine gate_dst (N := 1) rfl ?_); refine box_event ?hg (N := 1) ?hd (cs := #[.string (⟨#[]⟩ : ByteArray), .slice none 0 0, .string (⟨#[]⟩ : ByteArray), .bool false, .bool false]) (t := 38) ?hr ?_; (case hd => rfl); (case hg => rfl); (case hr => first | (go_simp; done) | (go_simp; rfl)); intro gb hg w3 hbox hb; have NE := Aside0.mk (show g0 ≠ gb from fun e => by have := blk_lt BK0.out; rw [e, hg] at this; exact absurd this (Nat.lt_irrefl _)); have n0_ := Aside0.mk (blk_below BK0.out hb); have GE1 := Aside0.mk (show w.heap.size ≤ gb by rw [hg]; exact HB.out.size); have n1_ := Aside0.mk (below_step HB.out hb); clear BK0; clear HB; have BK0 := n0_; have HB := n1_; clear n0_ n1_; have BK1 := Aside0.mk hbox; have hcz_0 : w3.cell? ⟨gb, 0, none⟩ = some (.string (⟨#[]⟩ : ByteArray)) := (blk_cell hbox 0).trans rfl; have hcz_1 : w3.cell? ⟨gb, 1, none⟩ = some (.slice none 0 0) := (blk_cell hbox 1).trans rfl; have hcz_2 : w3.cell? ⟨gb, 2, none⟩ = some (.string (⟨#[]⟩ : ByteArray)) := (blk_cell hbox 2).trans rfl; have hcz_3 : w3.cell? ⟨gb, 3, none⟩ = some (.bool false) := (blk_cell hbox 3).trans rfl; have hcz_4 : w3.cell? ⟨gb, 4, none⟩ = some (.bool false) := (blk_cell hbox 4).trans rfl; have hfz_0 := blk_frozen hbox 0; have hfz_1 := blk_frozen hbox 1; have hfz_2 := blk_frozen hbox 2; have hfz_3 := blk_frozen hbox 3; have hfz_4 := blk_frozen hbox 4; clear hb hbox hg))
 have hB : Below w.heap.size w ((((((w3.setCell ⟨gb, 0, none⟩ (.string (⟨#[110, 111, 100, 101, 115]⟩ : ByteArray))).setCell ⟨gb, 1, none⟩ (.slice none 0 0)).setCell ⟨gb, 2, none⟩ (.string (⟨#[78, 111, 100, 101]⟩ : ByteArray))).setCell ⟨gb, 3, none⟩ (.bool false)).setCell ⟨gb, 4, none⟩ (.bool false)).setCell ⟨gb, 3, none⟩ (.bool true)) := (below_set (below_set (below_set (below_set (below_set (below_set HB.out GE1.out) GE1.out) GE1.out) GE1.out) GE1.out) GE1.out)
 have hbx : (((((((w3.setCell ⟨gb, 0, none⟩ (.string (⟨#[110, 111, 100, 101, 115]⟩ : ByteArray))).setCell ⟨gb, 1, none⟩ (.slice none 0 0)).setCell ⟨gb, 2, none⟩ (.string (⟨#[78, 111, 100, 101]⟩ : ByteArray))).setCell ⟨gb, 3, none⟩ (.bool false)).setCell ⟨gb, 4, none⟩ (.bool false)).setCell ⟨gb, 3, none⟩ (.bool true))).heap[gb]? = some (.cells #[.string (⟨#[110, 111, 100, 101, 115]⟩ : ByteArray), .slice none 0 0, .string (⟨#[78, 111, 100, 101]⟩ : ByteArray), .bool true, .bool false] 38 (0, 0)) := (blk_put (cs := #[.string (⟨#[110, 111, 100, 101, 115]⟩ : ByteArray), .slice none 0 0, .string (⟨#[78, 111, 100, 101]⟩ : ByteArray), .bool false, .bool false]) (blk_put (cs := #[.string (⟨#[110, 111, 100, 101, 115]⟩ : ByteArray), .slice none 0 0, .string (⟨#[78, 111, 100, 101]⟩ : ByteArray), .bool false, .bool false]) (blk_put (cs := #[.string (⟨#[110, 111, 100, 101, 115]⟩ : ByteArray), .slice none 0 0, .string (⟨#[78, 111, 100, 101]⟩ : ByteArray), .bool false, .bool false]) (blk_put (cs := #[.string (⟨#[110, 111, 100, 101, 115]⟩ : ByteArray), .slice none 0 0, .string (⟨#[]⟩ : ByteArray), .bool false, .bool false]) (blk_put (cs := #[.string (⟨#[110, 111, 100, 101, 115]⟩ : ByteArray), .slice none 0 0, .string (⟨#[]⟩ : ByteArray), .bool false, .bool false]) (blk_put (cs := #[.string (⟨#[]⟩ : ByteArray), .slice none 0 0, .string (⟨#[]⟩ : ByteArray), .bool false, .bool false]) BK1.out 0 _ rfl) 1 _ rfl) 2 _ rfl) 3 _ rfl) 4 _ rfl) 3 _ rfl)
 have h0 : (((((((w3.setCell ⟨gb, 0, none⟩ (.string (⟨#[110, 111, 100, 101, 115]⟩ : ByteArray))).setCell ⟨gb, 1, none⟩ (.slice none 0 0)).setCell ⟨gb, 2, none⟩ (.string (⟨#[78, 111, 100, 101]⟩ : ByteArray))).setCell ⟨gb, 3, none⟩ (.bool false)).setCell ⟨gb, 4, none⟩ (.bool false)).setCell ⟨gb, 3, none⟩ (.bool true))).heap[g0]? = some (.cells #[.slice none 0 0] 29 (0, 0)) := ((Below.heap_setCell _ ⟨_, 3, none⟩ _ _ NE.out).trans ((Below.heap_setCell _ ⟨_, 4, none⟩ _ _ NE.out).trans ((Below.heap_setCell _ ⟨_, 3, none⟩ _ _ NE.out).trans ((Below.heap_setCell _ ⟨_, 2, none⟩ _ _ NE.out).trans ((Below.heap_setCell _ ⟨_, 1, none⟩ _ _ NE.out).trans ((Below.heap_setCell _ ⟨_, 0, none⟩ _ _ NE.out).trans BK0.out))))))
 refine ps_region _ _ g0 gb rfl rfl rfl hbx h0 ?_
 intro vs w4 lo hi hp hd hb
 have hg0 : g0 < (((((((w3.setCell ⟨gb, 0, none⟩ (.string (⟨#[110, 111, 100, 101, 115]⟩ : ByteArray))).setCell ⟨gb, 1, none⟩ (.slice none 0 0)).setCell ⟨gb, 2, none⟩ (.string (⟨#[78, 111, 100, 101]⟩ : ByteArray))).setCell ⟨gb, 3, none⟩ (.bool false)).setCell ⟨gb, 4, none⟩ (.bool false)).setCell ⟨gb, 3, none⟩ (.bool true))).heap.size := blk_lt h0
 have hend0 := blk_below h0 hb
 have hfin : (w4.setCell ⟨g0, 0, none⟩ (vs 33)).heap[g0]? = some (.cells #[vs 33] 29 (0, 0)) := blk_put hend0 0 _ rfl
 have hsz : (w4.setCell ⟨g0, 0, none⟩ (vs 33)).heap.size = w4.heap.size := by simp [World.setCell]
 have HF := Aside0.mk hfin
 have HP := Aside0.mk hp
 have HD := Aside0.mk hd
 have HBB := Aside0.mk hb
 have HB2 := Aside0.mk hB
 have HG0 := Aside0.mk hg0
 have HSZ := Aside0.mk hsz
 clear hp hd hb hB hbx h0 hg0 hend0 hfin hsz
 generalize hwW : ((((((w3.setCell ⟨gb, 0, none⟩ (.string (⟨#[110, 111, 100, 101, 115]⟩ : ByteArray))).setCell ⟨gb, 1, none⟩ (.slice none 0 0)).setCell ⟨gb, 2, none⟩ (.string (⟨#[78, 111, 100, 101]⟩ : ByteArray))).setCell ⟨gb, 3, none⟩ (.bool false)).setCell ⟨gb, 4, none⟩ (.bool false)).setCell ⟨gb, 3, none⟩ (.bool true)) = W5 at HP HBB HB2 HG0
 clear hwW
 have hA : (putAllG { tmps := #[.pointer (some ⟨g0, 0, none⟩), .pointer (some ⟨gb, 0, none⟩), .agg #[.string (⟨#[110, 111, 100, 101, 115]⟩ : ByteArray), .slice none 0 0, .string (⟨#[78, 111, 100, 101]⟩ : ByteArray), .bool false, .bool false], .pointer (some ⟨gb, 3, none⟩), undef, undef, undef, undef, undef, undef, undef, undef, undef, undef, undef, undef, undef, undef, undef, undef, undef, undef, undef, undef, undef, undef, undef, undef, undef, undef, undef, undef, undef, undef, undef, undef, undef, undef, undef], defers := [] } (List.map (fun i => (i + 4, vs i)) (List.range 35))) = { tmps := #[.pointer (some ⟨g0, 0, none⟩), .pointer (some ⟨gb, 0, none⟩), .agg #[.string (⟨#[110, 111, 100, 101, 115]⟩ : ByteArray), .slice none 0 0, .string (⟨#[78, 111, 100, 101]⟩ : ByteArray), .bool false, .bool false], .pointer (some ⟨gb, 3, none⟩), vs 0, vs 1, vs 2, vs 3, vs 4, vs 5, vs 6, vs 7, vs 8, vs 9, vs 10, vs 11, vs 12, vs 13, vs 14, vs 15, vs 16, vs 17, vs 18, vs 19, vs 20, vs 21, vs 22, vs 23, vs 24, vs 25, vs 26, vs 27, vs 28, vs 29, vs 30, vs 31, vs 32, vs 33, vs 34], defers := [] } := by
  simp only [show List.range 35 = [0, 1, 2, 3, 4, 5, 6, 7, 8, 9, 10, 11, 12, 13, 14, 15, 16, 17, 18, 19, 20, 21, 22, 23, 24, 25, 26, 27, 28, 29, 30, 31, 32, 33, 34] from rfl, List.map_cons, List.map_nil, putAllG, Act.put, List.setIfInBounds_toArray, List.set_cons_zero, List.set_cons_succ, Nat.reduceAdd]
 rw [hA]
 clear hA
 go_wp2
 refine bodyPost_ret (results_cell_row rfl _ _ g0 29 #[vs 33] (0, 0) _ rfl HF.out Try.underlying29 rfl (by kernel_rfl)) rfl ?_
 refine ⟨vs, lo, hi, rfl, fun i hi_ => ?_, HD.out, below_set (HB2.out.trans (HBB.out.mono HB2.out.size)) GE0.out⟩
 obtain ⟨p1, p2, p3, p4⟩ := HP.out i hi_
 exact ⟨ps_far i vs w4 (lo i) (hi i) g0 _ p1 (fun e => by have := HG0.out; omega), Nat.le_trans HB2.out.size p2, p3, by rw [HSZ.out]; exact p4⟩
end Go.Proofs.Ytoogmlghfljeiaa.Q
namespace Go.Proofs.Ytoogmlghfljeiaa.Q
open Go.RowKit Go.Proofs.YtoogmlghfljeiaaW.PrintWords Go.Proofs.YtoogmlghfljeiaaW.PrintLast Go.Proofs.YtoogmlghfljeiaaW.PrintMore
set_option linter.unusedVariables false
def psL : List S53 := [(⟨(⟨#[81, 117, 101, 114, 121]⟩ : ByteArray), [(⟨(⟨#[110, 111, 100, 101]⟩ : ByteArray), [(⟨(⟨#[105, 100]⟩ : ByteArray), true⟩ : S57)], (⟨#[78, 111, 100, 101]⟩ : ByteArray), false, false⟩ : S38), (⟨(⟨#[109, 117, 115, 116]⟩ : ByteArray), [(⟨(⟨#[105, 100]⟩ : ByteArray), true⟩ : S57)], (⟨#[78, 111, 100, 101]⟩ : ByteArray), false, true⟩ : S38), (⟨(⟨#[110, 111, 100, 101, 115]⟩ : ByteArray), ([] : List S57), (⟨#[78, 111, 100, 101]⟩ : ByteArray), true, false⟩ : S38), (⟨(⟨#[115, 105, 122, 101]⟩ : ByteArray), ([] : List S57), (⟨#[73, 110, 116]⟩ : ByteArray), false, true⟩ : S38)]⟩ : S53), (⟨(⟨#[77, 117, 116, 97, 116, 105, 111, 110]⟩ : ByteArray), [(⟨(⟨#[115, 101, 116]⟩ : ByteArray), [(⟨(⟨#[105, 100]⟩ : ByteArray), true⟩ : S57), (⟨(⟨#[118, 97, 108, 117, 101]⟩ : ByteArray), true⟩ : S57)], (⟨#[78, 111, 100, 101]⟩ : ByteArray), false, false⟩ : S38), (⟨(⟨#[97, 100, 100]⟩ : ByteArray), [(⟨(⟨#[105, 100]⟩ : ByteArray), true⟩ : S57), (⟨(⟨#[98, 121]⟩ : ByteArray), true⟩ : S57)], (⟨#[78, 111, 100, 101]⟩ : ByteArray), false, false⟩ : S38), (⟨(⟨#[108, 105, 110, 107]⟩ : ByteArray), [(⟨(⟨#[105, 100]⟩ : ByteArray), true⟩ : S57), (⟨(⟨#[116, 111]⟩ : ByteArray), false⟩ : S57)], (⟨#[78, 111, 100, 101]⟩ : ByteArray), false, false⟩ : S38)]⟩ : S53), (⟨(⟨#[78, 111, 100, 101]⟩ : ByteArray), [(⟨(⟨#[105, 100]⟩ : ByteArray), ([] : List S57), (⟨#[73, 110, 116]⟩ : ByteArray), false, true⟩ : S38), (⟨(⟨#[118, 97, 108, 117, 101]⟩ : ByteArray), ([] : List S57), (⟨#[73, 110, 116]⟩ : ByteArray), false, false⟩ : S38), (⟨(⟨#[112, 108, 117, 115]⟩ : ByteArray), [(⟨(⟨#[98, 121]⟩ : ByteArray), true⟩ : S57)], (⟨#[73, 110, 116]⟩ : ByteArray), false, false⟩ : S38), (⟨(⟨#[110, 101, 120, 116]⟩ : ByteArray), ([] : List S57), (⟨#[78, 111, 100, 101]⟩ : ByteArray), false, false⟩ : S38), (⟨(⟨#[110, 101, 101, 100]⟩ : ByteArray), ([] : List S57), (⟨#[78, 111, 100, 101]⟩ : ByteArray), false, true⟩ : S38)]⟩ : S53)]
/-- A literal's block, told as a row of the call's own. -/
theorem lit_row {α : Type} (d : Kd α) (e : Nat) (w : World) (base g n : Nat) (ok : Nat → Prop) (xs : List α) (cs : List Value) (hok : ok g) (hb : base ≤ g) (hn : xs.length = n) (hm : n ≤ maxLen) (hh : w.heap[g]? = some (.cells cs.toArray e (0, 0))) (hr : Reps (d.M w base (fun k => ok k ∧ some k ≠ some g)) d.sz xs cs) : Kd.R d e w base ok (.slice (some ⟨g, 0, none⟩) n n) xs := by
 subst hn
 have hl := hr.1
 exact ⟨fun k hk => by have : g = k := (by simpa [Value.ownBlock] using hk); subst this; exact hok, cs, ⟨hl, .inr ⟨g, xs.length, cs.toArray, rfl, hb, hh, Nat.le_refl _, hm, by simpa using hl, by rw [List.toList_toArray, ← hl, List.take_length]⟩⟩, hr⟩
theorem ps_row1 (vs : Nat → Value) (w : World) (base lo hi : Nat) (ok : Nat → Prop) (h : psPhi 1 vs w lo hi) (hok : ok lo) (hb : base ≤ lo) : Kd.R k57 57 w base ok (vs 1) [(⟨(⟨#[105, 100]⟩ : ByteArray), true⟩ : S57)] := by
 obtain ⟨h1, h2, _⟩ := h
 rw [h1]
 exact lit_row k57 57 w base lo 1 ok [(⟨(⟨#[105, 100]⟩ : ByteArray), true⟩ : S57)] [.string (⟨#[105, 100]⟩ : ByteArray), .bool true] hok hb rfl (by decide) h2 (Reps.c2 (show Kd.M k57 _ _ _ (⟨(⟨#[105, 100]⟩ : ByteArray), true⟩ : S57) [.string (⟨#[105, 100]⟩ : ByteArray), .bool true] from k57_mkM _ _ _ (⟨(⟨#[105, 100]⟩ : ByteArray), true⟩ : S57)) (Reps.none _ _))
theorem ps_row4 (vs : Nat → Value) (w : World) (base lo hi : Nat) (ok : Nat → Prop) (h : psPhi 4 vs w lo hi) (hok : ok lo) (hb : base ≤ lo) : Kd.R k57 57 w base ok (vs 4) [(⟨(⟨#[105, 100]⟩ : ByteArray), true⟩ : S57)] := by
 obtain ⟨h1, h2, _⟩ := h
 rw [h1]
 exact lit_row k57 57 w base lo 1 ok [(⟨(⟨#[105, 100]⟩ : ByteArray), true⟩ : S57)] [.string (⟨#[105, 100]⟩ : ByteArray), .bool true] hok hb rfl (by decide) h2 (Reps.c2 (show Kd.M k57 _ _ _ (⟨(⟨#[105, 100]⟩ : ByteArray), true⟩ : S57) [.string (⟨#[105, 100]⟩ : ByteArray), .bool true] from k57_mkM _ _ _ (⟨(⟨#[105, 100]⟩ : ByteArray), true⟩ : S57)) (Reps.none _ _))
theorem ps_row12 (vs : Nat → Value) (w : World) (base lo hi : Nat) (ok : Nat → Prop) (h : psPhi 12 vs w lo hi) (hok : ok lo) (hb : base ≤ lo) : Kd.R k57 57 w base ok (vs 12) [(⟨(⟨#[105, 100]⟩ : ByteArray), true⟩ : S57), (⟨(⟨#[118, 97, 108, 117, 101]⟩ : ByteArray), true⟩ : S57)] := by
 obtain ⟨h1, h2, _⟩ := h
 rw [h1]
 exact lit_row k57 57 w base lo 2 ok [(⟨(⟨#[105, 100]⟩ : ByteArray), true⟩ : S57), (⟨(⟨#[118, 97, 108, 117, 101]⟩ : ByteArray), true⟩ : S57)] [.string (⟨#[105, 100]⟩ : ByteArray), .bool true, .string (⟨#[118, 97, 108, 117, 101]⟩ : ByteArray), .bool true] hok hb rfl (by decide) h2 (Reps.c2 (show Kd.M k57 _ _ _ (⟨(⟨#[105, 100]⟩ : ByteArray), true⟩ : S57) [.string (⟨#[105, 100]⟩ : ByteArray), .bool true] from k57_mkM _ _ _ (⟨(⟨#[105, 100]⟩ : ByteArray), true⟩ : S57)) (Reps.c2 (show Kd.M k57 _ _ _ (⟨(⟨#[118, 97, 108, 117, 101]⟩ : ByteArray), true⟩ : S57) [.string (⟨#[118, 97, 108, 117, 101]⟩ : ByteArray), .bool true] from k57_mkM _ _ _ (⟨(⟨#[118, 97, 108, 117, 101]⟩ : ByteArray), true⟩ : S57)) (Reps.none _ _)))
theorem ps_row16 (vs : Nat → Value) (w : World) (base lo hi : Nat) (ok : Nat → Prop) (h : psPhi 16 vs w lo hi) (hok : ok lo) (hb : base ≤ lo) : Kd.R k57 57 w base ok (vs 16) [(⟨(⟨#[105, 100]⟩ : ByteArray), true⟩ : S57), (⟨(⟨#[98, 121]⟩ : ByteArray), true⟩ : S57)] := by
 obtain ⟨h1, h2, _⟩ := h
 rw [h1]
 exact lit_row k57 57 w base lo 2 ok [(⟨(⟨#[105, 100]⟩ : ByteArray), true⟩ : S57), (⟨(⟨#[98, 121]⟩ : ByteArray), true⟩ : S57)] [.string (⟨#[105, 100]⟩ : ByteArray), .bool true, .string (⟨#[98, 121]⟩ : ByteArray), .bool true] hok hb rfl (by decide) h2 (Reps.c2 (show Kd.M k57 _ _ _ (⟨(⟨#[105, 100]⟩ : ByteArray), true⟩ : S57) [.string (⟨#[105, 100]⟩ : ByteArray), .bool true] from k57_mkM _ _ _ (⟨(⟨#[105, 100]⟩ : ByteArray), true⟩ : S57)) (Reps.c2 (show Kd.M k57 _ _ _ (⟨(⟨#[98, 121]⟩ : ByteArray), true⟩ : S57) [.string (⟨#[98, 121]⟩ : ByteArray), .bool true] from k57_mkM _ _ _ (⟨(⟨#[98, 121]⟩ : ByteArray), true⟩ : S57)) (Reps.none _ _)))
theorem ps_row20 (vs : Nat → Value) (w : World) (base lo hi : Nat) (ok : Nat → Prop) (h : psPhi 20 vs w lo hi) (hok : ok lo) (hb : base ≤ lo) : Kd.R k57 57 w base ok (vs 20) [(⟨(⟨#[105, 100]⟩ : ByteArray), true⟩ : S57), (⟨(⟨#[116, 111]⟩ : ByteArray), false⟩ : S57)] := by
 obtain ⟨h1, h2, _⟩ := h
 rw [h1]
 exact lit_row k57 57 w base lo 2 ok [(⟨(⟨#[105, 100]⟩ : ByteArray), true⟩ : S57), (⟨(⟨#[116, 111]⟩ : ByteArray), false⟩ : S57)] [.string (⟨#[105, 100]⟩ : ByteArray), .bool true, .string (⟨#[116, 111]⟩ : ByteArray), .bool false] hok hb rfl (by decide) h2 (Reps.c2 (show Kd.M k57 _ _ _ (⟨(⟨#[105, 100]⟩ : ByteArray), true⟩ : S57) [.string (⟨#[105, 100]⟩ : ByteArray), .bool true] from k57_mkM _ _ _ (⟨(⟨#[105, 100]⟩ : ByteArray), true⟩ : S57)) (Reps.c2 (show Kd.M k57 _ _ _ (⟨(⟨#[116, 111]⟩ : ByteArray), false⟩ : S57) [.string (⟨#[116, 111]⟩ : ByteArray), .bool false] from k57_mkM _ _ _ (⟨(⟨#[116, 111]⟩ : ByteArray), false⟩ : S57)) (Reps.none _ _)))
theorem ps_row27 (vs : Nat → Value) (w : World) (base lo hi : Nat) (ok : Nat → Prop) (h : psPhi 27 vs w lo hi) (hok : ok lo) (hb : base ≤ lo) : Kd.R k57 57 w base ok (vs 27) [(⟨(⟨#[98, 121]⟩ : ByteArray), true⟩ : S57)] := by
 obtain ⟨h1, h2, _⟩ := h
 rw [h1]
 exact lit_row k57 57 w base lo 1 ok [(⟨(⟨#[98, 121]⟩ : ByteArray), true⟩ : S57)] [.string (⟨#[98, 121]⟩ : ByteArray), .bool true] hok hb rfl (by decide) h2 (Reps.c2 (show Kd.M k57 _ _ _ (⟨(⟨#[98, 121]⟩ : ByteArray), true⟩ : S57) [.string (⟨#[98, 121]⟩ : ByteArray), .bool true] from k57_mkM _ _ _ (⟨(⟨#[98, 121]⟩ : ByteArray), true⟩ : S57)) (Reps.none _ _))
theorem ps_row8 (vs : Nat → Value) (w : World) (base : Nat) (lo hi : Nat → Nat) (ok : Nat → Prop) (h : ∀ i, i < 35 → psPhi i vs w (lo i) (hi i)) (hok : ∀ i, i < 33 → i ∈ [1, 4, 12, 16, 20, 27, 8, 22, 31] → ok (lo i)) (hb : ∀ i, i < 35 → base ≤ lo i) (hne : ∀ i j, i < 35 → j < 35 → i ≠ j → i ∈ [1, 4, 12, 16, 20, 27, 8, 22, 31, 33] → j ∈ [1, 4, 12, 16, 20, 27, 8, 22, 31, 33] → lo i ≠ lo j) : Kd.R k38 38 w base ok (vs 8) [(⟨(⟨#[110, 111, 100, 101]⟩ : ByteArray), [(⟨(⟨#[105, 100]⟩ : ByteArray), true⟩ : S57)], (⟨#[78, 111, 100, 101]⟩ : ByteArray), false, false⟩ : S38), (⟨(⟨#[109, 117, 115, 116]⟩ : ByteArray), [(⟨(⟨#[105, 100]⟩ : ByteArray), true⟩ : S57)], (⟨#[78, 111, 100, 101]⟩ : ByteArray), false, true⟩ : S38), (⟨(⟨#[110, 111, 100, 101, 115]⟩ : ByteArray), ([] : List S57), (⟨#[78, 111, 100, 101]⟩ : ByteArray), true, false⟩ : S38), (⟨(⟨#[115, 105, 122, 101]⟩ : ByteArray), ([] : List S57), (⟨#[73, 110, 116]⟩ : ByteArray), false, true⟩ : S38)] := by
 obtain ⟨h1, h2, _⟩ := h 8 (by omega)
 have ne1 : some (lo 1) ≠ some (lo 8) := fun e => hne 1 8 (by omega) (by omega) (by decide) (by decide) (by decide) (Option.some.inj e)
 have ne4 : some (lo 4) ≠ some (lo 8) := fun e => hne 4 8 (by omega) (by omega) (by decide) (by decide) (by decide) (Option.some.inj e)
 rw [h1]
 exact lit_row k38 38 w base (lo 8) 4 ok [(⟨(⟨#[110, 111, 100, 101]⟩ : ByteArray), [(⟨(⟨#[105, 100]⟩ : ByteArray), true⟩ : S57)], (⟨#[78, 111, 100, 101]⟩ : ByteArray), false, false⟩ : S38), (⟨(⟨#[109, 117, 115, 116]⟩ : ByteArray), [(⟨(⟨#[105, 100]⟩ : ByteArray), true⟩ : S57)], (⟨#[78, 111, 100, 101]⟩ : ByteArray), false, true⟩ : S38), (⟨(⟨#[110, 111, 100, 101, 115]⟩ : ByteArray), ([] : List S57), (⟨#[78, 111, 100, 101]⟩ : ByteArray), true, false⟩ : S38), (⟨(⟨#[115, 105, 122, 101]⟩ : ByteArray), ([] : List S57), (⟨#[73, 110, 116]⟩ : ByteArray), false, true⟩ : S38)] [.string (⟨#[110, 111, 100, 101]⟩ : ByteArray), vs 1, .string (⟨#[78, 111, 100, 101]⟩ : ByteArray), .bool false, .bool false, .string (⟨#[109, 117, 115, 116]⟩ : ByteArray), vs 4, .string (⟨#[78, 111, 100, 101]⟩ : ByteArray), .bool false, .bool true, .string (⟨#[110, 111, 100, 101, 115]⟩ : ByteArray), .slice none 0 0, .string (⟨#[78, 111, 100, 101]⟩ : ByteArray), .bool true, .bool false, .string (⟨#[115, 105, 122, 101]⟩ : ByteArray), .slice none 0 0, .string (⟨#[73, 110, 116]⟩ : ByteArray), .bool false, .bool true] (hok 8 (by omega) (by decide)) (hb 8 (by omega)) rfl (by decide) h2 (Reps.c5 (show Kd.M k38 w base _ (⟨(⟨#[110, 111, 100, 101]⟩ : ByteArray), [(⟨(⟨#[105, 100]⟩ : ByteArray), true⟩ : S57)], (⟨#[78, 111, 100, 101]⟩ : ByteArray), false, false⟩ : S38) [.string (⟨#[110, 111, 100, 101]⟩ : ByteArray), vs 1, .string (⟨#[78, 111, 100, 101]⟩ : ByteArray), .bool false, .bool false] from k38_mkM w base _ (⟨(⟨#[110, 111, 100, 101]⟩ : ByteArray), [(⟨(⟨#[105, 100]⟩ : ByteArray), true⟩ : S57)], (⟨#[78, 111, 100, 101]⟩ : ByteArray), false, false⟩ : S38) (ps_row1 vs w base (lo 1) (hi 1) _ (h 1 (by omega)) ⟨hok 1 (by omega) (by decide), ne1⟩ (hb 1 (by omega)))) (Reps.c5 (show Kd.M k38 w base _ (⟨(⟨#[109, 117, 115, 116]⟩ : ByteArray), [(⟨(⟨#[105, 100]⟩ : ByteArray), true⟩ : S57)], (⟨#[78, 111, 100, 101]⟩ : ByteArray), false, true⟩ : S38) [.string (⟨#[109, 117, 115, 116]⟩ : ByteArray), vs 4, .string (⟨#[78, 111, 100, 101]⟩ : ByteArray), .bool false, .bool true] from k38_mkM w base _ (⟨(⟨#[109, 117, 115, 116]⟩ : ByteArray), [(⟨(⟨#[105, 100]⟩ : ByteArray), true⟩ : S57)], (⟨#[78, 111, 100, 101]⟩ : ByteArray), false, true⟩ : S38) (ps_row4 vs w base (lo 4) (hi 4) _ (h 4 (by omega)) ⟨hok 4 (by omega) (by decide), ne4⟩ (hb 4 (by omega)))) (Reps.c5 (show Kd.M k38 w base _ (⟨(⟨#[110, 111, 100, 101, 115]⟩ : ByteArray), ([] : List S57), (⟨#[78, 111, 100, 101]⟩ : ByteArray), true, false⟩ : S38) [.string (⟨#[110, 111, 100, 101, 115]⟩ : ByteArray), .slice none 0 0, .string (⟨#[78, 111, 100, 101]⟩ : ByteArray), .bool true, .bool false] from k38_mkM w base _ (⟨(⟨#[110, 111, 100, 101, 115]⟩ : ByteArray), ([] : List S57), (⟨#[78, 111, 100, 101]⟩ : ByteArray), true, false⟩ : S38) (Kd.R_nil _ _ _ _ _)) (Reps.c5 (show Kd.M k38 w base _ (⟨(⟨#[115, 105, 122, 101]⟩ : ByteArray), ([] : List S57), (⟨#[73, 110, 116]⟩ : ByteArray), false, true⟩ : S38) [.string (⟨#[115, 105, 122, 101]⟩ : ByteArray), .slice none 0 0, .string (⟨#[73, 110, 116]⟩ : ByteArray), .bool false, .bool true] from k38_mkM w base _ (⟨(⟨#[115, 105, 122, 101]⟩ : ByteArray), ([] : List S57), (⟨#[73, 110, 116]⟩ : ByteArray), false, true⟩ : S38) (Kd.R_nil _ _ _ _ _)) (Reps.none _ _)))))
theorem ps_row22 (vs : Nat → Value) (w : World) (base : Nat) (lo hi : Nat → Nat) (ok : Nat → Prop) (h : ∀ i, i < 35 → psPhi i vs w (lo i) (hi i)) (hok : ∀ i, i < 33 → i ∈ [1, 4, 12, 16, 20, 27, 8, 22, 31] → ok (lo i)) (hb : ∀ i, i < 35 → base ≤ lo i) (hne : ∀ i j, i < 35 → j < 35 → i ≠ j → i ∈ [1, 4, 12, 16, 20, 27, 8, 22, 31, 33] → j ∈ [1, 4, 12, 16, 20, 27, 8, 22, 31, 33] → lo i ≠ lo j) : Kd.R k38 38 w base ok (vs 22) [(⟨(⟨#[115, 101, 116]⟩ : ByteArray), [(⟨(⟨#[105, 100]⟩ : ByteArray), true⟩ : S57), (⟨(⟨#[118, 97, 108, 117, 101]⟩ : ByteArray), true⟩ : S57)], (⟨#[78, 111, 100, 101]⟩ : ByteArray), false, false⟩ : S38), (⟨(⟨#[97, 100, 100]⟩ : ByteArray), [(⟨(⟨#[105, 100]⟩ : ByteArray), true⟩ : S57), (⟨(⟨#[98, 121]⟩ : ByteArray), true⟩ : S57)], (⟨#[78, 111, 100, 101]⟩ : ByteArray), false, false⟩ : S38), (⟨(⟨#[108, 105, 110, 107]⟩ : ByteArray), [(⟨(⟨#[105, 100]⟩ : ByteArray), true⟩ : S57), (⟨(⟨#[116, 111]⟩ : ByteArray), false⟩ : S57)], (⟨#[78, 111, 100, 101]⟩ : ByteArray), false, false⟩ : S38)] := by
 obtain ⟨h1, h2, _⟩ := h 22 (by omega)
 have ne12 : some (lo 12) ≠ some (lo 22) := fun e => hne 12 22 (by omega) (by omega) (by decide) (by decide) (by decide) (Option.some.inj e)
 have ne16 : some (lo 16) ≠ some (lo 22) := fun e => hne 16 22 (by omega) (by omega) (by decide) (by decide) (by decide) (Option.some.inj e)
 have ne20 : some (lo 20) ≠ some (lo 22) := fun e => hne 20 22 (by omega) (by omega) (by decide) (by decide) (by decide) (Option.some.inj e)
 rw [h1]
 exact lit_row k38 38 w base (lo 22) 3 ok [(⟨(⟨#[115, 101, 116]⟩ : ByteArray), [(⟨(⟨#[105, 100]⟩ : ByteArray), true⟩ : S57), (⟨(⟨#[118, 97, 108, 117, 101]⟩ : ByteArray), true⟩ : S57)], (⟨#[78, 111, 100, 101]⟩ : ByteArray), false, false⟩ : S38), (⟨(⟨#[97, 100, 100]⟩ : ByteArray), [(⟨(⟨#[105, 100]⟩ : ByteArray), true⟩ : S57), (⟨(⟨#[98, 121]⟩ : ByteArray), true⟩ : S57)], (⟨#[78, 111, 100, 101]⟩ : ByteArray), false, false⟩ : S38), (⟨(⟨#[108, 105, 110, 107]⟩ : ByteArray), [(⟨(⟨#[105, 100]⟩ : ByteArray), true⟩ : S57), (⟨(⟨#[116, 111]⟩ : ByteArray), false⟩ : S57)], (⟨#[78, 111, 100, 101]⟩ : ByteArray), false, false⟩ : S38)] [.string (⟨#[115, 101, 116]⟩ : ByteArray), vs 12, .string (⟨#[78, 111, 100, 101]⟩ : ByteArray), .bool false, .bool false, .string (⟨#[97, 100, 100]⟩ : ByteArray), vs 16, .string (⟨#[78, 111, 100, 101]⟩ : ByteArray), .bool false, .bool false, .string (⟨#[108, 105, 110, 107]⟩ : ByteArray), vs 20, .string (⟨#[78, 111, 100, 101]⟩ : ByteArray), .bool false, .bool false] (hok 22 (by omega) (by decide)) (hb 22 (by omega)) rfl (by decide) h2 (Reps.c5 (show Kd.M k38 w base _ (⟨(⟨#[115, 101, 116]⟩ : ByteArray), [(⟨(⟨#[105, 100]⟩ : ByteArray), true⟩ : S57), (⟨(⟨#[118, 97, 108, 117, 101]⟩ : ByteArray), true⟩ : S57)], (⟨#[78, 111, 100, 101]⟩ : ByteArray), false, false⟩ : S38) [.string (⟨#[115, 101, 116]⟩ : ByteArray), vs 12, .string (⟨#[78, 111, 100, 101]⟩ : ByteArray), .bool false, .bool false] from k38_mkM w base _ (⟨(⟨#[115, 101, 116]⟩ : ByteArray), [(⟨(⟨#[105, 100]⟩ : ByteArray), true⟩ : S57), (⟨(⟨#[118, 97, 108, 117, 101]⟩ : ByteArray), true⟩ : S57)], (⟨#[78, 111, 100, 101]⟩ : ByteArray), false, false⟩ : S38) (ps_row12 vs w base (lo 12) (hi 12) _ (h 12 (by omega)) ⟨hok 12 (by omega) (by decide), ne12⟩ (hb 12 (by omega)))) (Reps.c5 (show Kd.M k38 w base _ (⟨(⟨#[97, 100, 100]⟩ : ByteArray), [(⟨(⟨#[105, 100]⟩ : ByteArray), true⟩ : S57), (⟨(⟨#[98, 121]⟩ : ByteArray), true⟩ : S57)], (⟨#[78, 111, 100, 101]⟩ : ByteArray), false, false⟩ : S38) [.string (⟨#[97, 100, 100]⟩ : ByteArray), vs 16, .string (⟨#[78, 111, 100, 101]⟩ : ByteArray), .bool false, .bool false] from k38_mkM w base _ (⟨(⟨#[97, 100, 100]⟩ : ByteArray), [(⟨(⟨#[105, 100]⟩ : ByteArray), true⟩ : S57), (⟨(⟨#[98, 121]⟩ : ByteArray), true⟩ : S57)], (⟨#[78, 111, 100, 101]⟩ : ByteArray), false, false⟩ : S38) (ps_row16 vs w base (lo 16) (hi 16) _ (h 16 (by omega)) ⟨hok 16 (by omega) (by decide), ne16⟩ (hb 16 (by omega)))) (Reps.c5 (show Kd.M k38 w base _ (⟨(⟨#[108, 105, 110, 107]⟩ : ByteArray), [(⟨(⟨#[105, 100]⟩ : ByteArray), true⟩ : S57), (⟨(⟨#[116, 111]⟩ : ByteArray), false⟩ : S57)], (⟨#[78, 111, 100, 101]⟩ : ByteArray), false, false⟩ : S38) [.string (⟨#[108, 105, 110, 107]⟩ : ByteArray), vs 20, .string (⟨#[78, 111, 100, 101]⟩ : ByteArray), .bool false, .bool false] from k38_mkM w base _ (⟨(⟨#[108, 105, 110, 107]⟩ : ByteArray), [(⟨(⟨#[105, 100]⟩ : ByteArray), true⟩ : S57), (⟨(⟨#[116, 111]⟩ : ByteArray), false⟩ : S57)], (⟨#[78, 111, 100, 101]⟩ : ByteArray), false, false⟩ : S38) (ps_row20 vs w base (lo 20) (hi 20) _ (h 20 (by omega)) ⟨hok 20 (by omega) (by decide), ne20⟩ (hb 20 (by omega)))) (Reps.none _ _))))
theorem ps_row31 (vs : Nat → Value) (w : World) (base : Nat) (lo hi : Nat → Nat) (ok : Nat → Prop) (h : ∀ i, i < 35 → psPhi i vs w (lo i) (hi i)) (hok : ∀ i, i < 33 → i ∈ [1, 4, 12, 16, 20, 27, 8, 22, 31] → ok (lo i)) (hb : ∀ i, i < 35 → base ≤ lo i) (hne : ∀ i j, i < 35 → j < 35 → i ≠ j → i ∈ [1, 4, 12, 16, 20, 27, 8, 22, 31, 33] → j ∈ [1, 4, 12, 16, 20, 27, 8, 22, 31, 33] → lo i ≠ lo j) : Kd.R k38 38 w base ok (vs 31) [(⟨(⟨#[105, 100]⟩ : ByteArray), ([] : List S57), (⟨#[73, 110, 116]⟩ : ByteArray), false, true⟩ : S38), (⟨(⟨#[118, 97, 108, 117, 101]⟩ : ByteArray), ([] : List S57), (⟨#[73, 110, 116]⟩ : ByteArray), false, false⟩ : S38), (⟨(⟨#[112, 108, 117, 115]⟩ : ByteArray), [(⟨(⟨#[98, 121]⟩ : ByteArray), true⟩ : S57)], (⟨#[73, 110, 116]⟩ : ByteArray), false, false⟩ : S38), (⟨(⟨#[110, 101, 120, 116]⟩ : ByteArray), ([] : List S57), (⟨#[78, 111, 100, 101]⟩ : ByteArray), false, false⟩ : S38), (⟨(⟨#[110, 101, 101, 100]⟩ : ByteArray), ([] : List S57), (⟨#[78, 111, 100, 101]⟩ : ByteArray), false, true⟩ : S38)] := by
 obtain ⟨h1, h2, _⟩ := h 31 (by omega)
 have ne27 : some (lo 27) ≠ some (lo 31) := fun e => hne 27 31 (by omega) (by omega) (by decide) (by decide) (by decide) (Option.some.inj e)
 rw [h1]
 exact lit_row k38 38 w base (lo 31) 5 ok [(⟨(⟨#[105, 100]⟩ : ByteArray), ([] : List S57), (⟨#[73, 110, 116]⟩ : ByteArray), false, true⟩ : S38), (⟨(⟨#[118, 97, 108, 117, 101]⟩ : ByteArray), ([] : List S57), (⟨#[73, 110, 116]⟩ : ByteArray), false, false⟩ : S38), (⟨(⟨#[112, 108, 117, 115]⟩ : ByteArray), [(⟨(⟨#[98, 121]⟩ : ByteArray), true⟩ : S57)], (⟨#[73, 110, 116]⟩ : ByteArray), false, false⟩ : S38), (⟨(⟨#[110, 101, 120, 116]⟩ : ByteArray), ([] : List S57), (⟨#[78, 111, 100, 101]⟩ : ByteArray), false, false⟩ : S38), (⟨(⟨#[110, 101, 101, 100]⟩ : ByteArray), ([] : List S57), (⟨#[78, 111, 100, 101]⟩ : ByteArray), false, true⟩ : S38)] [.string (⟨#[105, 100]⟩ : ByteArray), .slice none 0 0, .string (⟨#[73, 110, 116]⟩ : ByteArray), .bool false, .bool true, .string (⟨#[118, 97, 108, 117, 101]⟩ : ByteArray), .slice none 0 0, .string (⟨#[73, 110, 116]⟩ : ByteArray), .bool false, .bool false, .string (⟨#[112, 108, 117, 115]⟩ : ByteArray), vs 27, .string (⟨#[73, 110, 116]⟩ : ByteArray), .bool false, .bool false, .string (⟨#[110, 101, 120, 116]⟩ : ByteArray), .slice none 0 0, .string (⟨#[78, 111, 100, 101]⟩ : ByteArray), .bool false, .bool false, .string (⟨#[110, 101, 101, 100]⟩ : ByteArray), .slice none 0 0, .string (⟨#[78, 111, 100, 101]⟩ : ByteArray), .bool false, .bool true] (hok 31 (by omega) (by decide)) (hb 31 (by omega)) rfl (by decide) h2 (Reps.c5 (show Kd.M k38 w base _ (⟨(⟨#[105, 100]⟩ : ByteArray), ([] : List S57), (⟨#[73, 110, 116]⟩ : ByteArray), false, true⟩ : S38) [.string (⟨#[105, 100]⟩ : ByteArray), .slice none 0 0, .string (⟨#[73, 110, 116]⟩ : ByteArray), .bool false, .bool true] from k38_mkM w base _ (⟨(⟨#[105, 100]⟩ : ByteArray), ([] : List S57), (⟨#[73, 110, 116]⟩ : ByteArray), false, true⟩ : S38) (Kd.R_nil _ _ _ _ _)) (Reps.c5 (show Kd.M k38 w base _ (⟨(⟨#[118, 97, 108, 117, 101]⟩ : ByteArray), ([] : List S57), (⟨#[73, 110, 116]⟩ : ByteArray), false, false⟩ : S38) [.string (⟨#[118, 97, 108, 117, 101]⟩ : ByteArray), .slice none 0 0, .string (⟨#[73, 110, 116]⟩ : ByteArray), .bool false, .bool false] from k38_mkM w base _ (⟨(⟨#[118, 97, 108, 117, 101]⟩ : ByteArray), ([] : List S57), (⟨#[73, 110, 116]⟩ : ByteArray), false, false⟩ : S38) (Kd.R_nil _ _ _ _ _)) (Reps.c5 (show Kd.M k38 w base _ (⟨(⟨#[112, 108, 117, 115]⟩ : ByteArray), [(⟨(⟨#[98, 121]⟩ : ByteArray), true⟩ : S57)], (⟨#[73, 110, 116]⟩ : ByteArray), false, false⟩ : S38) [.string (⟨#[112, 108, 117, 115]⟩ : ByteArray), vs 27, .string (⟨#[73, 110, 116]⟩ : ByteArray), .bool false, .bool false] from k38_mkM w base _ (⟨(⟨#[112, 108, 117, 115]⟩ : ByteArray), [(⟨(⟨#[98, 121]⟩ : ByteArray), true⟩ : S57)], (⟨#[73, 110, 116]⟩ : ByteArray), false, false⟩ : S38) (ps_row27 vs w base (lo 27) (hi 27) _ (h 27 (by omega)) ⟨hok 27 (by omega) (by decide), ne27⟩ (hb 27 (by omega)))) (Reps.c5 (show Kd.M k38 w base _ (⟨(⟨#[110, 101, 120, 116]⟩ : ByteArray), ([] : List S57), (⟨#[78, 111, 100, 101]⟩ : ByteArray), false, false⟩ : S38) [.string (⟨#[110, 101, 120, 116]⟩ : ByteArray), .slice none 0 0, .string (⟨#[78, 111, 100, 101]⟩ : ByteArray), .bool false, .bool false] from k38_mkM w base _ (⟨(⟨#[110, 101, 120, 116]⟩ : ByteArray), ([] : List S57), (⟨#[78, 111, 100, 101]⟩ : ByteArray), false, false⟩ : S38) (Kd.R_nil _ _ _ _ _)) (Reps.c5 (show Kd.M k38 w base _ (⟨(⟨#[110, 101, 101, 100]⟩ : ByteArray), ([] : List S57), (⟨#[78, 111, 100, 101]⟩ : ByteArray), false, true⟩ : S38) [.string (⟨#[110, 101, 101, 100]⟩ : ByteArray), .slice none 0 0, .string (⟨#[78, 111, 100, 101]⟩ : ByteArray), .bool false, .bool true] from k38_mkM w base _ (⟨(⟨#[110, 101, 101, 100]⟩ : ByteArray), ([] : List S57), (⟨#[78, 111, 100, 101]⟩ : ByteArray), false, true⟩ : S38) (Kd.R_nil _ _ _ _ _)) (Reps.none _ _))))))
theorem ps_top (vs : Nat → Value) (w : World) (base : Nat) (lo hi : Nat → Nat) (h : ∀ i, i < 35 → psPhi i vs w (lo i) (hi i)) (hb : ∀ i, i < 35 → base ≤ lo i) (hne : ∀ i j, i < 35 → j < 35 → i ≠ j → i ∈ [1, 4, 12, 16, 20, 27, 8, 22, 31, 33] → j ∈ [1, 4, 12, 16, 20, 27, 8, 22, 31, 33] → lo i ≠ lo j) : Kd.R k53 53 w base (fun _ => True) (vs 33) psL := by
 obtain ⟨h1, h2, _⟩ := h 33 (by omega)
 rw [h1]
 exact lit_row k53 53 w base (lo 33) 3 (fun _ => True) psL [.string (⟨#[81, 117, 101, 114, 121]⟩ : ByteArray), vs 8, .string (⟨#[77, 117, 116, 97, 116, 105, 111, 110]⟩ : ByteArray), vs 22, .string (⟨#[78, 111, 100, 101]⟩ : ByteArray), vs 31] trivial (hb 33 (by omega)) rfl (by decide) h2 (Reps.c2 (show Kd.M k53 w base _ (⟨(⟨#[81, 117, 101, 114, 121]⟩ : ByteArray), [(⟨(⟨#[110, 111, 100, 101]⟩ : ByteArray), [(⟨(⟨#[105, 100]⟩ : ByteArray), true⟩ : S57)], (⟨#[78, 111, 100, 101]⟩ : ByteArray), false, false⟩ : S38), (⟨(⟨#[109, 117, 115, 116]⟩ : ByteArray), [(⟨(⟨#[105, 100]⟩ : ByteArray), true⟩ : S57)], (⟨#[78, 111, 100, 101]⟩ : ByteArray), false, true⟩ : S38), (⟨(⟨#[110, 111, 100, 101, 115]⟩ : ByteArray), ([] : List S57), (⟨#[78, 111, 100, 101]⟩ : ByteArray), true, false⟩ : S38), (⟨(⟨#[115, 105, 122, 101]⟩ : ByteArray), ([] : List S57), (⟨#[73, 110, 116]⟩ : ByteArray), false, true⟩ : S38)]⟩ : S53) [.string (⟨#[81, 117, 101, 114, 121]⟩ : ByteArray), vs 8] from k53_mkM w base _ (⟨(⟨#[81, 117, 101, 114, 121]⟩ : ByteArray), [(⟨(⟨#[110, 111, 100, 101]⟩ : ByteArray), [(⟨(⟨#[105, 100]⟩ : ByteArray), true⟩ : S57)], (⟨#[78, 111, 100, 101]⟩ : ByteArray), false, false⟩ : S38), (⟨(⟨#[109, 117, 115, 116]⟩ : ByteArray), [(⟨(⟨#[105, 100]⟩ : ByteArray), true⟩ : S57)], (⟨#[78, 111, 100, 101]⟩ : ByteArray), false, true⟩ : S38), (⟨(⟨#[110, 111, 100, 101, 115]⟩ : ByteArray), ([] : List S57), (⟨#[78, 111, 100, 101]⟩ : ByteArray), true, false⟩ : S38), (⟨(⟨#[115, 105, 122, 101]⟩ : ByteArray), ([] : List S57), (⟨#[73, 110, 116]⟩ : ByteArray), false, true⟩ : S38)]⟩ : S53) (ps_row8 vs w base lo hi _ h (fun i h1 h2 => ⟨trivial, fun e => hne i 33 (by omega) (by omega) (by omega) (by revert h2; simp only [List.mem_cons, List.not_mem_nil, or_false]; omega) (by decide) (Option.some.inj e)⟩) hb hne)) (Reps.c2 (show Kd.M k53 w base _ (⟨(⟨#[77, 117, 116, 97, 116, 105, 111, 110]⟩ : ByteArray), [(⟨(⟨#[115, 101, 116]⟩ : ByteArray), [(⟨(⟨#[105, 100]⟩ : ByteArray), true⟩ : S57), (⟨(⟨#[118, 97, 108, 117, 101]⟩ : ByteArray), true⟩ : S57)], (⟨#[78, 111, 100, 101]⟩ : ByteArray), false, false⟩ : S38), (⟨(⟨#[97, 100, 100]⟩ : ByteArray), [(⟨(⟨#[105, 100]⟩ : ByteArray), true⟩ : S57), (⟨(⟨#[98, 121]⟩ : ByteArray), true⟩ : S57)], (⟨#[78, 111, 100, 101]⟩ : ByteArray), false, false⟩ : S38), (⟨(⟨#[108, 105, 110, 107]⟩ : ByteArray), [(⟨(⟨#[105, 100]⟩ : ByteArray), true⟩ : S57), (⟨(⟨#[116, 111]⟩ : ByteArray), false⟩ : S57)], (⟨#[78, 111, 100, 101]⟩ : ByteArray), false, false⟩ : S38)]⟩ : S53) [.string (⟨#[77, 117, 116, 97, 116, 105, 111, 110]⟩ : ByteArray), vs 22] from k53_mkM w base _ (⟨(⟨#[77, 117, 116, 97, 116, 105, 111, 110]⟩ : ByteArray), [(⟨(⟨#[115, 101, 116]⟩ : ByteArray), [(⟨(⟨#[105, 100]⟩ : ByteArray), true⟩ : S57), (⟨(⟨#[118, 97, 108, 117, 101]⟩ : ByteArray), true⟩ : S57)], (⟨#[78, 111, 100, 101]⟩ : ByteArray), false, false⟩ : S38), (⟨(⟨#[97, 100, 100]⟩ : ByteArray), [(⟨(⟨#[105, 100]⟩ : ByteArray), true⟩ : S57), (⟨(⟨#[98, 121]⟩ : ByteArray), true⟩ : S57)], (⟨#[78, 111, 100, 101]⟩ : ByteArray), false, false⟩ : S38), (⟨(⟨#[108, 105, 110, 107]⟩ : ByteArray), [(⟨(⟨#[105, 100]⟩ : ByteArray), true⟩ : S57), (⟨(⟨#[116, 111]⟩ : ByteArray), false⟩ : S57)], (⟨#[78, 111, 100, 101]⟩ : ByteArray), false, false⟩ : S38)]⟩ : S53) (ps_row22 vs w base lo hi _ h (fun i h1 h2 => ⟨trivial, fun e => hne i 33 (by omega) (by omega) (by omega) (by revert h2; simp only [List.mem_cons, List.not_mem_nil, or_false]; omega) (by decide) (Option.some.inj e)⟩) hb hne)) (Reps.c2 (show Kd.M k53 w base _ (⟨(⟨#[78, 111, 100, 101]⟩ : ByteArray), [(⟨(⟨#[105, 100]⟩ : ByteArray), ([] : List S57), (⟨#[73, 110, 116]⟩ : ByteArray), false, true⟩ : S38), (⟨(⟨#[118, 97, 108, 117, 101]⟩ : ByteArray), ([] : List S57), (⟨#[73, 110, 116]⟩ : ByteArray), false, false⟩ : S38), (⟨(⟨#[112, 108, 117, 115]⟩ : ByteArray), [(⟨(⟨#[98, 121]⟩ : ByteArray), true⟩ : S57)], (⟨#[73, 110, 116]⟩ : ByteArray), false, false⟩ : S38), (⟨(⟨#[110, 101, 120, 116]⟩ : ByteArray), ([] : List S57), (⟨#[78, 111, 100, 101]⟩ : ByteArray), false, false⟩ : S38), (⟨(⟨#[110, 101, 101, 100]⟩ : ByteArray), ([] : List S57), (⟨#[78, 111, 100, 101]⟩ : ByteArray), false, true⟩ : S38)]⟩ : S53) [.string (⟨#[78, 111, 100, 101]⟩ : ByteArray), vs 31] from k53_mkM w base _ (⟨(⟨#[78, 111, 100, 101]⟩ : ByteArray), [(⟨(⟨#[105, 100]⟩ : ByteArray), ([] : List S57), (⟨#[73, 110, 116]⟩ : ByteArray), false, true⟩ : S38), (⟨(⟨#[118, 97, 108, 117, 101]⟩ : ByteArray), ([] : List S57), (⟨#[73, 110, 116]⟩ : ByteArray), false, false⟩ : S38), (⟨(⟨#[112, 108, 117, 115]⟩ : ByteArray), [(⟨(⟨#[98, 121]⟩ : ByteArray), true⟩ : S57)], (⟨#[73, 110, 116]⟩ : ByteArray), false, false⟩ : S38), (⟨(⟨#[110, 101, 120, 116]⟩ : ByteArray), ([] : List S57), (⟨#[78, 111, 100, 101]⟩ : ByteArray), false, false⟩ : S38), (⟨(⟨#[110, 101, 101, 100]⟩ : ByteArray), ([] : List S57), (⟨#[78, 111, 100, 101]⟩ : ByteArray), false, true⟩ : S38)]⟩ : S53) (ps_row31 vs w base lo hi _ h (fun i h1 h2 => ⟨trivial, fun e => hne i 33 (by omega) (by omega) (by omega) (by revert h2; simp only [List.mem_cons, List.not_mem_nil, or_false]; omega) (by decide) (Option.some.inj e)⟩) hb hne)) (Reps.none _ _))))
theorem ps_lt : ∀ (i : Nat) (vs : Nat → Value) (w : World) (lo hi : Nat), i ∈ [1, 4, 12, 16, 20, 27, 8, 22, 31, 33] → psPhi i vs w lo hi → lo < hi
 | 0, vs, w, lo, hi, hm, hp => absurd hm (by decide)
 | 1, vs, w, lo, hi, hm, hp => hp.2.2
 | 2, vs, w, lo, hi, hm, hp => absurd hm (by decide)
 | 3, vs, w, lo, hi, hm, hp => absurd hm (by decide)
 | 4, vs, w, lo, hi, hm, hp => hp.2.2
 | 5, vs, w, lo, hi, hm, hp => absurd hm (by decide)
 | 6, vs, w, lo, hi, hm, hp => absurd hm (by decide)
 | 7, vs, w, lo, hi, hm, hp => absurd hm (by decide)
 | 8, vs, w, lo, hi, hm, hp => hp.2.2
 | 9, vs, w, lo, hi, hm, hp => absurd hm (by decide)
 | 10, vs, w, lo, hi, hm, hp => absurd hm (by decide)
 | 11, vs, w, lo, hi, hm, hp => absurd hm (by decide)
 | 12, vs, w, lo, hi, hm, hp => hp.2.2
 | 13, vs, w, lo, hi, hm, hp => absurd hm (by decide)
 | 14, vs, w, lo, hi, hm, hp => absurd hm (by decide)
 | 15, vs, w, lo, hi, hm, hp => absurd hm (by decide)
 | 16, vs, w, lo, hi, hm, hp => hp.2.2
 | 17, vs, w, lo, hi, hm, hp => absurd hm (by decide)
 | 18, vs, w, lo, hi, hm, hp => absurd hm (by decide)
 | 19, vs, w, lo, hi, hm, hp => absurd hm (by decide)
 | 20, vs, w, lo, hi, hm, hp => hp.2.2
 | 21, vs, w, lo, hi, hm, hp => absurd hm (by decide)
 | 22, vs, w, lo, hi, hm, hp => hp.2.2
 | 23, vs, w, lo, hi, hm, hp => absurd hm (by decide)
 | 24, vs, w, lo, hi, hm, hp => absurd hm (by decide)
 | 25, vs, w, lo, hi, hm, hp => absurd hm (by decide)
 | 26, vs, w, lo, hi, hm, hp => absurd hm (by decide)
 | 27, vs, w, lo, hi, hm, hp => hp.2.2
 | 28, vs, w, lo, hi, hm, hp => absurd hm (by decide)
 | 29, vs, w, lo, hi, hm, hp => absurd hm (by decide)
 | 30, vs, w, lo, hi, hm, hp => absurd hm (by decide)
 | 31, vs, w, lo, hi, hm, hp => hp.2.2
 | 32, vs, w, lo, hi, hm, hp => absurd hm (by decide)
 | 33, vs, w, lo, hi, hm, hp => hp.2.2
 | 34, vs, w, lo, hi, hm, hp => absurd hm (by decide)
 | n + 35, _, _, _, _, hm, _ => absurd hm (by simp only [List.mem_cons, List.not_mem_nil, or_false]; omega)
/-- impl.PlainSchema's answer, by its blocks and as a row of its own. -/
theorem ps_whole (w : World) : Calls Try.prog 24 #[] w fun e w' => ∃ (vs : Nat → Value) (lo hi : Nat → Nat), e = .returned (.agg #[vs 33]) ∧ Kd.R k53 53 w' w.heap.size (fun _ => True) (vs 33) psL ∧ (∀ i, i < 35 → psPhi i vs w' (lo i) (hi i) ∧ w.heap.size ≤ lo i) ∧ (∀ i j, i < 35 → j < 35 → i ≠ j → i ∈ [1, 4, 12, 16, 20, 27, 8, 22, 31, 33] → j ∈ [1, 4, 12, 16, 20, 27, 8, 22, 31, 33] → lo i ≠ lo j) ∧ Below w.heap.size w w' := by
 refine (ps_calls w).mono ?_
 rintro e w' ⟨vs, lo, hi, he, hp, hd, hb⟩
 have hne : ∀ i j, i < 35 → j < 35 → i ≠ j → i ∈ [1, 4, 12, 16, 20, 27, 8, 22, 31, 33] → j ∈ [1, 4, 12, 16, 20, 27, 8, 22, 31, 33] → lo i ≠ lo j := fun i j h1 h2 h3 h4 h5 h6 => by
  have p1 := ps_lt i vs w' _ _ h4 (hp i h1).1
  have p2 := ps_lt j vs w' _ _ h5 (hp j h2).1
  rcases hd i j h1 h2 h3 with h | h <;> omega
 exact ⟨vs, lo, hi, he, ps_top vs w' w.heap.size lo hi (fun i h => (hp i h).1) (fun i h => (hp i h).2.1) hne, fun i h => ⟨(hp i h).1, (hp i h).2.1⟩, hne, hb⟩
end Go.Proofs.Ytoogmlghfljeiaa.Q
namespace Go.Proofs.Ytoogmlghfljeiaa.Q
open Go.RowKit Go.Proofs.YtoogmlghfljeiaaW.PrintWords
theorem qzA {α : Type} (l : List α) (i : Nat) (a : α) : l.toArray.setIfInBounds i a = (l.set i a).toArray := List.setIfInBounds_toArray l i a
theorem qzB {α : Type} {a b : α} {t : List α} : (a :: t).set 0 b = b :: t := rfl
theorem qzC {α : Type} {a b : α} {t : List α} {n : Nat} : (a :: t).set (n + 1) b = a :: t.set n b := rfl
theorem qbN {B : Nat} {w W : World} (h : Below B w W) (n : Nat) : Below B w (W.drewN n) := pw_below_drewN h n
theorem qbA {w W : World} (h : Below w.heap.size w W) (o : Obj) : Below w.heap.size w (W.alloc o) := below_alloc h o
theorem qbD {base : Nat} {w W : World} (h : Below base w W) : Below base w W.drew := below_drew1 h
theorem qbS {w W : World} {g j : Nat} {v : Value} (h : Below w.heap.size w W) (hg : w.heap.size ≤ g) : Below w.heap.size w (W.setCell ⟨g, j, none⟩ v) := below_set h hg
theorem qO {p : Prop} (h : p) : Aside0 p := ⟨h⟩
theorem qT {p : Prop} [Decidable p] (h : decide p = true) : p := of_decide_eq_true h
theorem qL (w : World) (a : Addr) {v : Value} (h : w.cell? a = some v) : a.block < w.heap.size := World.block_lt_of_cell? w a h
theorem qkN {w : World} {g : Nat} {o : Obj} (h : w.heap[g]? = some o) (n : Nat) : (w.drewN n).heap[g]? = some o := h
theorem qkD {w : World} {g : Nat} {o : Obj} (h : w.heap[g]? = some o) : w.drew.heap[g]? = some o := h
theorem qkA {w : World} {g : Nat} {o : Obj} (h : w.heap[g]? = some o) (o' : Obj) : (w.alloc o').heap[g]? = some o := blk_alloc h o'
theorem qB {Wf W wn : World} {g : Nat} {o : Obj} (h : Wf.heap[g]? = some o) (hx : Below Wf.heap.size Wf W) (hb : Below W.heap.size W wn) : wn.heap[g]? = some o := blk_below (blk_below h hx) hb
theorem qHX {B : Nat} {v Wf W wn : World} (_h : Aside0 (Below B v Wf)) (_hb : Below W.heap.size W wn) (hx : Below Wf.heap.size Wf W) : Below Wf.heap.size Wf W := hx
theorem qa0 {P : Prop} (h : P := by with_reducible repeat (first | refine qbN ?_ _ | refine qbD ?_ | refine qbA ?_ _ | exact Below.refl _ _)) : P := h
theorem qa1 {P : Prop} (h : P := by repeat (first | (with_reducible first | exact HB.out | apply qbA | apply qbN | apply qbD | refine qbS ?_ GE101.out | refine qbS ?_ GE102.out) | exact HB.out)) : P := h
theorem qa2 {P : Prop} (h : P := by (try simp only [List.map_toArray, List.map_cons, List.map_nil]); first | done | rfl | (simp only [List.length_drop, List.length_take]; rfl)) : P := h
theorem qa3 {P : Prop} (h : P := by first | (with_reducible assumption) | assumption) : P := h
theorem qa4 {P : Prop} (h : P := by repeat (first | (with_reducible first | exact HB.out | apply qbA | apply qbN | apply qbD) | exact HB.out)) : P := h
theorem qa5 {P : Prop} (h : P := by simp only [Act.put, qzA, qzB, qzC, i64_w, i32_w]; rfl) : P := h
theorem qa6 {P : Prop} (h : P := by first | rfl | (simp [errW_none, errW_some] <;> rfl) | (simp [*, errW_none, errW_some] <;> rfl)) : P := h
theorem qa7 {P : Prop} (h : P := by intro w'; go_simp; with_reducible rfl) : P := h
theorem qa8 {P : Prop} (h : P := by first | rfl | (simp; done) | (simp [*]; done)) : P := h
theorem qa9 {P : Prop} (h : P := by kernel_rfl) : P := h
theorem qa10 {P : Prop} (h : P := by (with_reducible repeat (first | refine qkN ?_ _ | refine qkD ?_ | refine qkA ?_ _)); exact BK102.out) : P := h
theorem qa11 {P : Prop} (h : P := by rw [hg]; exact (below_size (below_step HB.out hx_))) : P := h
theorem qa12 {P : Prop} (h : P := by first | (go_simp; done) | (go_simp; rfl)) : P := h
theorem qa13 {P : Prop} (h : P := by repeat (first | exact Drawn0.refl _ | apply Drawn0.step)) : P := h
theorem qa14 {P : Prop} (h : P := by show Act.put _ (some _) _ = _; simp only [Act.put, qzA, qzB, qzC, i64_w, i32_w]; rfl) : P := h
theorem qa15 {P : Prop} (h : P := by (with_reducible repeat (first | refine qkN ?_ _ | refine qkD ?_ | refine qkA ?_ _)); exact BK101.out) : P := h
theorem qa16 {P : Prop} (h : P := by repeat (first | (with_reducible first | exact HB.out | apply qbA | apply qbN | apply qbD | refine qbS ?_ GE101.out) | exact HB.out)) : P := h
theorem qa17 {P : Prop} (h : P := by repeat (first | exact (Kd.C_below HR0_1.out HB.out) | with_reducible first | refine Kd.C_alloc ?_ _ | refine Kd.C_drewN ?_ _ | refine Kd.C_drew ?_)) : P := h
theorem qa18 {P : Prop} (h : P := by rw [hg]; exact Nat.ne_of_lt (blk_lt (g := gb101) (o := .cells #[.string a0_0, .slice A0_1 l0_1.length c0_1, .string a0_2, .bool a0_3, .bool a0_4] 38 (0, 0)) (by (with_reducible repeat (first | refine qkN ?_ _ | refine qkD ?_ | refine qkA ?_ _)); exact BK101.out))) : P := h
theorem qa19 {P : Prop} (h : P := by repeat (first | (with_reducible first | exact HB.out | apply qbA | apply qbN | apply qbD | refine qbS ?_ GE101.out | refine qbS ?_ GE102.out | refine qbS ?_ GE103.out) | exact HB.out)) : P := h
theorem qa20 {P : Prop} (h : P := by (with_reducible repeat (first | apply Kd.N_alloc | apply Kd.N_drewN | apply Kd.N_drew)); exact HO117.out) : P := h
theorem qa21 {P : Prop} (h : P := by repeat (first | exact (Kd.C_below HR101_1.out HB.out) | with_reducible first | refine Kd.C_alloc ?_ _ | refine Kd.C_drewN ?_ _ | refine Kd.C_drew ?_)) : P := h
theorem qa22 {P : Prop} (h : P := by omega) : P := h
theorem qa23 {P : Prop} (h : P := by repeat (first | exact (Kd.C_below HR103_1.out HB.out) | with_reducible first | refine Kd.C_alloc ?_ _ | refine Kd.C_drewN ?_ _ | refine Kd.C_drew ?_)) : P := h
theorem qa24 {P : Prop} (h : P := by repeat (first | exact (Kd.C_below HR1_1.out HB.out) | with_reducible first | refine Kd.C_alloc ?_ _ | refine Kd.C_drewN ?_ _ | refine Kd.C_drew ?_)) : P := h
theorem qa25 {P : Prop} (h : P := by repeat (first | exact (Kd.C_below HR0_0.out HB.out) | with_reducible first | refine Kd.C_alloc ?_ _ | refine Kd.C_drewN ?_ _ | refine Kd.C_drew ?_)) : P := h
theorem qa26 {P : Prop} (h : P := by have e_ := hx107_1.symm.trans hw101_1; injection e_ with e_; injection e_ with e1 _ e2; exact ⟨e1, e2⟩) : P := h
theorem qa27 {P : Prop} (h : P := by (with_reducible repeat (first | refine qkN ?_ _ | refine qkD ?_ | refine qkA ?_ _)); refine blk_put (cs := #[.string (⟨#[105, 100]⟩ : ByteArray), .bool false]) ?_ 1 _ rfl; (with_reducible repeat (first | refine qkN ?_ _ | refine qkD ?_ | refine qkA ?_ _)); refine blk_put (cs := #[.string (⟨#[]⟩ : ByteArray), .bool false]) ?_ 0 _ rfl; (with_reducible repeat (first | refine qkN ?_ _ | refine qkD ?_ | refine qkA ?_ _)); exact BK102.out) : P := h
theorem qa28 {P : Prop} (h : P := by (with_reducible repeat (first | apply Kd.R_alloc | apply Kd.R_drewN | apply Kd.R_drew)); exact HO132.out) : P := h
theorem qa29 {P : Prop} (h : P := by have e_ := hx105_1.symm.trans hw101_1; injection e_ with e_; injection e_ with e1 _ e2; exact ⟨e1, e2⟩) : P := h
theorem qa30 {P : Prop} (h : P := by have e_ := hx108_1.symm.trans hw101_1; injection e_ with e_; injection e_ with e1 _ e2; exact ⟨e1, e2⟩) : P := h
theorem qa31 {P : Prop} (h : P := by repeat (first | (with_reducible first | exact HK.out | apply Kept.alloc | apply Kept.drewN | apply Kept.drew) | exact HK.out)) : P := h
theorem qa32 {P : Prop} (h : P := by (with_reducible repeat (first | apply Kd.N_alloc | apply Kd.N_drewN | apply Kd.N_drew)); exact HO129.out) : P := h
theorem qa33 {P : Prop} (h : P := by have e_ := hx103_1.symm.trans hw101_1; injection e_ with e_; injection e_ with e1 _ e2; exact ⟨e1, e2⟩) : P := h
theorem qa34 {P : Prop} (h : P := by (with_reducible repeat (first | apply Kd.R_alloc | apply Kd.R_drewN | apply Kd.R_drew)); exact HO_3.out) : P := h
theorem qa35 {P : Prop} (h : P := by rw [hg]; exact Nat.ne_of_lt (blk_lt (g := gb101) (o := .cells #[.string a0_0, .slice A0_1 l0_1.length c0_1] 53 (0, 0)) (by (with_reducible repeat (first | refine qkN ?_ _ | refine qkD ?_ | refine qkA ?_ _)); exact BK101.out))) : P := h
theorem qa36 {P : Prop} (h : P := by (with_reducible repeat (first | apply Kd.R_alloc | apply Kd.R_drewN | apply Kd.R_drew)); exact HO105.out) : P := h
theorem qa37 {P : Prop} (h : P := by (with_reducible repeat (first | apply Kd.R_alloc | apply Kd.R_drewN | apply Kd.R_drew)); exact HO135.out) : P := h
theorem qa38 {P : Prop} (h : P := by rw [hg]; exact Nat.ne_of_lt (blk_lt (g := gb101) (o := .cells #[.string a0_0, .bool a0_1] 57 (0, 0)) (by (with_reducible repeat (first | refine qkN ?_ _ | refine qkD ?_ | refine qkA ?_ _)); exact BK101.out))) : P := h
theorem qa39 {P : Prop} (h : P := by repeat (first | exact (Kd.C_below HR102_1.out HB.out) | with_reducible first | refine Kd.C_alloc ?_ _ | refine Kd.C_drewN ?_ _ | refine Kd.C_drew ?_)) : P := h
theorem qa40 {P : Prop} (h : P := by rw [hg]; exact Nat.ne_of_lt (blk_lt (g := gb101) (o := .cells #[.string a0_0, .slice A0_1 l0_1.length c0_1, .string a0_2, .bool a0_3, .bool a0_4] 101 (0, 0)) (by (with_reducible repeat (first | refine qkN ?_ _ | refine qkD ?_ | refine qkA ?_ _)); exact BK101.out))) : P := h
theorem qa41 {P : Prop} (h : P := by (with_reducible repeat (first | apply Kd.R_alloc | apply Kd.R_drewN | apply Kd.R_drew)); exact HO_0.out) : P := h
theorem qa42 {P : Prop} (h : P := by rintro w' ⟨s0, s1, s2, s3, s4⟩; go_simp; with_reducible rfl) : P := h
theorem qa43 {P : Prop} (h : P := by rw [hg]; exact Nat.ne_of_lt (blk_lt (g := gb101) (o := .cells #[.string a0_0, .slice A0_1 l0_1.length c0_1] 77 (0, 0)) (by (with_reducible repeat (first | refine qkN ?_ _ | refine qkD ?_ | refine qkA ?_ _)); exact BK101.out))) : P := h
theorem qa44 {P : Prop} (h : P := by (with_reducible repeat (first | refine qkN ?_ _ | refine qkD ?_ | refine qkA ?_ _)); refine blk_far ?_ NB101_103.out _; (with_reducible repeat (first | refine qkN ?_ _ | refine qkD ?_ | refine qkA ?_ _)); exact BK101.out) : P := h
theorem qa45 {P : Prop} (h : P := by (with_reducible repeat (first | refine qkN ?_ _ | refine qkD ?_ | refine qkA ?_ _)); refine blk_far ?_ NB102_103.out _; (with_reducible repeat (first | refine qkN ?_ _ | refine qkD ?_ | refine qkA ?_ _)); exact BK102.out) : P := h
theorem qa46 {P : Prop} (h : P := by rw [hg]; exact Nat.ne_of_lt (blk_lt (g := gb101) (o := .cells #[.slice A0_0 l0_0.length c0_0] 29 (0, 0)) (by (with_reducible repeat (first | refine qkN ?_ _ | refine qkD ?_ | refine qkA ?_ _)); exact BK101.out))) : P := h
theorem qa47 {P : Prop} (h : P := by rw [hg]; exact Nat.ne_of_lt (blk_lt (g := gb101) (o := .cells #[.slice A0_0 l0_0.length c0_0] 24 (0, 0)) (by (with_reducible repeat (first | refine qkN ?_ _ | refine qkD ?_ | refine qkA ?_ _)); exact BK101.out))) : P := h
theorem qa48 {P : Prop} (h : P := by (with_reducible repeat (first | apply Kd.R_alloc | apply Kd.R_drewN | apply Kd.R_drew)); exact HO108.out) : P := h
theorem qa49 {P : Prop} (h : P := by (with_reducible repeat (first | apply Kd.R_alloc | apply Kd.R_drewN | apply Kd.R_drew)); exact HO120.out) : P := h
theorem qa50 {P : Prop} (h : P := by (with_reducible repeat (first | apply Kd.R_alloc | apply Kd.R_drewN | apply Kd.R_drew)); exact HO138.out) : P := h
theorem qa51 {P : Prop} (h : P := by rw [hg]; exact Nat.ne_of_lt (blk_lt (g := gb101) (o := .cells #[.string a0_0, .bool a0_1] 106 (0, 0)) (by (with_reducible repeat (first | refine qkN ?_ _ | refine qkD ?_ | refine qkA ?_ _)); exact BK101.out))) : P := h
theorem qa52 {P : Prop} (h : P := by exact Kd.C_below HR0_1.out (by repeat (first | (with_reducible first | exact HB.out | apply qbA | apply qbN | apply qbD | refine qbS ?_ GE101.out | refine qbS ?_ GE102.out | refine qbS ?_ GE103.out) | exact HB.out))) : P := h
theorem qa53 {P : Prop} (h : P := by exact (Reps.c2 (show Kd.M k57 _ _ _ (⟨(⟨#[105, 100]⟩ : ByteArray), true⟩ : S57) [.string (⟨#[105, 100]⟩ : ByteArray), .bool true] from (k57_mkM _ _ _ (⟨(⟨#[105, 100]⟩ : ByteArray), true⟩ : S57) )) (Reps.none _ _))) : P := h
theorem qa54 {P : Prop} (h : P := by rintro w' ⟨s0, s1, s2, s3⟩; go_simp; with_reducible rfl) : P := h
theorem qa55 {P : Prop} (h : P := by have := HK1.out; omega) : P := h
theorem qa56 {P : Prop} (h : P := by (with_reducible repeat (first | apply Kd.S_alloc | apply Kd.S_drewN | apply Kd.S_drew)); exact HO_3.out) : P := h
theorem qa57 {P : Prop} (h : P := by rintro w' ⟨s0, s1, s2, s3, s4, s5, s6, s7, s8, s9⟩; go_simp; with_reducible rfl) : P := h
theorem qa58 {P : Prop} (h : P := by repeat (first | exact (Kd.C_below HR104_1.out HB.out) | with_reducible first | refine Kd.C_alloc ?_ _ | refine Kd.C_drewN ?_ _ | refine Kd.C_drew ?_)) : P := h
theorem qa59 {P : Prop} (h : P := by repeat (first | exact (Kd.C_below HR1_0.out HB.out) | with_reducible first | refine Kd.C_alloc ?_ _ | refine Kd.C_drewN ?_ _ | refine Kd.C_drew ?_)) : P := h
theorem qa60 {P : Prop} (h : P := by rintro w' ⟨s0, s1⟩; go_simp; with_reducible rfl) : P := h
theorem qa61 {P : Prop} (h : P := by simp) : P := h
theorem qa62 {P : Prop} (h : P := by (with_reducible repeat (first | apply Kd.R_alloc | apply Kd.R_drewN | apply Kd.R_drew)); exact HO111.out) : P := h
theorem qa63 {P : Prop} (h : P := by (with_reducible repeat (first | apply Kd.R_alloc | apply Kd.R_drewN | apply Kd.R_drew)); exact HO123.out) : P := h
theorem qa64 {P : Prop} (h : P := by (with_reducible repeat (first | apply Kd.R_alloc | apply Kd.R_drewN | apply Kd.R_drew)); exact HO141.out) : P := h
theorem qa65 {P : Prop} (h : P := by (with_reducible repeat (first | apply Kd.R_alloc | apply Kd.R_drewN | apply Kd.R_drew)); exact HO103.out) : P := h
theorem qa66 {P : Prop} (h : P := by decide) : P := h
theorem qa67 {P : Prop} (h : P := by injection e103) : P := h
theorem qa68 {P : Prop} (h : P := by first | omega | exact Nat.le_refl _) : P := h
theorem qa69 {P : Prop} (h : P := by rw [hw]; exact HP12.2) : P := h
end Go.Proofs.Ytoogmlghfljeiaa.Q
namespace Go.Proofs.Ytoogmlghfljeiaa.Q
open Go.RowKit Go.Proofs.YtoogmlghfljeiaaW.PrintWords Go.Proofs.YtoogmlghfljeiaaW.PrintLast Go.Proofs.YtoogmlghfljeiaaW.PrintMore
attribute [local go_sem] max2_int min2_int max_two min_two max_three min_three max_four min_four
set_option linter.unusedVariables false
set_option linter.unusedSimpArgs false

def laws_markText.l0 : Nat → Int → ByteArray → Option (ByteArray)
 | 0, _, _ => none
 | k + 1, x0, x3 => if x0 > 0 then ((some (([(wrap64 (48 + (Int.tmod x0 10))) % 256] : List Int) : List Int)).bind fun y101 => (if (strOfNums y101).size + x3.size ≤ 9223372036854775807 then (laws_markText.l0 k (wrap64 (Int.tdiv x0 10)) ((strOfNums y101) ++ x3)) else (none))) else (if 1 + x3.size ≤ 9223372036854775807 then (some ((⟨#[109]⟩ : ByteArray) ++ x3)) else (none))
def laws_markText.f (k : Nat) (a0 : Int) : Option (ByteArray) := if a0 ≤ 0 then (some (⟨#[109, 48]⟩ : ByteArray)) else (laws_markText.l0 k a0 (⟨#[]⟩ : ByteArray))
set_option maxHeartbeats 8000000 in
set_option maxRecDepth 100000 in
theorem laws_markText.calls (k : Nat) (a0 : Int) (r : ByteArray) (w : World) (h : laws_markText.f k a0 = some r) :
  Calls Try.prog 68 #[.int .i64 a0] w fun e w' => e = .returned (.string r) ∧ Below w.heap.size w w' := by
 have HB := qO (Below.refl w.heap.size w); have H : (if a0 ≤ 0 then (some (⟨#[109, 48]⟩ : ByteArray)) else (laws_markText.l0 k a0 (⟨#[]⟩ : ByteArray))) = some r := h; clear h
 by_cases c2 : a0 ≤ 0
 ·rw [if_pos c2] at H
  have c2b0 : decide (a0 ≤ 0) = true := decide_eq_true c2; clear c2; obtain rfl := Option.some.inj H
  go_enter Try.func68, Try.ntmps68
  go_wp2
  go_ret
  exact ⟨qa6, qa4⟩
 ·rw [if_neg c2] at H
  have c2b0 : decide (a0 ≤ 0) = false := decide_eq_false c2; clear c2; have H' := qO H; clear H
  go_enter Try.func68, Try.ntmps68
  go_wp2
  go_loopg [0, 3] k (fun kq v0 v3 w' => ∃ (x0_1 : Int) (x3_1 : ByteArray), v0 = .int .i64 x0_1 ∧ v3 = .string x3_1 ∧ Aside0 (laws_markText.l0 kq x0_1 x3_1 = some r) ∧ Aside0 (kq ≤ k) ∧ Aside0 (Below w.heap.size w w'))
  case atStart => exact ⟨(a0), ((⟨#[]⟩ : ByteArray)), qa8, qa8, H', ⟨Nat.le_refl _⟩, ⟨qa4⟩⟩
  case round =>
   clear H'
   try clear c2
   try clear c2b0
   try clear p2
   obtain ⟨x0_1, x3_1, rfl, rfl, HA, HK1, HB⟩ := hrel
   cases gk with
   | zero => exact absurd HA.out (by simp [laws_markText.l0])
   | succ k1 =>
    have H := HA.out; clear HA; simp only [laws_markText.l0] at H
    by_cases c3 : x0_1 > 0
    ·rw [if_pos c3] at H
     have c3b0 : decide (0 < x0_1) = true := decide_eq_true c3; clear c3; obtain ⟨y101, hy101⟩ : ∃ y_ : List Int, y_ = (([(wrap64 (48 + (Int.tmod x0_1 10))) % 256] : List Int)) := ⟨_, rfl⟩; replace H : (if (strOfNums y101).size + x3_1.size ≤ 9223372036854775807 then (laws_markText.l0 k1 (wrap64 (Int.tdiv x0_1 10)) ((strOfNums y101) ++ x3_1)) else (none)) = some r := by first | (rw [hy101]; with_reducible exact H) | (have H2_ := (Option.bind_some _ _).symm.trans H; rw [hy101]; with_reducible exact H2_) | (have H2_ := (Option.bind_some _ _).symm.trans H; with_reducible exact H2_) | with_reducible exact H | (rw [hy101]; exact H) | exact H
     have Ny101 := qO hy101; clear hy101
     by_cases c4 : (strOfNums y101).size + x3_1.size ≤ 9223372036854775807
     ·rw [if_pos c4] at H
      have c4b0 := eq_true c4; have c4b1 : decide ((strOfNums y101).size + x3_1.size ≤ 9223372036854775807) = true := decide_eq_true c4
      try have c4b2 : (9223372036854775807 < (strOfNums y101).size + x3_1.size) = False := eq_false (Nat.not_lt.2 c4)
      have H' := qO H; clear H
      go_wp2_with (first | ((with_reducible refine gate_dst (N := 12) rfl ?_); refine Kd.R_lit (Kd.int .u8) _ 5 ?hg (N := 12) ?hd (xs := ([(wrap64 (48 + (Int.tmod x0_1 10))) % 256] : List Int)) (inner := [.int .u8 ((wrap64 (48 + (Int.tmod x0_1 10))) % 256)]) (ok := fun _ => True) (okp := fun _ => True) ?hr ?hp (fun _ hk => hk) trivial (Below.refl _ _) (Nat.le_refl _) qa61 ?_; (case hd => rfl); (case hg => rfl); (case hr => exact qa12); (case hp => exact (Reps.one (show Kd.M (Kd.int .u8) _ _ _ ((wrap64 (48 + (Int.tmod x0_1 10))) % 256) [.int .u8 ((wrap64 (48 + (Int.tmod x0_1 10))) % 256)] from rfl) (Reps.none _ _))); intro v102 w5 ho6 hb hg_ hnew_; clear hg_ hnew_; (first | rw [← Ny101.out] at ho6 | (simp only [Int.reduceToNat] at ho6; rw [← Ny101.out] at ho6)); have n0_ := qO (Kd.R_lower ho6 (below_size qa4)); have n1_ := qO (below_step qa4 hb); clear HB; have HO103 := n0_; have HB := n1_; clear n0_ n1_; clear hb ho6; have hcv7 := own_string (P := Try.prog) Try.underlying97 Try.underlying5 Try.underlying9 (Kd.own_of_R HO103.out)))
      go_roundg k1
      case measure => have := HK1.out; omega
      case rel => exact ⟨(wrap64 (Int.tdiv x0_1 10)), ((strOfNums y101) ++ x3_1), qa8, qa8, H', ⟨qa55⟩, ⟨qa4⟩⟩
     ·rw [if_neg c4] at H
      exact absurd H qa61
    ·rw [if_neg c3] at H
     have c3b0 : decide (0 < x0_1) = false := decide_eq_false c3; clear c3
     by_cases c8 : 1 + x3_1.size ≤ 9223372036854775807
     ·rw [if_pos c8] at H
      have c8b0 := eq_true c8; have c8b1 : decide (1 + x3_1.size ≤ 9223372036854775807) = true := decide_eq_true c8
      try have c8b2 : (9223372036854775807 < 1 + x3_1.size) = False := eq_false (Nat.not_lt.2 c8)
      obtain rfl := Option.some.inj H; go_wp2
      go_ret
      exact ⟨qa6, qa4⟩
     ·rw [if_neg c8] at H
      exact absurd H qa61


def laws_markArgDefS.l0 : Nat → List (S57) → Int → Int → Option (Int × (List (S57)))
 | 0, _, _, _ => none
 | k + 1, x0, x1, x5 => if x5 < (x0.length : Int) then ((laws_markText.f k x1).bind fun t101 => (if 0 ≤ x5 then ((some (x0.set (x5 : Int).toNat (⟨t101, (rd_T57 x0 x5).f1⟩ : S57) : List (S57))).bind fun y102 => (laws_markArgDefS.l0 k (y102.set (x5 : Int).toNat (⟨(rd_T57 y102 x5).f0, ((Int.tmod (wrap64 (x1 + 1)) 3) == 0)⟩ : S57)) (wrap64 ((wrap64 (x1 + 1)) + 1)) (wrap64 (x5 + 1)))) else (none))) else (some (x1, x0))
def laws_markArgDefS.f (k : Nat) (l0 : List (S57)) (a1 : Int) : Option (Int × (List (S57))) := laws_markArgDefS.l0 k l0 a1 0
set_option maxHeartbeats 8000000 in
set_option maxRecDepth 100000 in
theorem laws_markArgDefS.calls (k : Nat) (P0_ : Nat → Prop) (u9000_ : Value) (l0 : List (S57)) (a1 : Int) (r1 : Int) (r2 : List (S57)) (w0 w : World) (hB : Below w0.heap.size w0 w) (ho0 : Kd.R k57 57 w w0.heap.size P0_ u9000_ l0) (h : laws_markArgDefS.f k l0 a1 = some (r1, r2)) :
  Calls Try.prog 43 #[u9000_, .int .i64 a1] w fun e w' => e = .returned (.int .i64 r1) ∧ Kd.R k57 57 w' w0.heap.size (fun k_ => (P0_ k_ ∨ w.heap.size ≤ k_)) u9000_ r2 ∧ Below w0.heap.size w0 w' ∧ Kept w w' (fun k_ => P0_ k_) := by
 have HO0 := qO (show Kd.R k57 57 w w0.heap.size (fun k_ => (P0_ k_ ∨ w.heap.size ≤ k_)) u9000_ l0 from Kd.R_mono ho0 (fun k_ hk => (.inl hk))); have HK := qO (Kept.refl w (fun k_ => P0_ k_)); have HW0 := qO hB.size; have HB := qO hB; clear hB; have H : (laws_markArgDefS.l0 k l0 a1 0) = some (r1, r2) := h; clear h; have H' := qO H; clear H
 go_enter Try.func43, Try.ntmps43
 go_wp2
 go_loopg [1, 5] k (fun kq v1 v5 w' => ∃ (x0_1 : List (S57)) (x1_1 : Int) (x5_1 : Int), v1 = .int .i64 x1_1 ∧ v5 = .int .i64 x5_1 ∧ Aside0 (laws_markArgDefS.l0 kq x0_1 x1_1 x5_1 = some (r1, r2)) ∧ Aside0 (kq ≤ k) ∧ Aside0 (Kd.R k57 57 w' w0.heap.size (fun k_ => (P0_ k_ ∨ w.heap.size ≤ k_)) u9000_ x0_1) ∧ Aside0 (Kept w w' (fun k_ => P0_ k_)) ∧ Aside0 (Below w0.heap.size w0 w'))
 case atStart => exact ⟨(l0), (a1), (0), qa8, qa8, H', ⟨Nat.le_refl _⟩, ⟨by (with_reducible repeat (first | apply Kd.R_alloc | apply Kd.R_drewN | apply Kd.R_drew)); exact HO0.out⟩, ⟨qa31⟩, ⟨qa4⟩⟩
 case round =>
  clear H'
  try clear p2
  obtain ⟨x0_1, x1_1, x5_1, rfl, rfl, HA, HK1, HO_0, HK, HB⟩ := hrel
  cases gk with
  | zero => exact absurd HA.out (by simp [laws_markArgDefS.l0])
  | succ k1 =>
   have H := HA.out; clear HA; simp only [laws_markArgDefS.l0] at H
   by_cases c3 : x5_1 < (x0_1.length : Int)
   ·rw [if_pos c3] at H
    have c3b0 : decide (x5_1 < (x0_1.length : Int)) = true := decide_eq_true c3; clear c3; replace H := Option.bind_eq_some_iff.mp H; obtain ⟨t101, A40, H⟩ := H; replace H : (if 0 ≤ x5_1 then ((some (x0_1.set (x5_1 : Int).toNat (⟨t101, (rd_T57 x0_1 x5_1).f1⟩ : S57) : List (S57))).bind fun y102 => (laws_markArgDefS.l0 k1 (y102.set (x5_1 : Int).toNat (⟨(rd_T57 y102 x5_1).f0, ((Int.tmod (wrap64 (x1_1 + 1)) 3) == 0)⟩ : S57)) (wrap64 ((wrap64 (x1_1 + 1)) + 1)) (wrap64 (x5_1 + 1)))) else (none)) = some (r1, r2) := H; have A4 := qO A40; clear A40
    by_cases c5 : 0 ≤ x5_1
    ·rw [if_pos c5] at H
     have c5b0 : decide (0 ≤ x5_1) = true := decide_eq_true c5; clear c5; obtain ⟨y102, hy102⟩ : ∃ y_ : List (S57), y_ = (x0_1.set (x5_1 : Int).toNat (⟨t101, (rd_T57 x0_1 x5_1).f1⟩ : S57)) := ⟨_, rfl⟩; replace H : (laws_markArgDefS.l0 k1 (y102.set (x5_1 : Int).toNat (⟨(rd_T57 y102 x5_1).f0, ((Int.tmod (wrap64 (x1_1 + 1)) 3) == 0)⟩ : S57)) (wrap64 ((wrap64 (x1_1 + 1)) + 1)) (wrap64 (x5_1 + 1))) = some (r1, r2) := by first | (rw [hy102]; with_reducible exact H) | (have H2_ := (Option.bind_some _ _).symm.trans H; rw [hy102]; with_reducible exact H2_) | (have H2_ := (Option.bind_some _ _).symm.trans H; with_reducible exact H2_) | with_reducible exact H | (rw [hy102]; exact H) | exact H
     have Ny102 := qO hy102; clear hy102; obtain ⟨y103, hy103⟩ : ∃ y_ : List (S57), y_ = (y102.set (x5_1 : Int).toNat (⟨(rd_T57 y102 x5_1).f0, ((Int.tmod (wrap64 (x1_1 + 1)) 3) == 0)⟩ : S57)) := ⟨_, rfl⟩; replace H : (laws_markArgDefS.l0 k1 y103 (wrap64 ((wrap64 (x1_1 + 1)) + 1)) (wrap64 (x5_1 + 1))) = some (r1, r2) := by first | (rw [hy103]; with_reducible exact H) | (have H2_ := (Option.bind_some _ _).symm.trans H; rw [hy103]; with_reducible exact H2_) | (have H2_ := (Option.bind_some _ _).symm.trans H; with_reducible exact H2_) | with_reducible exact H | (rw [hy103]; exact H) | exact H
     have Ny103 := qO hy103; clear hy103; have H' := qO H; clear H; obtain ⟨Ao8, co8, eo8⟩ := Kd.R_slice HO_0.out; subst eo8
     go_wp2_with (first | ((with_reducible refine gate_callee (f := 68) rfl ?_); refine goesL_ (some 15) rfl rfl Try.func68 qa9 rfl #[.int .i64 x1_1] rfl qa2 ?_; (with_reducible refine (laws_markText.calls k1 x1_1 t101 _ A4.out).mono ?_); rintro e w9 ⟨rfl, hb⟩; have hx_ := qHX HB hb qa0; refine ⟨_, rfl, ?_⟩; have n0_ := qO (Kd.R_below qa41 hb); have n1_ := qO (Kept.below (w := w) (S := (fun k_ => P0_ k_)) qa31 hb); have n2_ := qO (below_step (below_step HB.out hx_) hb); clear HO_0; clear HK; clear HB; have HO_0 := n0_; have HK := n1_; have HB := n2_; clear n0_ n1_ n2_; clear hx_; (try clear hb); (try clear hb2); (try clear hk); (try clear hi); have p6 : 0 ≤ (x5_1 : Int) := qT qa3; have q6 : (x5_1 : Int) < ((x0_1.length : Int) : Int) := qT qa3; obtain ⟨go6, co6, eo6, gb6, gl6, cl6, HG6⟩ := Kd.R_form HO_0.out qa22; (first | cases eo6 | (injection eo6 with ea_ en_ ec_; (first | subst ea_ | (injection ea_ with ea_; subst ea_)); subst ec_; clear en_)); have GB6 := qO gb6; have GG6 := qO HG6; clear gb6 gl6 HG6; have HMgo6 := qO (show (P0_ go6 ∨ w.heap.size ≤ go6) from (HO_0.out.1 _ rfl)); obtain ⟨ce6, hcl6, hM6, hcc6, hfr6⟩ := Kd.R_elem HO_0.out z57 (x5_1 : Int) p6 q6; obtain rfl := k57_openM hM6; have hx6_0 : w9.cell? ⟨go6, (x5_1 : Int).toNat * 2, none⟩ = some (.string ((rd_T57 x0_1 x5_1).f0)) := hcc6 0 _ rfl; have hx6_1 : w9.cell? ⟨go6, (x5_1 : Int).toNat * 2 + 1, none⟩ = some (.bool ((rd_T57 x0_1 x5_1).f1)) := hcc6 1 _ rfl; have hf6_0 : w9.frozen? ⟨go6, (x5_1 : Int).toNat * 2, none⟩ = false := hfr6 0; have hf6_1 : w9.frozen? ⟨go6, (x5_1 : Int).toNat * 2 + 1, none⟩ = false := hfr6 1; clear hcl6 hcc6 hfr6; (try clear hM6); replace p6 := eq_true p6; replace q6 := eq_true q6; have HX10 := qO (show Kd.R k57 57 w9 w0.heap.size (fun k_ => (P0_ k_ ∨ w.heap.size ≤ k_)) (.slice (some ⟨go6, 0, none⟩) x0_1.length co8) x0_1 from qa41); obtain ⟨ce10, hcl10, hM10, hcc10, hfr10⟩ := Kd.R_elem HX10.out z57 (x5_1 : Int) (qT qa3) (by have h_ : (x5_1 : Int) < ((x0_1.length : Int) : Int) := qT qa3; first | exact h_ | (have e_ := (Kd.R_reads' HO_0.out).1; omega) | simpa using h_); obtain rfl := k57_openM hM10; have HP10 := Kd.R_seg HX10.out (x5_1 : Int) (qT qa3) (by have h_ : (x5_1 : Int) < ((x0_1.length : Int) : Int) := qT qa3; first | exact h_ | (have e_ := (Kd.R_reads' HO_0.out).1; omega) | simpa using h_) (seg := [.string t101]) (j := 0) hcl10 hcc10 (show 1 ≤ 2 from by decide) (x' := (⟨t101, (rd_T57 x0_1 x5_1).f1⟩ : S57)) (k57_mkM _ _ _ (⟨t101, (rd_T57 x0_1 x5_1).f1⟩ : S57) ) (fun _ hk => hk); have hx10_0 := hcc10 0 _ rfl; (try simp only [show (k57).sz = 2 from rfl, Nat.mul_one, Nat.add_zero] at hx10_0); have hf10_0 := hfr10 0; (try simp only [show (k57).sz = 2 from rfl, Nat.mul_one, Nat.add_zero] at hf10_0); clear hcl10 hcc10 hfr10; (try clear hM10)) | ((with_reducible refine gate_store (t := 9) (p := 17) rfl ?_); refine store_event (t := 9) (p := 17) (v := ?vo_w11) (w1 := (w9.setCell ⟨go6, (x5_1 : Int).toNat * 2, none⟩ (.string t101))) ?hg ?ho ?hn ?hr ?_; (case ho => rfl); (case hg => rfl); (case hn => rfl); (case hr => exact qa12); intro w11 hw; have hg : w9.grownBy w11 (some go6) := (by rw [hw]; exact HP10.2); have hp_ : Kd.R k57 57 w11 w0.heap.size (fun k_ => (P0_ k_ ∨ w.heap.size ≤ k_)) (.slice (some ⟨go6, 0, none⟩) x0_1.length co8) y102 := (by rw [hw, Ny102.out]; exact HP10.1); clear HP10; have n0_ := qO (hp_); have n1_ := qO ((by rw [hw]; exact qbS (HB.out) GB6.out : Below w0.heap.size w0 w11)); have n2_ := qO (Kept.of_grown (S := (fun k_ => P0_ k_)) hg qa31 (fun k_ e_ => (HO_0.out.1 k_ e_))); clear HO_0; clear HB; clear HK; have HO_0 := n0_; have HB := n1_; have HK := n2_; clear n0_ n1_ n2_; clear hg hw hp_; have p7 : 0 ≤ (x5_1 : Int) := qT qa3; have q7 : (x5_1 : Int) < ((x0_1.length : Int) : Int) := qT qa3; obtain ⟨ce7, hcl7, hM7, hcc7, hfr7⟩ := Kd.R_elem HO_0.out z57 (x5_1 : Int) p7 q7; obtain rfl := k57_openM hM7; have hx7_0 : w11.cell? ⟨go6, (x5_1 : Int).toNat * 2, none⟩ = some (.string ((rd_T57 y102 x5_1).f0)) := hcc7 0 _ rfl; have hx7_1 : w11.cell? ⟨go6, (x5_1 : Int).toNat * 2 + 1, none⟩ = some (.bool ((rd_T57 y102 x5_1).f1)) := hcc7 1 _ rfl; have hf7_0 : w11.frozen? ⟨go6, (x5_1 : Int).toNat * 2, none⟩ = false := hfr7 0; have hf7_1 : w11.frozen? ⟨go6, (x5_1 : Int).toNat * 2 + 1, none⟩ = false := hfr7 1; clear hcl7 hcc7 hfr7; (try clear hM7); replace p7 := eq_true p7; replace q7 := eq_true q7; have HX12 := qO (show Kd.R k57 57 w11 w0.heap.size (fun k_ => (P0_ k_ ∨ w.heap.size ≤ k_)) (.slice (some ⟨go6, 0, none⟩) x0_1.length co8) y102 from qa41); obtain ⟨ce12, hcl12, hM12, hcc12, hfr12⟩ := Kd.R_elem HX12.out z57 (x5_1 : Int) (qT qa3) (by have h_ : (x5_1 : Int) < ((x0_1.length : Int) : Int) := qT qa3; first | exact h_ | (have e_ := (Kd.R_reads' HO_0.out).1; omega) | simpa using h_); obtain rfl := k57_openM hM12; have HP12 := Kd.R_seg HX12.out (x5_1 : Int) (qT qa3) (by have h_ : (x5_1 : Int) < ((x0_1.length : Int) : Int) := qT qa3; first | exact h_ | (have e_ := (Kd.R_reads' HO_0.out).1; omega) | simpa using h_) (seg := [.bool ((Int.tmod (wrap64 (x1_1 + 1)) 3) == 0)]) (j := 1) hcl12 hcc12 (show 2 ≤ 2 from by decide) (x' := (⟨(rd_T57 y102 x5_1).f0, ((Int.tmod (wrap64 (x1_1 + 1)) 3) == 0)⟩ : S57)) (k57_mkM _ _ _ (⟨(rd_T57 y102 x5_1).f0, ((Int.tmod (wrap64 (x1_1 + 1)) 3) == 0)⟩ : S57) ) (fun _ hk => hk); have hx12_1 := hcc12 1 _ rfl; (try simp only [show (k57).sz = 2 from rfl, Nat.mul_one, Nat.add_zero] at hx12_1); have hf12_1 := hfr12 1; (try simp only [show (k57).sz = 2 from rfl, Nat.mul_one, Nat.add_zero] at hf12_1); clear hcl12 hcc12 hfr12; (try clear hM12)) | ((with_reducible refine gate_store (t := 4) (p := 26) rfl ?_); refine store_event (t := 4) (p := 26) (v := ?vo_w13) (w1 := (w11.setCell ⟨go6, (x5_1 : Int).toNat * 2 + 1, none⟩ (.bool ((Int.tmod (wrap64 (x1_1 + 1)) 3) == 0)))) ?hg ?ho ?hn ?hr ?_; (case ho => rfl); (case hg => rfl); (case hn => rfl); (case hr => exact qa12); intro w13 hw; have hg : w11.grownBy w13 (some go6) := qa69; have hp_ : Kd.R k57 57 w13 w0.heap.size (fun k_ => (P0_ k_ ∨ w.heap.size ≤ k_)) (.slice (some ⟨go6, 0, none⟩) x0_1.length co8) y103 := (by rw [hw, Ny103.out]; exact HP12.1); clear HP12; have n0_ := qO (hp_); have n1_ := qO ((by rw [hw]; exact qbS (HB.out) GB6.out : Below w0.heap.size w0 w13)); have n2_ := qO (Kept.of_grown (S := (fun k_ => P0_ k_)) hg qa31 (fun k_ e_ => (HO_0.out.1 k_ e_))); clear HO_0; clear HB; clear HK; have HO_0 := n0_; have HB := n1_; have HK := n2_; clear n0_ n1_ n2_; clear hg hw hp_))
     go_roundg k1
     case measure => have := HK1.out; omega
     case rel => exact ⟨(y103), (wrap64 ((wrap64 (x1_1 + 1)) + 1)), (wrap64 (x5_1 + 1)), qa8, qa8, H', ⟨qa55⟩, ⟨qa41⟩, ⟨qa31⟩, ⟨qa4⟩⟩
    ·rw [if_neg c5] at H
     exact absurd H qa61
   ·rw [if_neg c3] at H
    have c3b0 : decide (x5_1 < (x0_1.length : Int)) = false := decide_eq_false c3; clear c3; simp only [Option.some.injEq, Prod.mk.injEq] at H; obtain ⟨rfl, rfl⟩ := H; obtain ⟨Ao14, co14, eo14⟩ := Kd.R_slice HO_0.out; subst eo14; go_wp2
    go_ret
    exact ⟨qa6, qa41, qa4, qa31⟩

/-- One row's five cells. -/
structure FC (w : World) (g i : Nat) (x : S38) (v : Value) : Prop where
 c0 : w.cell? ⟨g, i * 5, none⟩ = some (.string x.f0)
 c1 : w.cell? ⟨g, i * 5 + 1, none⟩ = some v
 c2 : w.cell? ⟨g, i * 5 + 2, none⟩ = some (.string x.f2)
 c3 : w.cell? ⟨g, i * 5 + 3, none⟩ = some (.bool x.f3)
 c4 : w.cell? ⟨g, i * 5 + 4, none⟩ = some (.bool x.f4)
 fz : ∀ j, w.frozen? ⟨g, j, none⟩ = false
def mf (k : Nat) : List S38 → Int → Option (Int × List S38)
 | [], m => some (m, [])
 | f :: r, m => (laws_markText.f k m).bind fun s => (laws_markArgDefS.f k f.f1 (wrap64 (m + 1))).bind fun p => (laws_markText.f k p.1).bind fun t =>
   (mf k r (wrap64 (wrap64 (wrap64 (p.1 + 1) + 1) + 1))).bind fun q => some (q.1, ⟨s, p.2, t, ((Int.tmod (wrap64 (p.1 + 1)) 3) == 0), ((Int.tmod (wrap64 (wrap64 (p.1 + 1) + 1)) 3) == 0)⟩ :: q.2)
theorem FC.below {w w' : World} {g i : Nat} {x : S38} {v : Value} (h : FC w g i x v) (hb : Below w.heap.size w w') : FC w' g i x v := by
 have e : ∀ a u, w.cell? a = some u → w'.cell? a = some u := fun a u hc => (hb.cell (World.block_lt_of_cell? w _ hc)).trans hc
 have hg : g < w.heap.size := World.block_lt_of_cell? w _ h.c0
 exact ⟨e _ _ h.c0, e _ _ h.c1, e _ _ h.c2, e _ _ h.c3, e _ _ h.c4, fun j => by
  have := h.fz j
  unfold World.frozen? at this ⊢
  rw [hb.block g hg]
  exact this⟩
/-- A store into one cell leaves another row. -/
theorem FC.far {w : World} {g i : Nat} {x : S38} {v : Value} (h : FC w g i x v) (j : Nat) (u : Value) (hj : j < i * 5 ∨ i * 5 + 5 ≤ j) : FC (w.setCell ⟨g, j, none⟩ u) g i x v := by
 have e : ∀ a u', a ≠ j → w.cell? ⟨g, a, none⟩ = some u' → (w.setCell ⟨g, j, none⟩ u).cell? ⟨g, a, none⟩ = some u' := fun a u' hn hc => (World.cell?_setCell_other _ _ _ _ (by intro e; injection e with _ e2 _; exact hn (by first | exact e2.symm | exact e2))).trans hc
 exact ⟨e _ _ (by omega) h.c0, e _ _ (by omega) h.c1, e _ _ (by omega) h.c2, e _ _ (by omega) h.c3, e _ _ (by omega) h.c4, fun j' => by rw [World.frozen?_setCell]; exact h.fz j'⟩
/-- Block g stays. -/
theorem FC.same {w w' : World} {g i : Nat} {x : S38} {v : Value} (h : FC w g i x v) (hb : w'.heap[g]? = w.heap[g]?) : FC w' g i x v := by
 have e : ∀ a u, w.cell? ⟨g, a, none⟩ = some u → w'.cell? ⟨g, a, none⟩ = some u := fun a u hc => by
  unfold World.cell? at hc ⊢
  rw [hb]
  exact hc
 exact ⟨e _ _ h.c0, e _ _ h.c1, e _ _ h.c2, e _ _ h.c3, e _ _ h.c4, fun j => by
  have := h.fz j
  unfold World.frozen? at this ⊢
  rw [hb]
  exact this⟩
def Rows38 (w0 w : World) (g n : Nat) (fs : List S38) (av : Nat → Value) : Prop := ∀ i, i < n → FC w g i (fs.getD i z38) (av i) ∧ Kd.R k57 57 w w0.heap.size (fun b => some b = (av i).ownBlock) (av i) (fs.getD i z38).f1
structure MS (w0 ws : World) (g n : Nat) (av : Nat → Value) (w : World) (cur : List S38) : Prop where
 len : cur.length = n
 rows : Rows38 w0 w g n cur av
 below : Below w0.heap.size w0 w
 kept : Kept ws w (fun b => b = g ∨ ∃ i, i < n ∧ some b = (av i).ownBlock)
structure MF (w0 ws : World) (g n : Nat) (av : Nat → Value) : Prop where
 hg : w0.heap.size ≤ g
 ne : ∀ i, i < n → (av i).ownBlock ≠ some g
 dis : ∀ i j, i < n → j < n → i ≠ j → ∀ b, (av i).ownBlock = some b → (av j).ownBlock ≠ some b
theorem getD_set38 (cur : List S38) (i j : Nat) (y : S38) (hi : i < cur.length) : (cur.set i y).getD j z38 = if i = j then y else cur.getD j z38 := by
 rw [List.getD_eq_getElem?_getD, List.getElem?_set, List.getD_eq_getElem?_getD]
 by_cases h : i = j
 ·rw [if_pos h, if_pos hi, if_pos h]; rfl
 ·rw [if_neg h, if_neg h]
variable {w0 ws w w' : World} {g n : Nat} {av : Nat → Value} {cur : List S38}
theorem MS.grow (h : MS w0 ws g n av w cur) (hb : Below w.heap.size w w') : MS w0 ws g n av w' cur :=
 ⟨h.len, fun i hi => ⟨(h.rows i hi).1.below hb, Kd.R_below (h.rows i hi).2 hb⟩, below_step h.below hb, h.kept.below hb⟩
/-- A store into row i's own cells. -/
theorem MS.put (f : MF w0 ws g n av) (h : MS w0 ws g n av w cur) (i j : Nat) (hi : i < n) (hj : j < 5) (u : Value) (y : S38) (hy : y.f1 = (cur.getD i z38).f1) (hc : FC (w.setCell ⟨g, i * 5 + j, none⟩ u) g i y (av i)) : MS w0 ws g n av (w.setCell ⟨g, i * 5 + j, none⟩ u) (cur.set i y) := by
 refine ⟨by rw [List.length_set]; exact h.len, fun i' hi' => ?_, below_set h.below f.hg, h.kept.setCell (.inl (.inl rfl)) u⟩
 rw [getD_set38 cur i i' y (by rw [h.len]; exact hi)]
 have hR := Kd.R_far (p := ⟨g, i * 5 + j, none⟩) (h.rows i' hi').2 (fun k hk e => f.ne i' hi' (by rw [← hk, e])) u
 by_cases e : i = i'
 ·subst e
  rw [if_pos rfl, hy]
  exact ⟨hc, hR⟩
 ·rw [if_neg e]
  exact ⟨(h.rows i' hi').1.far _ _ (by omega), hR⟩
theorem cell_put {w : World} {g a b : Nat} {u v : Value} (hn : a ≠ b) (h : w.cell? ⟨g, a, none⟩ = some v) : (w.setCell ⟨g, b, none⟩ u).cell? ⟨g, a, none⟩ = some v :=
 (World.cell?_setCell_other _ _ _ _ (by intro e; injection e with _ e2 _; exact hn (by first | exact e2.symm | exact e2))).trans h
theorem cell_own {w : World} {g a : Nat} {u v : Value} (h : w.cell? ⟨g, a, none⟩ = some v) : (w.setCell ⟨g, a, none⟩ u).cell? ⟨g, a, none⟩ = some u := World.cell?_setCell_same _ _ _ h
theorem MS.put0 (f : MF w0 ws g n av) (h : MS w0 ws g n av w cur) (i : Nat) (hi : i < n) (s : ByteArray) : MS w0 ws g n av (w.setCell ⟨g, i * 5, none⟩ (.string s)) (cur.set i { cur.getD i z38 with f0 := s }) := by
 have c := (h.rows i hi).1
 exact h.put f i 0 hi (by omega) _ _ rfl ⟨cell_own c.c0, cell_put (by omega) c.c1, cell_put (by omega) c.c2, cell_put (by omega) c.c3, cell_put (by omega) c.c4, fun j => by rw [World.frozen?_setCell]; exact c.fz j⟩
theorem MS.put2 (f : MF w0 ws g n av) (h : MS w0 ws g n av w cur) (i : Nat) (hi : i < n) (s : ByteArray) : MS w0 ws g n av (w.setCell ⟨g, i * 5 + 2, none⟩ (.string s)) (cur.set i { cur.getD i z38 with f2 := s }) := by
 have c := (h.rows i hi).1
 exact h.put f i 2 hi (by omega) _ _ rfl ⟨cell_put (by omega) c.c0, cell_put (by omega) c.c1, cell_own c.c2, cell_put (by omega) c.c3, cell_put (by omega) c.c4, fun j => by rw [World.frozen?_setCell]; exact c.fz j⟩
theorem MS.put3 (f : MF w0 ws g n av) (h : MS w0 ws g n av w cur) (i : Nat) (hi : i < n) (s : Bool) : MS w0 ws g n av (w.setCell ⟨g, i * 5 + 3, none⟩ (.bool s)) (cur.set i { cur.getD i z38 with f3 := s }) := by
 have c := (h.rows i hi).1
 exact h.put f i 3 hi (by omega) _ _ rfl ⟨cell_put (by omega) c.c0, cell_put (by omega) c.c1, cell_put (by omega) c.c2, cell_own c.c3, cell_put (by omega) c.c4, fun j => by rw [World.frozen?_setCell]; exact c.fz j⟩
theorem MS.put4 (f : MF w0 ws g n av) (h : MS w0 ws g n av w cur) (i : Nat) (hi : i < n) (s : Bool) : MS w0 ws g n av (w.setCell ⟨g, i * 5 + 4, none⟩ (.bool s)) (cur.set i { cur.getD i z38 with f4 := s }) := by
 have c := (h.rows i hi).1
 exact h.put f i 4 hi (by omega) _ _ rfl ⟨cell_put (by omega) c.c0, cell_put (by omega) c.c1, cell_put (by omega) c.c2, cell_put (by omega) c.c3, cell_own c.c4, fun j => by rw [World.frozen?_setCell]; exact c.fz j⟩
theorem block_of {w : World} {a : Addr} {v : Value} (h : w.cell? a = some v) : a.block < w.heap.size := World.block_lt_of_cell? w _ h
/-- The inner row marked. -/
theorem MS.args (f : MF w0 ws g n av) (h : MS w0 ws g n av w cur) (i : Nat) (hi : i < n) (as' : List S57) (hR : Kd.R k57 57 w' w0.heap.size (fun b => some b = (av i).ownBlock) (av i) as') (hb : Below w0.heap.size w0 w') (hk : Kept w w' (fun b => some b = (av i).ownBlock)) : MS w0 ws g n av w' (cur.set i { cur.getD i z38 with f1 := as' }) := by
 have hgl : g < w.heap.size := block_of (h.rows i hi).1.c0
 have hsame : w'.heap[g]? = w.heap[g]? := hk.2 g hgl (fun e => f.ne i hi e.symm)
 refine ⟨by rw [List.length_set]; exact h.len, fun i' hi' => ?_, hb, ?_⟩
 ·rw [getD_set38 cur i i' _ (by rw [h.len]; exact hi)]
  have hc := (h.rows i' hi').1.same hsame
  by_cases e : i = i'
  ·subst e
   rw [if_pos rfl]
   exact ⟨⟨hc.c0, hc.c1, hc.c2, hc.c3, hc.c4, hc.fz⟩, hR⟩
  ·rw [if_neg e]
   exact ⟨hc, Kd.R_step (h.rows i' hi').2 (fun k hk' hkl => hk.2 k hkl (fun e2 => f.dis i' i hi' hi (fun e3 => e e3.symm) k hk'.symm e2.symm))⟩
 ·exact h.kept.then_ hk (fun k hk' => .inl (.inr ⟨i, hi, hk'⟩))
theorem R57_ok {w : World} {base : Nat} {ok : Nat → Prop} {v : Value} {xs : List S57} (h : Kd.R k57 57 w base ok v xs) : Kd.R k57 57 w base (fun b => some b = v.ownBlock) v xs := by
 obtain ⟨_, inner, ho, hr⟩ := h
 exact ⟨fun k hk => hk.symm, inner, ho, hr⟩
theorem MS.one {w0 ws w : World} {g n i : Nat} {av : Nat → Value} {cur : List S38} {y z : S38} (hi : i < cur.length) (h : MS w0 ws g n av w ((cur.set i y).set i z)) : MS w0 ws g n av w (cur.set i z) := by rwa [List.set_set] at h
set_option maxHeartbeats 4000000 in
set_option maxRecDepth 100000 in
theorem mark69 (k n g c : Nat) (fs fs' : List S38) (hsz : n < 1000000) (av : Nat → Value) (m m' : Int) (w0 w : World) (hc : n ≤ c) (hF : MF w0 w g n av) (hM : MS w0 w g n av w fs) (h : mf k fs m = some (m', fs')) :
  Calls Try.prog 69 #[.slice (some ⟨g, 0, none⟩) n c, .int .i64 m] w fun e w' => e = .returned (.int .i64 m') ∧ MS w0 w g n av w' fs' := by
 have hu38 := Try.underlying38
 have FF := Aside0.mk hF
 have HR := Aside0.mk hM
 have H := Aside0.mk h
 clear hM h hF
 go_enter Try.func69, Try.ntmps69
 go_wp2
 go_loopg [1, 5] n (fun kq v1 v5 wr => ∃ (i : Nat) (mc : Int) (cur rest' : List S38), v1 = .int .i64 mc ∧ v5 = .int .i64 i ∧ i ≤ n ∧ n - i ≤ kq ∧ Aside0 (mf k (cur.drop i) mc = some (m', rest')) ∧ Aside0 (fs' = cur.take i ++ rest') ∧ Aside0 (MS w0 w g n av wr cur))
 case atStart => exact ⟨0, m, fs, fs', rfl, rfl, by omega, by omega, ⟨H.out⟩, ⟨rfl⟩, ⟨HR.out⟩⟩
 case round =>
  clear HR H
  obtain ⟨i, mc, cur, rest', rfl, rfl, hin, hkq, HM, HF, HR⟩ := hrel
  by_cases hlt : i < n
  ·have hltz : (i : Int) < (n : Int) := by omega
   have hil : i < cur.length := by rw [HR.out.len]; exact hlt
   have hdr : cur.drop i = cur.getD i z38 :: cur.drop (i + 1) := by
    rw [List.drop_eq_getElem_cons hil, List.getD_eq_getElem?_getD, List.getElem?_eq_getElem hil]; rfl
   have hm := HM.out
   rw [hdr, mf] at hm
   obtain ⟨s, hs, hm⟩ := Option.bind_eq_some_iff.1 hm
   obtain ⟨⟨m2, as2⟩, ha, hm⟩ := Option.bind_eq_some_iff.1 hm
   obtain ⟨t, ht, hm⟩ := Option.bind_eq_some_iff.1 hm
   obtain ⟨⟨m9, r9⟩, h9, hm⟩ := Option.bind_eq_some_iff.1 hm
   have hm2 := Option.some.inj hm
   simp only [Prod.mk.injEq] at hm2
   obtain ⟨rfl, hm3⟩ := hm2
   clear hm hdr
   dsimp only at ht h9 hm3
   obtain ⟨x, hx⟩ : ∃ x, x = cur.getD i z38 := ⟨_, rfl⟩
   rw [← hx] at ha
   have hgx : ∀ y, (cur.set i y).getD i z38 = y := fun y => by rw [getD_set38 cur i i y hil, if_pos rfl]
   have HGX := Aside0.mk hgx
   have HS := Aside0.mk hs
   have HA := Aside0.mk ha
   have HT := Aside0.mk ht
   have H9 := Aside0.mk h9
   have HM3 := Aside0.mk hm3
   have HX := Aside0.mk hx
   have HIL := Aside0.mk hil
   obtain ⟨Ao, co, eo⟩ := Kd.R_slice (HR.out.rows i hlt).2
   obtain ⟨nl, hnl⟩ : ∃ q, q = (cur.getD i z38).f1.length := ⟨_, rfl⟩
   rw [← hnl] at eo
   clear hnl
   have EO := Aside0.mk eo
   clear hs ha ht h9 hm3 hx hgx hil eo
   have p1 : (0 : Int) ≤ (i : Int) := by omega
   have q1 : (i : Int) < (n : Int) := hltz
   go_wp2_with (first
    | (go_at_call 68; (with_reducible refine (laws_markText.calls k mc s _ HS.out).mono ?_); rintro e w2 ⟨rfl, hb2⟩; have M1 := Aside0.mk (HR.out.grow hb2); clear hb2; have d0 := (M1.out.rows i hlt).1.c0; have z0 := (M1.out.rows i hlt).1.fz (i * 5))
    | ((with_reducible refine gate_store (t := 9) (p := 17) rfl ?_); refine store_event (t := 9) (p := 17) (v := ?vo1) (w1 := (w2.setCell ⟨g, i * 5, none⟩ (.string s))) ?hg ?ho ?hn ?hr ?_; (case ho => rfl); (case hg => rfl); (case hn => rfl); (case hr => first | (go_simp; done) | (go_simp; rfl)); intro w3 hw; have M2 : Aside0 (MS w0 w g n av w3 (cur.set i ⟨s, x.f1, x.f2, x.f3, x.f4⟩)) := ⟨by rw [hw]; have h_ := M1.out.put0 FF.out i hlt s; rw [← HX.out] at h_; exact h_⟩; clear hw d0 z0 M1; have d1 := (M2.out.rows i hlt).1.c1; rw [EO.out] at d1)
    | (go_at_call 43; have h1 := (M2.out.rows i hlt).2; rw [HGX.out, EO.out] at h1; have h2 := laws_markArgDefS.calls k (fun b => some b = (Value.slice Ao nl co).ownBlock) (.slice Ao nl co) x.f1 (wrap64 (mc + 1)) m2 as2 w0 w3 M2.out.below h1 HA.out; refine h2.mono ?_; rintro e w4 ⟨rfl, hR4, hB4, hK4⟩; have r4 : Kd.R k57 57 w4 w0.heap.size (fun b => some b = (av i).ownBlock) (av i) as2 := (by rw [EO.out]; exact R57_ok hR4); have k4 : Kept w3 w4 (fun b => some b = (av i).ownBlock) := (by rw [EO.out]; exact hK4); have h_ := M2.out.args FF.out i hlt as2 r4 hB4 k4; rw [HGX.out] at h_; have M3 := Aside0.mk (MS.one HIL.out h_); clear h_ k4 r4 hR4 hB4 hK4 h1 h2 M2 d1)
    | (go_at_call 68; (with_reducible refine (laws_markText.calls k m2 t _ HT.out).mono ?_); rintro e w5 ⟨rfl, hb5⟩; have M4 := Aside0.mk (M3.out.grow hb5); clear hb5 M3; have d2 := (M4.out.rows i hlt).1.c2; have z2 := (M4.out.rows i hlt).1.fz (i * 5 + 2))
    | ((with_reducible refine gate_store (t := 9) (p := 32) rfl ?_); refine store_event (t := 9) (p := 32) (v := ?vo2) (w1 := (w5.setCell ⟨g, i * 5 + 2, none⟩ (.string t))) ?hg ?ho ?hn ?hr ?_; (case ho => rfl); (case hg => rfl); (case hn => rfl); (case hr => first | (go_simp; done) | (go_simp; rfl)); intro w6 hw; have M5 : Aside0 (MS w0 w g n av w6 (cur.set i ⟨s, as2, t, x.f3, x.f4⟩)) := ⟨by rw [hw]; have h_ := M4.out.put2 FF.out i hlt t; rw [HGX.out] at h_; exact MS.one HIL.out h_⟩; clear hw d2 z2 M4; have d3 := (M5.out.rows i hlt).1.c3; have z3 := (M5.out.rows i hlt).1.fz (i * 5 + 3))
    | ((with_reducible refine gate_store (t := 4) (p := 41) rfl ?_); refine store_event (t := 4) (p := 41) (v := ?vo3) (w1 := (w6.setCell ⟨g, i * 5 + 3, none⟩ (.bool (((Int.tmod (wrap64 (m2 + 1)) 3) == 0))))) ?hg ?ho ?hn ?hr ?_; (case ho => rfl); (case hg => rfl); (case hn => rfl); (case hr => first | (go_simp; done) | (go_simp; rfl)); intro w7 hw; have M6 : Aside0 (MS w0 w g n av w7 (cur.set i ⟨s, as2, t, ((Int.tmod (wrap64 (m2 + 1)) 3) == 0), x.f4⟩)) := ⟨by rw [hw]; have h_ := M5.out.put3 FF.out i hlt (((Int.tmod (wrap64 (m2 + 1)) 3) == 0)); rw [HGX.out] at h_; exact MS.one HIL.out h_⟩; clear hw d3 z3 M5; have d4 := (M6.out.rows i hlt).1.c4; have z4 := (M6.out.rows i hlt).1.fz (i * 5 + 4))
    | ((with_reducible refine gate_store (t := 4) (p := 50) rfl ?_); refine store_event (t := 4) (p := 50) (v := ?vo4) (w1 := (w7.setCell ⟨g, i * 5 + 4, none⟩ (.bool (((Int.tmod (wrap64 (wrap64 (m2 + 1) + 1)) 3) == 0))))) ?hg ?ho ?hn ?hr ?_; (case ho => rfl); (case hg => rfl); (case hn => rfl); (case hr => first | (go_simp; done) | (go_simp; rfl)); intro w8 hw; have M7 : Aside0 (MS w0 w g n av w8 (cur.set i ⟨s, as2, t, ((Int.tmod (wrap64 (m2 + 1)) 3) == 0), ((Int.tmod (wrap64 (wrap64 (m2 + 1) + 1)) 3) == 0)⟩)) := ⟨by rw [hw]; have h_ := M6.out.put4 FF.out i hlt (((Int.tmod (wrap64 (wrap64 (m2 + 1) + 1)) 3) == 0)); rw [HGX.out] at h_; exact MS.one HIL.out h_⟩; clear hw d4 z4 M6))
   go_roundg (n - (i + 1))
   case measure => omega
   case rel =>
    refine ⟨i + 1, _, cur.set i ⟨s, as2, t, ((Int.tmod (wrap64 (m2 + 1)) 3) == 0), ((Int.tmod (wrap64 (wrap64 (m2 + 1) + 1)) 3) == 0)⟩, r9, rfl, by first | rfl | go_num | (congr 1; unfold wrap64; omega), by omega, Nat.le_refl _, ⟨?_⟩, ⟨?_⟩, ⟨M7.out⟩⟩
    ·rw [List.drop_set_of_lt (by omega)]
     exact H9.out
    ·have e : (cur.set i (⟨s, as2, t, ((Int.tmod (wrap64 (m2 + 1)) 3) == 0), ((Int.tmod (wrap64 (wrap64 (m2 + 1) + 1)) 3) == 0)⟩ : S38)).take (i + 1) = cur.take i ++ [⟨s, as2, t, ((Int.tmod (wrap64 (m2 + 1)) 3) == 0), ((Int.tmod (wrap64 (wrap64 (m2 + 1) + 1)) 3) == 0)⟩] := by
      rw [List.take_add_one, List.take_set_of_le (Nat.le_refl _), List.getElem?_set_self HIL.out]; rfl
     rw [e, HF.out, ← HM3.out, List.append_assoc]
     rfl
  ·have hltz : ¬ (i : Int) < (n : Int) := by omega
   have hi : i = n := by omega
   have hl : cur.drop i = [] := List.drop_of_length_le (by rw [HR.out.len]; omega)
   have hm := HM.out
   rw [hl, mf] at hm
   have hm2 := Option.some.inj hm
   simp only [Prod.mk.injEq] at hm2
   have HE : Aside0 (fs' = cur) := ⟨by rw [HF.out, ← hm2.2, List.append_nil, List.take_of_length_le (by rw [HR.out.len]; omega)]⟩
   have HE2 : Aside0 (mc = m') := ⟨hm2.1⟩
   clear hm hm2 hl hi
   go_wp2
   go_ret
   exact ⟨by rw [← HE2.out]; rfl, by rw [HE.out]; exact HR.out⟩
/-- One row's two cells. -/
structure TC (w : World) (g i : Nat) (s : ByteArray) (G N C : Nat) : Prop where
 c0 : w.cell? ⟨g, i * 2, none⟩ = some (.string s)
 c1 : w.cell? ⟨g, i * 2 + 1, none⟩ = some (.slice (some ⟨G, 0, none⟩) N C)
 fz : ∀ j, w.frozen? ⟨g, j, none⟩ = false
def mt (k : Nat) : List S53 → Int → Option (Int × List S53)
 | [], m => some (m, [])
 | f :: r, m => (laws_markText.f k m).bind fun s => (mf k f.f1 (wrap64 (m + 1))).bind fun p => (mt k r p.1).bind fun q => some (q.1, ⟨s, p.2⟩ :: q.2)
theorem TC.below {w w' : World} {g i : Nat} {s : ByteArray} {G N C : Nat} (h : TC w g i s G N C) (hb : Below w.heap.size w w') : TC w' g i s G N C := by
 have e : ∀ a u, w.cell? a = some u → w'.cell? a = some u := fun a u hc => (hb.cell (World.block_lt_of_cell? w _ hc)).trans hc
 have hg : g < w.heap.size := World.block_lt_of_cell? w _ h.c0
 exact ⟨e _ _ h.c0, e _ _ h.c1, fun j => by
  have := h.fz j
  unfold World.frozen? at this ⊢
  rw [hb.block g hg]
  exact this⟩
theorem TC.far {w : World} {g i : Nat} {s : ByteArray} {G N C : Nat} (h : TC w g i s G N C) (j : Nat) (u : Value) (hj : j < i * 2 ∨ i * 2 + 2 ≤ j) : TC (w.setCell ⟨g, j, none⟩ u) g i s G N C :=
 ⟨cell_put (by omega) h.c0, cell_put (by omega) h.c1, fun j' => by rw [World.frozen?_setCell]; exact h.fz j'⟩
theorem TC.same {w w' : World} {g i : Nat} {s : ByteArray} {G N C : Nat} (h : TC w g i s G N C) (hb : w'.heap[g]? = w.heap[g]?) : TC w' g i s G N C := by
 have e : ∀ a u, w.cell? ⟨g, a, none⟩ = some u → w'.cell? ⟨g, a, none⟩ = some u := fun a u hc => by
  unfold World.cell? at hc ⊢
  rw [hb]
  exact hc
 exact ⟨e _ _ h.c0, e _ _ h.c1, fun j => by
  have := h.fz j
  unfold World.frozen? at this ⊢
  rw [hb]
  exact this⟩
/-- The blocks of a row of rows of rows. -/
def TB (g n : Nat) (G N : Nat → Nat) (av : Nat → Nat → Value) (b : Nat) : Prop := b = g ∨ ∃ i, i < n ∧ (b = G i ∨ ∃ a, a < N i ∧ some b = (av i a).ownBlock)
structure TS (w0 ws : World) (g n : Nat) (G N C : Nat → Nat) (av : Nat → Nat → Value) (w : World) (cur : List S53) : Prop where
 len : cur.length = n
 cells : ∀ i, i < n → TC w g i (cur.getD i z53).f0 (G i) (N i) (C i)
 lens : ∀ i, i < n → (cur.getD i z53).f1.length = N i
 rows : ∀ i, i < n → Rows38 w0 w (G i) (N i) (cur.getD i z53).f1 (av i)
 below : Below w0.heap.size w0 w
 kept : Kept ws w (TB g n G N av)
/-- The blocks of a row of rows of rows are apart. -/
structure TF (w0 : World) (g n : Nat) (G N C : Nat → Nat) (av : Nat → Nat → Value) : Prop where
 hg : w0.heap.size ≤ g
 inn : ∀ i, i < n → MF w0 w0 (G i) (N i) (av i)
 nc : ∀ i, i < n → N i ≤ C i ∧ N i < 1000000 ∧ 0 < N i
 gG : ∀ i, i < n → G i ≠ g
 gA : ∀ i a, i < n → a < N i → (av i a).ownBlock ≠ some g
 GG : ∀ i j, i < n → j < n → i ≠ j → G i ≠ G j
 GA : ∀ i j a, i < n → j < n → i ≠ j → a < N i → (av i a).ownBlock ≠ some (G j)
 AA : ∀ i j a b, i < n → j < n → i ≠ j → a < N i → b < N j → ∀ k, (av i a).ownBlock = some k → (av j b).ownBlock ≠ some k
theorem getD_set53 (cur : List S53) (i j : Nat) (y : S53) (hi : i < cur.length) : (cur.set i y).getD j z53 = if i = j then y else cur.getD j z53 := by
 rw [List.getD_eq_getElem?_getD, List.getElem?_set, List.getD_eq_getElem?_getD]
 by_cases h : i = j
 ·rw [if_pos h, if_pos hi, if_pos h]; rfl
 ·rw [if_neg h, if_neg h]
variable {w0 ws w w' : World} {g n : Nat} {G N C : Nat → Nat} {av : Nat → Nat → Value} {cur : List S53}
theorem TS.grow (h : TS w0 ws g n G N C av w cur) (hb : Below w.heap.size w w') : TS w0 ws g n G N C av w' cur :=
 ⟨h.len, fun i hi => (h.cells i hi).below hb, h.lens, fun i hi a ha => ⟨(h.rows i hi a ha).1.below hb, Kd.R_below (h.rows i hi a ha).2 hb⟩, below_step h.below hb, h.kept.below hb⟩
theorem TS.put0 (f : TF w0 g n G N C av) (h : TS w0 ws g n G N C av w cur) (i : Nat) (hi : i < n) (s : ByteArray) : TS w0 ws g n G N C av (w.setCell ⟨g, i * 2, none⟩ (.string s)) (cur.set i ⟨s, (cur.getD i z53).f1⟩) := by
 have hil : i < cur.length := by rw [h.len]; exact hi
 refine ⟨by rw [List.length_set]; exact h.len, fun j hj => ?_, fun j hj => ?_, fun j hj a ha => ?_, below_set h.below f.hg, h.kept.setCell (.inl (.inl rfl)) _⟩
 ·rw [getD_set53 cur i j _ hil]
  by_cases e : i = j
  ·subst e
   rw [if_pos rfl]
   have c := h.cells i hi
   exact ⟨cell_own c.c0, cell_put (by omega) c.c1, fun j => by rw [World.frozen?_setCell]; exact c.fz j⟩
  ·rw [if_neg e]
   exact (h.cells j hj).far _ _ (by omega)
 ·rw [getD_set53 cur i j _ hil]
  by_cases e : i = j
  ·subst e
   rw [if_pos rfl]
   exact h.lens i hi
  ·rw [if_neg e]
   exact h.lens j hj
 ·have key : ((cur.set i ⟨s, (cur.getD i z53).f1⟩).getD j z53).f1 = (cur.getD j z53).f1 := by
   rw [getD_set53 cur i j _ hil]
   by_cases e : i = j
   ·subst e
    rw [if_pos rfl]
   ·rw [if_neg e]
  rw [key]
  have r := h.rows j hj a ha
  refine ⟨r.1.same (Below.heap_setCell _ ⟨g, i * 2, none⟩ _ _ (f.gG j hj)), Kd.R_far (p := ⟨g, i * 2, none⟩) r.2 (fun k hk e => f.gA j a hj ha (by rw [← hk, e])) _⟩
/-- An inner row marked. -/
theorem TS.inner (f : TF w0 g n G N C av) (h : TS w0 ws g n G N C av w cur) (i : Nat) (hi : i < n) (fs : List S38) (hm : MS w0 w (G i) (N i) (av i) w' fs) : TS w0 ws g n G N C av w' (cur.set i ⟨(cur.getD i z53).f0, fs⟩) := by
 have hil : i < cur.length := by rw [h.len]; exact hi
 have hk := hm.kept
 have hgl : g < w.heap.size := block_of (h.cells i hi).c0
 have hsame : w'.heap[g]? = w.heap[g]? := hk.2 g hgl (fun e => by
  rcases e with e | ⟨a, ha, e⟩
  ·exact f.gG i hi e.symm
  ·exact f.gA i a hi ha e.symm)
 refine ⟨by rw [List.length_set]; exact h.len, fun j hj => ?_, fun j hj => ?_, fun j hj a ha => ?_, hm.below, h.kept.then_ hk (fun k hk' => .inl (.inr ⟨i, hi, by rcases hk' with e | ⟨a, ha, e⟩; exact .inl e; exact .inr ⟨a, ha, e⟩⟩))⟩
 ·rw [getD_set53 cur i j _ hil]
  have c := (h.cells j hj).same hsame
  by_cases e : i = j
  ·subst e
   rw [if_pos rfl]
   exact c
  ·rw [if_neg e]
   exact c
 ·rw [getD_set53 cur i j _ hil]
  by_cases e : i = j
  ·subst e
   rw [if_pos rfl]
   exact hm.len
  ·rw [if_neg e]
   exact h.lens j hj
 ·rw [getD_set53 cur i j _ hil]
  by_cases e : i = j
  ·subst e
   rw [if_pos rfl]
   exact hm.rows a ha
  ·rw [if_neg e]
   have r := h.rows j hj a ha
   have hGj : G j < w.heap.size := block_of r.1.c0
   refine ⟨r.1.same (hk.2 (G j) hGj (fun e2 => ?_)), Kd.R_step r.2 (fun k hk' hkl => hk.2 k hkl (fun e2 => ?_))⟩
   ·rcases e2 with e2 | ⟨b, hb, e2⟩
    ·exact f.GG i j hi hj e e2.symm
    ·exact f.GA i j b hi hj e hb e2.symm
   ·rcases e2 with e2 | ⟨b, hb, e2⟩
    ·exact f.GA j i a hj hi (fun e3 => e e3.symm) ha (by rw [← e2]; exact hk'.symm)
    ·exact f.AA j i a b hj hi (fun e3 => e e3.symm) ha hb k hk'.symm e2.symm
theorem TS.start (h : TS w0 ws g n G N C av w cur) (i : Nat) (hi : i < n) : MS w0 w (G i) (N i) (av i) w (cur.getD i z53).f1 :=
 ⟨h.lens i hi, h.rows i hi, h.below, Kept.refl _ _⟩
theorem TF.mf (f : TF w0 g n G N C av) (w : World) (i : Nat) (hi : i < n) : MF w0 w (G i) (N i) (av i) := ⟨(f.inn i hi).hg, (f.inn i hi).ne, (f.inn i hi).dis⟩
theorem TS.one {i : Nat} {y z : S53} (hi : i < cur.length) (h : TS w0 ws g n G N C av w ((cur.set i y).set i z)) : TS w0 ws g n G N C av w (cur.set i z) := by rwa [List.set_set] at h
theorem TS.again (h : TS w0 ws g n G N C av w cur) : TS w0 w g n G N C av w cur := ⟨h.len, h.cells, h.lens, h.rows, h.below, Kept.refl _ _⟩
theorem TS.since {cur' : List S53} (h : TS w0 ws g n G N C av w cur) (h2 : TS w0 w g n G N C av w' cur') : TS w0 ws g n G N C av w' cur' := ⟨h2.len, h2.cells, h2.lens, h2.rows, h2.below, h.kept.then_ h2.kept (fun k hk => .inl hk)⟩
/-- All these blocks are there. -/
theorem TS.tb_lt (f : TF w0 g n G N C av) (hn : 0 < n) (h : TS w0 ws g n G N C av w cur) (b : Nat) (hb : TB g n G N av b) : b < w.heap.size := by
 rcases hb with rfl | ⟨i, hi, hb⟩
 ·exact block_of (h.cells 0 hn).c0
 ·rcases hb with rfl | ⟨a, ha, e⟩
  ·exact block_of (h.rows i hi 0 (f.nc i hi).2.2).1.c0
  ·obtain ⟨_, inner, ho, _⟩ := (h.rows i hi a ha).2
   obtain ⟨cells, hc⟩ := own_typed ho b e.symm
   exact blk_lt hc
theorem rows38_reads {w0 w : World} {g n : Nat} {fs : List S38} {av : Nat → Value} (hl : fs.length = n) (hn : n ≤ 9223372036854775807) (h : Rows38 w0 w g n fs av) : Kd.C k38 w (some ⟨g, 0, none⟩) n fs := by
 refine ⟨hl, hn, fun h0 => ⟨⟨g, 0, none⟩, rfl, fun j p hp => ?_⟩⟩
 have hj : j < n := by rw [← hl]; exact (List.getElem?_eq_some_iff.1 hp).1
 obtain ⟨hc, hr⟩ := h j hj
 have e : fs.getD j z38 = p := by rw [List.getD_eq_getElem?_getD, hp]; rfl
 rw [e] at hc hr
 obtain ⟨A, c, ea, hle, hC⟩ := Kd.R_reads hr
 refine ⟨[.string p.f0, .slice A p.f1.length c, .string p.f2, .bool p.f3, .bool p.f4], rfl, k38_mk w p hle hC, fun i u hu => ?_⟩
 rw [add_plain]
 show w.cell? ⟨g, j * 5 + i, none⟩ = _
 match i, hu with
 | 0, hu => rw [← Option.some.inj hu]; exact hc.c0
 | 1, hu => rw [← Option.some.inj hu, ← ea]; exact hc.c1
 | 2, hu => rw [← Option.some.inj hu]; exact hc.c2
 | 3, hu => rw [← Option.some.inj hu]; exact hc.c3
 | 4, hu => rw [← Option.some.inj hu]; exact hc.c4
theorem TS.reads (f : TF w0 g n G N C av) (h : TS w0 ws g n G N C av w cur) (hn : n ≤ 9223372036854775807) : Kd.C k53 w (some ⟨g, 0, none⟩) n cur := by
 refine ⟨h.len, hn, fun h0 => ⟨⟨g, 0, none⟩, rfl, fun j p hp => ?_⟩⟩
 have hj : j < n := by rw [← h.len]; exact (List.getElem?_eq_some_iff.1 hp).1
 have hc := h.cells j hj
 have hl := h.lens j hj
 have hr := h.rows j hj
 have e : cur.getD j z53 = p := by rw [List.getD_eq_getElem?_getD, hp]; rfl
 rw [e] at hc hl hr
 have nc := f.nc j hj
 have hC := rows38_reads (hl) (by omega) hr
 rw [← hl] at hC
 refine ⟨[.string p.f0, .slice (some ⟨G j, 0, none⟩) p.f1.length (C j)], rfl, k53_mk w p (by omega) hC, fun i u hu => ?_⟩
 rw [add_plain]
 show w.cell? ⟨g, j * 2 + i, none⟩ = _
 match i, hu with
 | 0, hu => rw [← Option.some.inj hu]; exact hc.c0
 | 1, hu => rw [← Option.some.inj hu, hl]; exact hc.c1
set_option maxHeartbeats 4000000 in
set_option maxRecDepth 100000 in
theorem mark42 (k n g c : Nat) (ts ts' : List S53) (hsz : n < 1000000) (G N C : Nat → Nat) (av : Nat → Nat → Value) (m m' : Int) (w0 w : World) (hc : n ≤ c) (hF : TF w0 g n G N C av) (hM : TS w0 w g n G N C av w ts) (h : mt k ts m = some (m', ts')) :
  Calls Try.prog 42 #[.slice (some ⟨g, 0, none⟩) n c, .int .i64 m] w fun e w' => e = .returned (.int .i64 m') ∧ TS w0 w g n G N C av w' ts' := by
 have hu53 := Try.underlying53
 have FF := Aside0.mk hF
 have HR := Aside0.mk hM
 have H := Aside0.mk h
 clear hM h hF
 go_enter Try.func42, Try.ntmps42
 go_wp2
 go_loopg [1, 5] n (fun kq v1 v5 wr => ∃ (i : Nat) (mc : Int) (cur rest' : List S53), v1 = .int .i64 mc ∧ v5 = .int .i64 i ∧ i ≤ n ∧ n - i ≤ kq ∧ Aside0 (mt k (cur.drop i) mc = some (m', rest')) ∧ Aside0 (ts' = cur.take i ++ rest') ∧ Aside0 (TS w0 w g n G N C av wr cur))
 case atStart => exact ⟨0, m, ts, ts', rfl, rfl, by omega, by omega, ⟨H.out⟩, ⟨rfl⟩, ⟨HR.out⟩⟩
 case round =>
  clear HR H
  obtain ⟨i, mc, cur, rest', rfl, rfl, hin, hkq, HM, HF, HR⟩ := hrel
  by_cases hlt : i < n
  ·have hltz : (i : Int) < (n : Int) := by omega
   have hil : i < cur.length := by rw [HR.out.len]; exact hlt
   have hdr : cur.drop i = cur.getD i z53 :: cur.drop (i + 1) := by
    rw [List.drop_eq_getElem_cons hil, List.getD_eq_getElem?_getD, List.getElem?_eq_getElem hil]; rfl
   have hm := HM.out
   rw [hdr, mt] at hm
   obtain ⟨s, hs, hm⟩ := Option.bind_eq_some_iff.1 hm
   obtain ⟨⟨m2, as2⟩, ha, hm⟩ := Option.bind_eq_some_iff.1 hm
   obtain ⟨⟨m9, r9⟩, h9, hm⟩ := Option.bind_eq_some_iff.1 hm
   have hm2 := Option.some.inj hm
   simp only [Prod.mk.injEq] at hm2
   obtain ⟨rfl, hm3⟩ := hm2
   clear hm hdr
   dsimp only at h9 hm3
   obtain ⟨x, hx⟩ : ∃ x, x = cur.getD i z53 := ⟨_, rfl⟩
   rw [← hx] at ha
   have hgx : ∀ y, (cur.set i y).getD i z53 = y := fun y => by rw [getD_set53 cur i i y hil, if_pos rfl]
   have HGX := Aside0.mk hgx
   have HS := Aside0.mk hs
   have HA := Aside0.mk ha
   have H9 := Aside0.mk h9
   have HM3 := Aside0.mk hm3
   have HX := Aside0.mk hx
   have HIL := Aside0.mk hil
   have HNC := Aside0.mk (FF.out.nc i hlt)
   clear hs ha h9 hm3 hx hgx hil
   have p1 : (0 : Int) ≤ (i : Int) := by omega
   have q1 : (i : Int) < (n : Int) := hltz
   go_wp2_with (first
    | (go_at_call 68; (with_reducible refine (laws_markText.calls k mc s _ HS.out).mono ?_); rintro e w2 ⟨rfl, hb2⟩; have M1 := Aside0.mk (HR.out.grow hb2); clear hb2; have d0 := (M1.out.cells i hlt).c0; have z0 := (M1.out.cells i hlt).fz (i * 2))
    | ((with_reducible refine gate_store (t := 9) (p := 17) rfl ?_); refine store_event (t := 9) (p := 17) (v := ?vo1) (w1 := (w2.setCell ⟨g, i * 2, none⟩ (.string s))) ?hg ?ho ?hn ?hr ?_; (case ho => rfl); (case hg => rfl); (case hn => rfl); (case hr => first | (go_simp; done) | (go_simp; rfl)); intro w3 hw; have M2 : Aside0 (TS w0 w g n G N C av w3 (cur.set i ⟨s, x.f1⟩)) := ⟨by rw [hw]; have h_ := M1.out.put0 FF.out i hlt s; rw [← HX.out] at h_; exact h_⟩; clear hw d0 z0 M1; have d1 := (M2.out.cells i hlt).c1)
    | (go_at_call 69; have h1 := M2.out.start i hlt; rw [HGX.out] at h1; have h2 := mark69 k (N i) (G i) (C i) x.f1 as2 HNC.out.2.1 (av i) (wrap64 (mc + 1)) m2 w0 w3 HNC.out.1 (FF.out.mf w3 i hlt) h1 HA.out; refine h2.mono ?_; rintro e w4 ⟨rfl, hM4⟩; have h_ := M2.out.inner FF.out i hlt as2 hM4; rw [HGX.out] at h_; have M3 := Aside0.mk (TS.one HIL.out h_); clear h_ hM4 h1 h2 M2 d1))
   go_roundg (n - (i + 1))
   case measure => omega
   case rel =>
    refine ⟨i + 1, _, cur.set i ⟨s, as2⟩, r9, rfl, by first | rfl | go_num | (congr 1; unfold wrap64; omega), by omega, Nat.le_refl _, ⟨?_⟩, ⟨?_⟩, ⟨M3.out⟩⟩
    ·rw [List.drop_set_of_lt (by omega)]
     exact H9.out
    ·have e : (cur.set i (⟨s, as2⟩ : S53)).take (i + 1) = cur.take i ++ [⟨s, as2⟩] := by
      rw [List.take_add_one, List.take_set_of_le (Nat.le_refl _), List.getElem?_set_self HIL.out]; rfl
     rw [e, HF.out, ← HM3.out, List.append_assoc]
     rfl
  ·have hltz : ¬ (i : Int) < (n : Int) := by omega
   have hi : i = n := by omega
   have hl : cur.drop i = [] := List.drop_of_length_le (by rw [HR.out.len]; omega)
   have hm := HM.out
   rw [hl, mt] at hm
   have hm2 := Option.some.inj hm
   simp only [Prod.mk.injEq] at hm2
   have HE : Aside0 (ts' = cur) := ⟨by rw [HF.out, ← hm2.2, List.append_nil, List.take_of_length_le (by rw [HR.out.len]; omega)]⟩
   have HE2 : Aside0 (mc = m') := ⟨hm2.1⟩
   clear hm hm2 hl hi
   go_wp2
   go_ret
   exact ⟨by rw [← HE2.out]; rfl, by rw [HE.out]; exact HR.out⟩
set_option maxHeartbeats 4000000 in
set_option maxRecDepth 100000 in
theorem mark18 (k n g c : Nat) (ts ts' : List S53) (hsz : n < 1000000) (G N C : Nat → Nat) (av : Nat → Nat → Value) (m m' : Int) (w0 w : World) (hc : n ≤ c) (hF : TF w0 g n G N C av) (hM : TS w0 w g n G N C av w ts) (h : mt k ts m = some (m', ts')) :
  Calls Try.prog 18 #[.agg #[.slice (some ⟨g, 0, none⟩) n c], .int .i64 m] w fun e w' => e = .returned (.int .i64 m') ∧ TS w0 w g n G N C av w' ts' := by
 have hu29 := Try.underlying29
 have HM := Aside0.mk hM
 clear hM
 go_enter Try.func18, Try.ntmps18
 go_wp2_with (first
  | ((with_reducible refine gate_dst (N := 2) rfl ?_); refine box_event ?hg (N := 2) ?hd (cs := #[.slice (some ⟨g, 0, none⟩) n c]) (t := 29) ?hr ?_; (case hd => rfl); (case hg => rfl); (case hr => first | (go_simp; done) | (go_simp; rfl)); intro gb hg w5 hbox hb; have HM2 := Aside0.mk (HM.out.grow hb); have hcz_0 : w5.cell? ⟨gb, 0, none⟩ = some (.slice (some ⟨g, 0, none⟩) n c) := (blk_cell hbox 0).trans rfl; have hfz_0 := blk_frozen hbox 0; clear hb hbox hg HM)
  | (go_at_call 42; (with_reducible refine (mark42 k n g c ts ts' hsz G N C av m m' w0 _ hc hF HM2.out.again h).mono ?_); rintro e w6 ⟨rfl, hT⟩; have HT := Aside0.mk (HM2.out.since hT); clear hT))
 go_ret
 exact ⟨rfl, HT.out⟩
end Go.Proofs.Ytoogmlghfljeiaa.Q
namespace Go.Proofs.Ytoogmlghfljeiaa.Q
open Go.RowKit Go.Proofs.YtoogmlghfljeiaaW.PrintWords Go.Proofs.YtoogmlghfljeiaaW.PrintLast Go.Proofs.YtoogmlghfljeiaaW.PrintMore
set_option linter.unusedVariables false
set_option linter.unusedSimpArgs false
def psB : Nat → Nat
 | 0 => 8
 | 1 => 22
 | _ => 31
def psN : Nat → Nat
 | 0 => 4
 | 1 => 3
 | _ => 5
def psA : Nat → Nat → Nat
 | 0, 0 => 1
 | 0, 1 => 4
 | 1, 0 => 12
 | 1, 1 => 16
 | 1, 2 => 20
 | 2, 2 => 27
 | _, _ => 35
def psV (vs : Nat → Value) (i a : Nat) : Value := if psA i a = 35 then .slice none 0 0 else vs (psA i a)
theorem psA_in : ∀ i, i < 3 → ∀ a, a < 5 → psA i a = 35 ∨ psA i a ∈ [1, 4, 12, 16, 20, 27] := by decide
theorem psA_b : ∀ i, i < 3 → ∀ a, a < 5 → ∀ j, j < 3 → psA i a ≠ psB j ∧ psA i a ≠ 33 := by decide
theorem psA_inj0 : ∀ i, i < 3 → ∀ a, a < 5 → ∀ j, j < 3 → ∀ b, b < 5 → (psA i a == 35 || (i == j && a == b) || !(psA i a == psA j b)) = true := by decide
theorem psA_inj (i : Nat) (hi : i < 3) (a : Nat) (ha : a < 5) (j : Nat) (hj : j < 3) (b : Nat) (hb : b < 5) (h1 : psA i a ≠ 35) (h2 : i ≠ j ∨ a ≠ b) : psA i a ≠ psA j b := fun e => by
 have h := psA_inj0 i hi a ha j hj b hb
 simp only [e, beq_self_eq_true, Bool.not_true, Bool.or_false, Bool.or_eq_true, beq_iff_eq, Bool.and_eq_true] at h
 rcases h with h | h
 ·exact h1 (e.trans h)
 ·rcases h2 with h2 | h2
  ·exact h2 h.1
  ·exact h2 h.2
theorem psB_inj : ∀ i, i < 3 → ∀ j, j < 3 → i ≠ j → psB i ≠ psB j := by decide
theorem psB_in : ∀ i, i < 3 → psB i ∈ [1, 4, 12, 16, 20, 27, 8, 22, 31, 33] ∧ psB i ≠ 33 := by decide
theorem psN_le : ∀ i, i < 3 → psN i ≤ 5 := by decide
theorem psN_pos : ∀ i, i < 3 → 0 < psN i := by decide
theorem ps_in : ∀ q ∈ [1, 4, 12, 16, 20, 27, 8, 22, 31, 33], q < 35 := by decide
theorem b36_in : ∀ q ∈ [1, 4, 12, 16, 20, 27], q ∈ [1, 4, 12, 16, 20, 27, 8, 22, 31, 33] := by decide
theorem ps_slice (vs : Nat → Value) (w : World) (lo hi : Nat → Nat) (h : ∀ i, i < 35 → psPhi i vs w (lo i) (hi i)) : ∀ q ∈ [1, 4, 12, 16, 20, 27], (vs q).ownBlock = some (lo q) := by
 intro q hq
 simp only [List.mem_cons, List.not_mem_nil, or_false] at hq
 rcases hq with rfl | rfl | rfl | rfl | rfl | rfl
 ·rw [(h 1 (by omega)).1]; rfl
 ·rw [(h 4 (by omega)).1]; rfl
 ·rw [(h 12 (by omega)).1]; rfl
 ·rw [(h 16 (by omega)).1]; rfl
 ·rw [(h 20 (by omega)).1]; rfl
 ·rw [(h 27 (by omega)).1]; rfl
theorem ps_own (vs : Nat → Value) (w : World) (lo hi : Nat → Nat) (h : ∀ i, i < 35 → psPhi i vs w (lo i) (hi i)) (i a : Nat) (hi_ : i < 3) (ha : a < 5) (k : Nat) (hk : (psV vs i a).ownBlock = some k) : psA i a ≠ 35 ∧ psA i a ∈ [1, 4, 12, 16, 20, 27, 8, 22, 31, 33] ∧ k = lo (psA i a) := by
 unfold psV at hk
 by_cases e : psA i a = 35
 ·rw [if_pos e] at hk; cases hk
 ·rw [if_neg e] at hk
  have hm := (psA_in i hi_ a ha).resolve_left e
  rw [ps_slice vs w lo hi h _ hm] at hk
  exact ⟨e, b36_in _ hm, (Option.some.inj hk).symm⟩
theorem ps_TF (w0 : World) (vs : Nat → Value) (w : World) (lo hi : Nat → Nat) (h : ∀ i, i < 35 → psPhi i vs w (lo i) (hi i)) (hb : ∀ i, i < 35 → w0.heap.size ≤ lo i) (hne : ∀ i j, i < 35 → j < 35 → i ≠ j → i ∈ [1, 4, 12, 16, 20, 27, 8, 22, 31, 33] → j ∈ [1, 4, 12, 16, 20, 27, 8, 22, 31, 33] → lo i ≠ lo j) : TF w0 (lo 33) 3 (fun i => lo (psB i)) psN psN (psV vs) := by
 have hn : ∀ p q, p ∈ [1, 4, 12, 16, 20, 27, 8, 22, 31, 33] → q ∈ [1, 4, 12, 16, 20, 27, 8, 22, 31, 33] → p ≠ q → lo p ≠ lo q := fun p q hp hq e => hne p q (ps_in p hp) (ps_in q hq) e hp hq
 have h33 : 33 ∈ [1, 4, 12, 16, 20, 27, 8, 22, 31, 33] := by decide
 have own := ps_own vs w lo hi h
 refine ⟨hb 33 (by omega), fun i hi => ⟨hb _ (ps_in _ (psB_in i hi).1), fun a ha e => ?_, fun a b ha hb' hab k e1 e2 => ?_⟩, fun i hi => ⟨Nat.le_refl _, ⟨by have := psN_le i hi; omega, psN_pos i hi⟩⟩, fun i hi => hn _ _ (psB_in i hi).1 h33 (psB_in i hi).2, fun i a hi ha e => ?_, fun i j hi hj hij => hn _ _ (psB_in i hi).1 (psB_in j hj).1 (psB_inj i hi j hj hij), fun i j a hi hj hij ha e => ?_, fun i j a b hi hj hij ha hb' k e1 e2 => ?_⟩
 ·have l := psN_le i hi
  obtain ⟨o1, o2, o3⟩ := own i a hi (by omega) _ e
  exact hn _ _ (psB_in i hi).1 o2 (fun e2 => (psA_b i hi a (by omega) i hi).1 e2.symm) o3
 ·have l := psN_le i hi
  obtain ⟨o1, o2, o3⟩ := own i a hi (by omega) _ e1
  obtain ⟨q1, q2, q3⟩ := own i b hi (by omega) _ e2
  exact hn _ _ o2 q2 (psA_inj i hi a (by omega) i hi b (by omega) o1 (.inr hab)) (o3.symm.trans q3)
 ·have l := psN_le i hi
  obtain ⟨o1, o2, o3⟩ := own i a hi (by omega) _ e
  exact hn _ _ h33 o2 (fun e2 => (psA_b i hi a (by omega) i hi).2 e2.symm) o3
 ·have l := psN_le i hi
  obtain ⟨o1, o2, o3⟩ := own i a hi (by omega) _ e
  exact hn _ _ (psB_in j hj).1 o2 (fun e2 => (psA_b i hi a (by omega) j hj).1 e2.symm) o3
 ·have l := psN_le i hi
  have l2 := psN_le j hj
  obtain ⟨o1, o2, o3⟩ := own i a hi (by omega) _ e1
  obtain ⟨q1, q2, q3⟩ := own j b hj (by omega) _ e2
  exact hn _ _ o2 q2 (psA_inj i hi a (by omega) j hj b (by omega) o1 (.inl hij)) (o3.symm.trans q3)
theorem ps_fc0 (vs : Nat → Value) (w : World) (lo hi : Nat → Nat) (h : ∀ i, i < 35 → psPhi i vs w (lo i) (hi i)) : ∀ a, a < 4 → FC w (lo 8) a ((psL.getD 0 z53).f1.getD a z38) (psV vs 0 a) := by
 obtain ⟨_, hc, _⟩ := h 8 (by omega)
 intro a ha
 rcases (show a = 0 ∨ a = 1 ∨ a = 2 ∨ a = 3 by omega) with rfl | rfl | rfl | rfl
 ·exact ⟨(blk_cell hc 0).trans rfl, (blk_cell hc 1).trans rfl, (blk_cell hc 2).trans rfl, (blk_cell hc 3).trans rfl, (blk_cell hc 4).trans rfl, fun j => blk_frozen hc j⟩
 ·exact ⟨(blk_cell hc 5).trans rfl, (blk_cell hc 6).trans rfl, (blk_cell hc 7).trans rfl, (blk_cell hc 8).trans rfl, (blk_cell hc 9).trans rfl, fun j => blk_frozen hc j⟩
 ·exact ⟨(blk_cell hc 10).trans rfl, (blk_cell hc 11).trans rfl, (blk_cell hc 12).trans rfl, (blk_cell hc 13).trans rfl, (blk_cell hc 14).trans rfl, fun j => blk_frozen hc j⟩
 ·exact ⟨(blk_cell hc 15).trans rfl, (blk_cell hc 16).trans rfl, (blk_cell hc 17).trans rfl, (blk_cell hc 18).trans rfl, (blk_cell hc 19).trans rfl, fun j => blk_frozen hc j⟩
theorem ps_fc1 (vs : Nat → Value) (w : World) (lo hi : Nat → Nat) (h : ∀ i, i < 35 → psPhi i vs w (lo i) (hi i)) : ∀ a, a < 3 → FC w (lo 22) a ((psL.getD 1 z53).f1.getD a z38) (psV vs 1 a) := by
 obtain ⟨_, hc, _⟩ := h 22 (by omega)
 intro a ha
 rcases (show a = 0 ∨ a = 1 ∨ a = 2 by omega) with rfl | rfl | rfl
 ·exact ⟨(blk_cell hc 0).trans rfl, (blk_cell hc 1).trans rfl, (blk_cell hc 2).trans rfl, (blk_cell hc 3).trans rfl, (blk_cell hc 4).trans rfl, fun j => blk_frozen hc j⟩
 ·exact ⟨(blk_cell hc 5).trans rfl, (blk_cell hc 6).trans rfl, (blk_cell hc 7).trans rfl, (blk_cell hc 8).trans rfl, (blk_cell hc 9).trans rfl, fun j => blk_frozen hc j⟩
 ·exact ⟨(blk_cell hc 10).trans rfl, (blk_cell hc 11).trans rfl, (blk_cell hc 12).trans rfl, (blk_cell hc 13).trans rfl, (blk_cell hc 14).trans rfl, fun j => blk_frozen hc j⟩
theorem ps_fc2 (vs : Nat → Value) (w : World) (lo hi : Nat → Nat) (h : ∀ i, i < 35 → psPhi i vs w (lo i) (hi i)) : ∀ a, a < 5 → FC w (lo 31) a ((psL.getD 2 z53).f1.getD a z38) (psV vs 2 a) := by
 obtain ⟨_, hc, _⟩ := h 31 (by omega)
 intro a ha
 rcases (show a = 0 ∨ a = 1 ∨ a = 2 ∨ a = 3 ∨ a = 4 by omega) with rfl | rfl | rfl | rfl | rfl
 ·exact ⟨(blk_cell hc 0).trans rfl, (blk_cell hc 1).trans rfl, (blk_cell hc 2).trans rfl, (blk_cell hc 3).trans rfl, (blk_cell hc 4).trans rfl, fun j => blk_frozen hc j⟩
 ·exact ⟨(blk_cell hc 5).trans rfl, (blk_cell hc 6).trans rfl, (blk_cell hc 7).trans rfl, (blk_cell hc 8).trans rfl, (blk_cell hc 9).trans rfl, fun j => blk_frozen hc j⟩
 ·exact ⟨(blk_cell hc 10).trans rfl, (blk_cell hc 11).trans rfl, (blk_cell hc 12).trans rfl, (blk_cell hc 13).trans rfl, (blk_cell hc 14).trans rfl, fun j => blk_frozen hc j⟩
 ·exact ⟨(blk_cell hc 15).trans rfl, (blk_cell hc 16).trans rfl, (blk_cell hc 17).trans rfl, (blk_cell hc 18).trans rfl, (blk_cell hc 19).trans rfl, fun j => blk_frozen hc j⟩
 ·exact ⟨(blk_cell hc 20).trans rfl, (blk_cell hc 21).trans rfl, (blk_cell hc 22).trans rfl, (blk_cell hc 23).trans rfl, (blk_cell hc 24).trans rfl, fun j => blk_frozen hc j⟩
theorem ps_TS (w0 : World) (vs : Nat → Value) (w : World) (lo hi : Nat → Nat) (h : ∀ i, i < 35 → psPhi i vs w (lo i) (hi i)) (hb : ∀ i, i < 35 → w0.heap.size ≤ lo i) (hB : Below w0.heap.size w0 w) : TS w0 w (lo 33) 3 (fun i => lo (psB i)) psN psN (psV vs) w psL := by
 refine ⟨rfl, fun i hi' => ?_, fun i hi' => ?_, fun i hi' => ?_, hB, Kept.refl _ _⟩
 ·obtain ⟨_, hc, _⟩ := h 33 (by omega)
  rcases (show i = 0 ∨ i = 1 ∨ i = 2 by omega) with rfl | rfl | rfl
  ·exact ⟨(blk_cell hc 0).trans rfl, (blk_cell hc 1).trans (congrArg some (h 8 (by omega)).1), fun j => blk_frozen hc j⟩
  ·exact ⟨(blk_cell hc 2).trans rfl, (blk_cell hc 3).trans (congrArg some (h 22 (by omega)).1), fun j => blk_frozen hc j⟩
  ·exact ⟨(blk_cell hc 4).trans rfl, (blk_cell hc 5).trans (congrArg some (h 31 (by omega)).1), fun j => blk_frozen hc j⟩
 ·rcases (show i = 0 ∨ i = 1 ∨ i = 2 by omega) with rfl | rfl | rfl <;> rfl
 ·rcases (show i = 0 ∨ i = 1 ∨ i = 2 by omega) with rfl | rfl | rfl
  ·intro a ha
   replace ha : a < 4 := ha
   refine ⟨ps_fc0 vs w lo hi h a ha, ?_⟩
   rcases (show a = 0 ∨ a = 1 ∨ a = 2 ∨ a = 3 by omega) with rfl | rfl | rfl | rfl
   ·exact ps_row1 vs w w0.heap.size (lo 1) (hi 1) _ (h 1 (by omega)) (ps_slice vs w lo hi h 1 (by decide)).symm (hb 1 (by omega))
   ·exact ps_row4 vs w w0.heap.size (lo 4) (hi 4) _ (h 4 (by omega)) (ps_slice vs w lo hi h 4 (by decide)).symm (hb 4 (by omega))
   ·exact Kd.R_nil _ _ _ _ _
   ·exact Kd.R_nil _ _ _ _ _
  ·intro a ha
   replace ha : a < 3 := ha
   refine ⟨ps_fc1 vs w lo hi h a ha, ?_⟩
   rcases (show a = 0 ∨ a = 1 ∨ a = 2 by omega) with rfl | rfl | rfl
   ·exact ps_row12 vs w w0.heap.size (lo 12) (hi 12) _ (h 12 (by omega)) (ps_slice vs w lo hi h 12 (by decide)).symm (hb 12 (by omega))
   ·exact ps_row16 vs w w0.heap.size (lo 16) (hi 16) _ (h 16 (by omega)) (ps_slice vs w lo hi h 16 (by decide)).symm (hb 16 (by omega))
   ·exact ps_row20 vs w w0.heap.size (lo 20) (hi 20) _ (h 20 (by omega)) (ps_slice vs w lo hi h 20 (by decide)).symm (hb 20 (by omega))
  ·intro a ha
   replace ha : a < 5 := ha
   refine ⟨ps_fc2 vs w lo hi h a ha, ?_⟩
   rcases (show a = 0 ∨ a = 1 ∨ a = 2 ∨ a = 3 ∨ a = 4 by omega) with rfl | rfl | rfl | rfl | rfl
   ·exact Kd.R_nil _ _ _ _ _
   ·exact Kd.R_nil _ _ _ _ _
   ·exact ps_row27 vs w w0.heap.size (lo 27) (hi 27) _ (h 27 (by omega)) (ps_slice vs w lo hi h 27 (by decide)).symm (hb 27 (by omega))
   ·exact Kd.R_nil _ _ _ _ _
   ·exact Kd.R_nil _ _ _ _ _
end Go.Proofs.Ytoogmlghfljeiaa.Q
