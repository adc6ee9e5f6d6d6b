/- Texts of the claim on FnExactFieldAt, gathered by a program of this session: what the program's functions compute (proved by walks), and the plain part. -/
import Derived.Test.YtoogmlghfljeiaaProg
import Derived.Shelf.Abstract
import Derived.Lib.SliceRun
import Derived.Below
import Derived.Deep.Draws
import Derived.Deep.AppendLies
import Derived.Maps.AppendAt
import Derived.OwnWalk
import Derived.Laws.BytesArg
import Derived.Laws.MakeOwn
import Derived.Laws.OwnMore
import Derived.Deep.OwnRows
import Derived.Tactics
import Derived.Lib.ConvBytes
import Derived.Laws.Slices
import Derived.WalkKit
import Derived.KernelRfl
import Derived.RowKit3
import Derived.Deep.LoopGhost
import Derived.Deep.QuietTactic
import Derived.BigQuiet
import Derived.WideLaws
import Derived.Deep.DeepCutAuto
import Derived.Deep.CutBlock
import Derived.Deep.RegionHeld3
import Derived.Laws.Rows
import Derived.Lib.AppendStr
import Derived.ArgAppend
import Derived.Laws.IdiomCopy
import Derived.OrdersHeld
import Derived.Laws.BitsLemmas
import Derived.RowKit
import Derived.Test.YtoogmlghfljeiaaKFnExactFieldAtWWords
import Derived.Test.YtoogmlghfljeiaaKFnExactFieldAtWLast
import Derived.Test.YtoogmlghfljeiaaKFnExactFieldAtWTab
import Derived.Test.YtoogmlghfljeiaaKFnExactFieldAtWQPut
import Derived.Test.YtoogmlghfljeiaaKFnExactFieldAtWApart
import Derived.Test.YtoogmlghfljeiaaKFnExactFieldAtWArr
import Derived.Test.YtoogmlghfljeiaaKFnExactFieldAtWZeros
import Derived.Test.YtoogmlghfljeiaaKFnExactFieldAtWFoot
import Derived.Test.YtoogmlghfljeiaaKFnExactFieldAtWKept
import Derived.Test.YtoogmlghfljeiaaKFnExactFieldAtWShare
import Derived.Test.YtoogmlghfljeiaaKFnExactFieldAtWN
import Derived.Test.YtoogmlghfljeiaaKFnExactFieldAtWRepsOne
import Derived.Test.YtoogmlghfljeiaaKFnExactFieldAtWGuard
import Derived.Test.YtoogmlghfljeiaaKFnExactFieldAtWNEv
import Derived.Test.YtoogmlghfljeiaaKFnExactFieldAtWMore
namespace Go.Proofs.Ytoogmlghfljeiaa.Q
open Go.RowKit Go.Proofs.YtoogmlghfljeiaaW.PrintWords Go.Proofs.YtoogmlghfljeiaaW.PrintLast Go.Proofs.YtoogmlghfljeiaaW.PrintMore
attribute [local go_sem] max2_int min2_int max_two min_two max_three min_three max_four min_four
set_option linter.unusedVariables false
set_option linter.unusedSimpArgs false



def errW : Option Int → Value
 | none => .nilIface
 | some c => .iface 0 (.int .i64 c)
theorem errW_none : errW none = .nilIface := rfl
theorem errW_some (c : Int) : errW (some c) = .iface 0 (.int .i64 c) := rfl

theorem info5 : (Try.prog.info? 5).map (fun i => (i.zero, i.size, i.bytes)) = some (some (.int .u8 0), 1, 1) := by kernel_rfl
theorem info9 : (Try.prog.info? 9).map (fun i => (i.zero, i.size, i.bytes)) = some (some (.string ⟨#[]⟩), 1, 16) := by kernel_rfl
theorem info38 : (Try.prog.info? 38).map (fun i => (i.zero, i.size, i.bytes)) = some (some (.agg #[(.string ⟨#[]⟩), (.slice none 0 0), (.string ⟨#[]⟩), (.bool false), (.bool false)]), 5, 64) := by kernel_rfl
theorem info53 : (Try.prog.info? 53).map (fun i => (i.zero, i.size, i.bytes)) = some (some (.agg #[(.string ⟨#[]⟩), (.slice none 0 0)]), 2, 40) := by kernel_rfl
theorem info57 : (Try.prog.info? 57).map (fun i => (i.zero, i.size, i.bytes)) = some (some (.agg #[(.string ⟨#[]⟩), (.bool false)]), 2, 24) := by kernel_rfl
-- the values' own types
/-! #### struct type 106 -/
structure S106 where
 f0 : ByteArray
 f1 : Bool
def z106 : S106 := ⟨(⟨#[]⟩ : ByteArray), false⟩
def k106 : Kd S106 := Kd.iso (Kd.pair Kd.string Kd.bool) (fun x : S106 => (x.f0, x.f1))
theorem k106_open {w : World} {x : S106} {cs : List Value} (h : k106.K w x cs) : cs = [.string x.f0, .bool x.f1] := by
 obtain ⟨_, _, rfl, rfl, rfl⟩ := h
 exact rfl
theorem k106_openM {w : World} {base : Nat} {ok : Nat → Prop} {x : S106} {cs : List Value} (h : k106.M w base ok x cs) : cs = [.string x.f0, .bool x.f1] := by
 obtain ⟨_, _, rfl, rfl, rfl⟩ := h
 exact rfl
theorem k106_mk (w : World) (x : S106)  : k106.K w x [.string x.f0, .bool x.f1] := ⟨[.string x.f0], [.bool x.f1], rfl, rfl, rfl⟩
theorem k106_mkM (w : World) (base : Nat) (ok : Nat → Prop) (x : S106)  : k106.M w base ok x [.string x.f0, .bool x.f1] := ⟨[.string x.f0], [.bool x.f1], rfl, rfl, rfl⟩
def rd_T106 (xs : List S106) (i : Int) : S106 := xs.getD i.toNat z106
theorem at_T106 {w : World} {A : Option Addr} {n : Nat} {xs : List S106} (h : Kd.C k106 w A n xs) (i : Int) (h0 : 0 ≤ i) (h1 : i < n) : ∃ ad , A = some ad ∧ w.cell? (ad.add (i.toNat * 2)) = some (.string (rd_T106 xs i).f0) ∧ w.cell? ⟨(ad.add (i.toNat * 2)).block, (ad.add (i.toNat * 2)).off + 1, none⟩ = some (.bool (rd_T106 xs i).f1) := by
 obtain ⟨ad, c, e, _, hK, hc0⟩ := Kd.C_get h z106 i h0 h1
 have hc : ∀ j u, c[j]? = some u → w.cell? (ad.add (i.toNat * 2 + j)) = some u := hc0
 obtain rfl := k106_open hK
 exact ⟨ad, e, hc 0 _ rfl, by rw [← add_field _ _ 1 (by omega)]; exact hc 1 _ rfl⟩

def rd_L3 (xs : List (List S106)) (i : Int) : (List S106) := xs.getD i.toNat ([] : List S106)
theorem at_L3 {w : World} {A : Option Addr} {n : Nat} {xs : List (List S106)} (h : Kd.C (Kd.slice 106 k106) w A n xs) (i : Int) (h0 : 0 ≤ i) (h1 : i < n) : ∃ ad A0 c0, A = some ad ∧ w.cell? (ad.add i.toNat) = some (.slice A0 (rd_L3 xs i).length c0) ∧ (rd_L3 xs i).length ≤ c0 ∧ k106.C w A0 (rd_L3 xs i).length (rd_L3 xs i) := by
 obtain ⟨ad, c, e, _, hK, hc0⟩ := Kd.C_get h ([] : List S106) i h0 h1
 have hc : ∀ j u, c[j]? = some u → w.cell? (ad.add (i.toNat * 1 + j)) = some u := hc0
 obtain ⟨A0, c0, rfl, l0, g0⟩ := hK
 exact ⟨ad, A0, c0, e, by have hq := hc 0 _ rfl; rwa [Nat.mul_one, Nat.add_zero] at hq, l0, g0⟩

/-! #### struct type 101 -/
structure S101 where
 f0 : ByteArray
 f1 : (List S106)
 f2 : ByteArray
 f3 : Bool
 f4 : Bool
def z101 : S101 := ⟨(⟨#[]⟩ : ByteArray), ([] : List S106), (⟨#[]⟩ : ByteArray), false, false⟩
def k101 : Kd S101 := Kd.iso (Kd.pair Kd.string (Kd.pair (Kd.slice 106 k106) (Kd.pair Kd.string (Kd.pair Kd.bool Kd.bool)))) (fun x : S101 => (x.f0, x.f1, x.f2, x.f3, x.f4))
theorem k101_open {w : World} {x : S101} {cs : List Value} (h : k101.K w x cs) : ∃ A1 c1, cs = [.string x.f0, .slice A1 x.f1.length c1, .string x.f2, .bool x.f3, .bool x.f4] ∧ x.f1.length ≤ c1 ∧ k106.C w A1 x.f1.length x.f1 := by
 obtain ⟨_, _, rfl, rfl, ⟨_, _, rfl, ⟨A1, c1, rfl, l1, g1⟩, ⟨_, _, rfl, rfl, ⟨_, _, rfl, rfl, rfl⟩⟩⟩⟩ := h
 exact ⟨A1, c1, rfl, l1, g1⟩
theorem k101_openM {w : World} {base : Nat} {ok : Nat → Prop} {x : S101} {cs : List Value} (h : k101.M w base ok x cs) : ∃ v1, cs = [.string x.f0, v1, .string x.f2, .bool x.f3, .bool x.f4] ∧ k106.R 106 w base ok v1 x.f1 := by
 obtain ⟨_, _, rfl, rfl, ⟨_, _, rfl, ⟨v1, rfl, g1⟩, ⟨_, _, rfl, rfl, ⟨_, _, rfl, rfl, rfl⟩⟩⟩⟩ := h
 exact ⟨v1, rfl, g1⟩
theorem k101_mk (w : World) (x : S101) {A1 : Option Addr} {c1 : Nat} (l1 : x.f1.length ≤ c1) (g1 : k106.C w A1 x.f1.length x.f1) : k101.K w x [.string x.f0, .slice A1 x.f1.length c1, .string x.f2, .bool x.f3, .bool x.f4] := ⟨[.string x.f0], [.slice A1 x.f1.length c1, .string x.f2, .bool x.f3, .bool x.f4], rfl, rfl, ⟨[.slice A1 x.f1.length c1], [.string x.f2, .bool x.f3, .bool x.f4], rfl, ⟨A1, c1, rfl, l1, g1⟩, ⟨[.string x.f2], [.bool x.f3, .bool x.f4], rfl, rfl, ⟨[.bool x.f3], [.bool x.f4], rfl, rfl, rfl⟩⟩⟩⟩
theorem k101_mkM (w : World) (base : Nat) (ok : Nat → Prop) (x : S101) {v1 : Value} (g1 : k106.R 106 w base ok v1 x.f1) : k101.M w base ok x [.string x.f0, v1, .string x.f2, .bool x.f3, .bool x.f4] := ⟨[.string x.f0], [v1, .string x.f2, .bool x.f3, .bool x.f4], rfl, rfl, ⟨[v1], [.string x.f2, .bool x.f3, .bool x.f4], rfl, ⟨v1, rfl, g1⟩, ⟨[.string x.f2], [.bool x.f3, .bool x.f4], rfl, rfl, ⟨[.bool x.f3], [.bool x.f4], rfl, rfl, rfl⟩⟩⟩⟩
def rd_T101 (xs : List S101) (i : Int) : S101 := xs.getD i.toNat z101
theorem at_T101 {w : World} {A : Option Addr} {n : Nat} {xs : List S101} (h : Kd.C k101 w A n xs) (i : Int) (h0 : 0 ≤ i) (h1 : i < n) : ∃ ad A1 c1, A = some ad ∧ w.cell? (ad.add (i.toNat * 5)) = some (.string (rd_T101 xs i).f0) ∧ w.cell? ⟨(ad.add (i.toNat * 5)).block, (ad.add (i.toNat * 5)).off + 1, none⟩ = some (.slice A1 (rd_T101 xs i).f1.length c1) ∧ w.cell? ⟨(ad.add (i.toNat * 5)).block, (ad.add (i.toNat * 5)).off + 2, none⟩ = some (.string (rd_T101 xs i).f2) ∧ w.cell? ⟨(ad.add (i.toNat * 5)).block, (ad.add (i.toNat * 5)).off + 3, none⟩ = some (.bool (rd_T101 xs i).f3) ∧ w.cell? ⟨(ad.add (i.toNat * 5)).block, (ad.add (i.toNat * 5)).off + 4, none⟩ = some (.bool (rd_T101 xs i).f4) ∧ (rd_T101 xs i).f1.length ≤ c1 ∧ k106.C w A1 (rd_T101 xs i).f1.length (rd_T101 xs i).f1 := by
 obtain ⟨ad, c, e, _, hK, hc0⟩ := Kd.C_get h z101 i h0 h1
 have hc : ∀ j u, c[j]? = some u → w.cell? (ad.add (i.toNat * 5 + j)) = some u := hc0
 obtain ⟨A1, c1, rfl, l1, g1⟩ := k101_open hK
 exact ⟨ad, A1, c1, e, hc 0 _ rfl, by rw [← add_field _ _ 1 (by omega)]; exact hc 1 _ rfl, by rw [← add_field _ _ 2 (by omega)]; exact hc 2 _ rfl, by rw [← add_field _ _ 3 (by omega)]; exact hc 3 _ rfl, by rw [← add_field _ _ 4 (by omega)]; exact hc 4 _ rfl, l1, g1⟩

def rd_L5 (xs : List (List S101)) (i : Int) : (List S101) := xs.getD i.toNat ([] : List S101)
theorem at_L5 {w : World} {A : Option Addr} {n : Nat} {xs : List (List S101)} (h : Kd.C (Kd.slice 101 k101) w A n xs) (i : Int) (h0 : 0 ≤ i) (h1 : i < n) : ∃ ad A0 c0, A = some ad ∧ w.cell? (ad.add i.toNat) = some (.slice A0 (rd_L5 xs i).length c0) ∧ (rd_L5 xs i).length ≤ c0 ∧ k101.C w A0 (rd_L5 xs i).length (rd_L5 xs i) := by
 obtain ⟨ad, c, e, _, hK, hc0⟩ := Kd.C_get h ([] : List S101) i h0 h1
 have hc : ∀ j u, c[j]? = some u → w.cell? (ad.add (i.toNat * 1 + j)) = some u := hc0
 obtain ⟨A0, c0, rfl, l0, g0⟩ := hK
 exact ⟨ad, A0, c0, e, by have hq := hc 0 _ rfl; rwa [Nat.mul_one, Nat.add_zero] at hq, l0, g0⟩

/-! #### struct type 77 -/
structure S77 where
 f0 : ByteArray
 f1 : (List S101)
def z77 : S77 := ⟨(⟨#[]⟩ : ByteArray), ([] : List S101)⟩
def k77 : Kd S77 := Kd.iso (Kd.pair Kd.string (Kd.slice 101 k101)) (fun x : S77 => (x.f0, x.f1))
theorem k77_open {w : World} {x : S77} {cs : List Value} (h : k77.K w x cs) : ∃ A1 c1, cs = [.string x.f0, .slice A1 x.f1.length c1] ∧ x.f1.length ≤ c1 ∧ k101.C w A1 x.f1.length x.f1 := by
 obtain ⟨_, _, rfl, rfl, ⟨A1, c1, rfl, l1, g1⟩⟩ := h
 exact ⟨A1, c1, rfl, l1, g1⟩
theorem k77_openM {w : World} {base : Nat} {ok : Nat → Prop} {x : S77} {cs : List Value} (h : k77.M w base ok x cs) : ∃ v1, cs = [.string x.f0, v1] ∧ k101.R 101 w base ok v1 x.f1 := by
 obtain ⟨_, _, rfl, rfl, ⟨v1, rfl, g1⟩⟩ := h
 exact ⟨v1, rfl, g1⟩
theorem k77_mk (w : World) (x : S77) {A1 : Option Addr} {c1 : Nat} (l1 : x.f1.length ≤ c1) (g1 : k101.C w A1 x.f1.length x.f1) : k77.K w x [.string x.f0, .slice A1 x.f1.length c1] := ⟨[.string x.f0], [.slice A1 x.f1.length c1], rfl, rfl, ⟨A1, c1, rfl, l1, g1⟩⟩
theorem k77_mkM (w : World) (base : Nat) (ok : Nat → Prop) (x : S77) {v1 : Value} (g1 : k101.R 101 w base ok v1 x.f1) : k77.M w base ok x [.string x.f0, v1] := ⟨[.string x.f0], [v1], rfl, rfl, ⟨v1, rfl, g1⟩⟩
def rd_T77 (xs : List S77) (i : Int) : S77 := xs.getD i.toNat z77
theorem at_T77 {w : World} {A : Option Addr} {n : Nat} {xs : List S77} (h : Kd.C k77 w A n xs) (i : Int) (h0 : 0 ≤ i) (h1 : i < n) : ∃ ad A1 c1, A = some ad ∧ w.cell? (ad.add (i.toNat * 2)) = some (.string (rd_T77 xs i).f0) ∧ w.cell? ⟨(ad.add (i.toNat * 2)).block, (ad.add (i.toNat * 2)).off + 1, none⟩ = some (.slice A1 (rd_T77 xs i).f1.length c1) ∧ (rd_T77 xs i).f1.length ≤ c1 ∧ k101.C w A1 (rd_T77 xs i).f1.length (rd_T77 xs i).f1 := by
 obtain ⟨ad, c, e, _, hK, hc0⟩ := Kd.C_get h z77 i h0 h1
 have hc : ∀ j u, c[j]? = some u → w.cell? (ad.add (i.toNat * 2 + j)) = some u := hc0
 obtain ⟨A1, c1, rfl, l1, g1⟩ := k77_open hK
 exact ⟨ad, A1, c1, e, hc 0 _ rfl, by rw [← add_field _ _ 1 (by omega)]; exact hc 1 _ rfl, l1, g1⟩

/-! #### struct type 57 -/
structure S57 where
 f0 : ByteArray
 f1 : Bool
def z57 : S57 := ⟨(⟨#[]⟩ : ByteArray), false⟩
def k57 : Kd S57 := Kd.iso (Kd.pair Kd.string Kd.bool) (fun x : S57 => (x.f0, x.f1))
theorem k57_open {w : World} {x : S57} {cs : List Value} (h : k57.K w x cs) : cs = [.string x.f0, .bool x.f1] := by
 obtain ⟨_, _, rfl, rfl, rfl⟩ := h
 exact rfl
theorem k57_openM {w : World} {base : Nat} {ok : Nat → Prop} {x : S57} {cs : List Value} (h : k57.M w base ok x cs) : cs = [.string x.f0, .bool x.f1] := by
 obtain ⟨_, _, rfl, rfl, rfl⟩ := h
 exact rfl
theorem k57_mk (w : World) (x : S57)  : k57.K w x [.string x.f0, .bool x.f1] := ⟨[.string x.f0], [.bool x.f1], rfl, rfl, rfl⟩
theorem k57_mkM (w : World) (base : Nat) (ok : Nat → Prop) (x : S57)  : k57.M w base ok x [.string x.f0, .bool x.f1] := ⟨[.string x.f0], [.bool x.f1], rfl, rfl, rfl⟩
def rd_T57 (xs : List S57) (i : Int) : S57 := xs.getD i.toNat z57
theorem at_T57 {w : World} {A : Option Addr} {n : Nat} {xs : List S57} (h : Kd.C k57 w A n xs) (i : Int) (h0 : 0 ≤ i) (h1 : i < n) : ∃ ad , A = some ad ∧ w.cell? (ad.add (i.toNat * 2)) = some (.string (rd_T57 xs i).f0) ∧ w.cell? ⟨(ad.add (i.toNat * 2)).block, (ad.add (i.toNat * 2)).off + 1, none⟩ = some (.bool (rd_T57 xs i).f1) := by
 obtain ⟨ad, c, e, _, hK, hc0⟩ := Kd.C_get h z57 i h0 h1
 have hc : ∀ j u, c[j]? = some u → w.cell? (ad.add (i.toNat * 2 + j)) = some u := hc0
 obtain rfl := k57_open hK
 exact ⟨ad, e, hc 0 _ rfl, by rw [← add_field _ _ 1 (by omega)]; exact hc 1 _ rfl⟩

def rd_L8 (xs : List (List S57)) (i : Int) : (List S57) := xs.getD i.toNat ([] : List S57)
theorem at_L8 {w : World} {A : Option Addr} {n : Nat} {xs : List (List S57)} (h : Kd.C (Kd.slice 57 k57) w A n xs) (i : Int) (h0 : 0 ≤ i) (h1 : i < n) : ∃ ad A0 c0, A = some ad ∧ w.cell? (ad.add i.toNat) = some (.slice A0 (rd_L8 xs i).length c0) ∧ (rd_L8 xs i).length ≤ c0 ∧ k57.C w A0 (rd_L8 xs i).length (rd_L8 xs i) := by
 obtain ⟨ad, c, e, _, hK, hc0⟩ := Kd.C_get h ([] : List S57) i h0 h1
 have hc : ∀ j u, c[j]? = some u → w.cell? (ad.add (i.toNat * 1 + j)) = some u := hc0
 obtain ⟨A0, c0, rfl, l0, g0⟩ := hK
 exact ⟨ad, A0, c0, e, by have hq := hc 0 _ rfl; rwa [Nat.mul_one, Nat.add_zero] at hq, l0, g0⟩

/-! #### struct type 38 -/
structure S38 where
 f0 : ByteArray
 f1 : (List S57)
 f2 : ByteArray
 f3 : Bool
 f4 : Bool
def z38 : S38 := ⟨(⟨#[]⟩ : ByteArray), ([] : List S57), (⟨#[]⟩ : ByteArray), false, false⟩
def k38 : Kd S38 := Kd.iso (Kd.pair Kd.string (Kd.pair (Kd.slice 57 k57) (Kd.pair Kd.string (Kd.pair Kd.bool Kd.bool)))) (fun x : S38 => (x.f0, x.f1, x.f2, x.f3, x.f4))
theorem k38_open {w : World} {x : S38} {cs : List Value} (h : k38.K w x cs) : ∃ A1 c1, cs = [.string x.f0, .slice A1 x.f1.length c1, .string x.f2, .bool x.f3, .bool x.f4] ∧ x.f1.length ≤ c1 ∧ k57.C w A1 x.f1.length x.f1 := by
 obtain ⟨_, _, rfl, rfl, ⟨_, _, rfl, ⟨A1, c1, rfl, l1, g1⟩, ⟨_, _, rfl, rfl, ⟨_, _, rfl, rfl, rfl⟩⟩⟩⟩ := h
 exact ⟨A1, c1, rfl, l1, g1⟩
theorem k38_openM {w : World} {base : Nat} {ok : Nat → Prop} {x : S38} {cs : List Value} (h : k38.M w base ok x cs) : ∃ v1, cs = [.string x.f0, v1, .string x.f2, .bool x.f3, .bool x.f4] ∧ k57.R 57 w base ok v1 x.f1 := by
 obtain ⟨_, _, rfl, rfl, ⟨_, _, rfl, ⟨v1, rfl, g1⟩, ⟨_, _, rfl, rfl, ⟨_, _, rfl, rfl, rfl⟩⟩⟩⟩ := h
 exact ⟨v1, rfl, g1⟩
theorem k38_mk (w : World) (x : S38) {A1 : Option Addr} {c1 : Nat} (l1 : x.f1.length ≤ c1) (g1 : k57.C w A1 x.f1.length x.f1) : k38.K w x [.string x.f0, .slice A1 x.f1.length c1, .string x.f2, .bool x.f3, .bool x.f4] := ⟨[.string x.f0], [.slice A1 x.f1.length c1, .string x.f2, .bool x.f3, .bool x.f4], rfl, rfl, ⟨[.slice A1 x.f1.length c1], [.string x.f2, .bool x.f3, .bool x.f4], rfl, ⟨A1, c1, rfl, l1, g1⟩, ⟨[.string x.f2], [.bool x.f3, .bool x.f4], rfl, rfl, ⟨[.bool x.f3], [.bool x.f4], rfl, rfl, rfl⟩⟩⟩⟩
theorem k38_mkM (w : World) (base : Nat) (ok : Nat → Prop) (x : S38) {v1 : Value} (g1 : k57.R 57 w base ok v1 x.f1) : k38.M w base ok x [.string x.f0, v1, .string x.f2, .bool x.f3, .bool x.f4] := ⟨[.string x.f0], [v1, .string x.f2, .bool x.f3, .bool x.f4], rfl, rfl, ⟨[v1], [.string x.f2, .bool x.f3, .bool x.f4], rfl, ⟨v1, rfl, g1⟩, ⟨[.string x.f2], [.bool x.f3, .bool x.f4], rfl, rfl, ⟨[.bool x.f3], [.bool x.f4], rfl, rfl, rfl⟩⟩⟩⟩
def rd_T38 (xs : List S38) (i : Int) : S38 := xs.getD i.toNat z38
theorem at_T38 {w : World} {A : Option Addr} {n : Nat} {xs : List S38} (h : Kd.C k38 w A n xs) (i : Int) (h0 : 0 ≤ i) (h1 : i < n) : ∃ ad A1 c1, A = some ad ∧ w.cell? (ad.add (i.toNat * 5)) = some (.string (rd_T38 xs i).f0) ∧ w.cell? ⟨(ad.add (i.toNat * 5)).block, (ad.add (i.toNat * 5)).off + 1, none⟩ = some (.slice A1 (rd_T38 xs i).f1.length c1) ∧ w.cell? ⟨(ad.add (i.toNat * 5)).block, (ad.add (i.toNat * 5)).off + 2, none⟩ = some (.string (rd_T38 xs i).f2) ∧ w.cell? ⟨(ad.add (i.toNat * 5)).block, (ad.add (i.toNat * 5)).off + 3, none⟩ = some (.bool (rd_T38 xs i).f3) ∧ w.cell? ⟨(ad.add (i.toNat * 5)).block, (ad.add (i.toNat * 5)).off + 4, none⟩ = some (.bool (rd_T38 xs i).f4) ∧ (rd_T38 xs i).f1.length ≤ c1 ∧ k57.C w A1 (rd_T38 xs i).f1.length (rd_T38 xs i).f1 := by
 obtain ⟨ad, c, e, _, hK, hc0⟩ := Kd.C_get h z38 i h0 h1
 have hc : ∀ j u, c[j]? = some u → w.cell? (ad.add (i.toNat * 5 + j)) = some u := hc0
 obtain ⟨A1, c1, rfl, l1, g1⟩ := k38_open hK
 exact ⟨ad, A1, c1, e, hc 0 _ rfl, by rw [← add_field _ _ 1 (by omega)]; exact hc 1 _ rfl, by rw [← add_field _ _ 2 (by omega)]; exact hc 2 _ rfl, by rw [← add_field _ _ 3 (by omega)]; exact hc 3 _ rfl, by rw [← add_field _ _ 4 (by omega)]; exact hc 4 _ rfl, l1, g1⟩

def rd_L10 (xs : List (List S38)) (i : Int) : (List S38) := xs.getD i.toNat ([] : List S38)
theorem at_L10 {w : World} {A : Option Addr} {n : Nat} {xs : List (List S38)} (h : Kd.C (Kd.slice 38 k38) w A n xs) (i : Int) (h0 : 0 ≤ i) (h1 : i < n) : ∃ ad A0 c0, A = some ad ∧ w.cell? (ad.add i.toNat) = some (.slice A0 (rd_L10 xs i).length c0) ∧ (rd_L10 xs i).length ≤ c0 ∧ k38.C w A0 (rd_L10 xs i).length (rd_L10 xs i) := by
 obtain ⟨ad, c, e, _, hK, hc0⟩ := Kd.C_get h ([] : List S38) i h0 h1
 have hc : ∀ j u, c[j]? = some u → w.cell? (ad.add (i.toNat * 1 + j)) = some u := hc0
 obtain ⟨A0, c0, rfl, l0, g0⟩ := hK
 exact ⟨ad, A0, c0, e, by have hq := hc 0 _ rfl; rwa [Nat.mul_one, Nat.add_zero] at hq, l0, g0⟩

/-! #### struct type 53 -/
structure S53 where
 f0 : ByteArray
 f1 : (List S38)
def z53 : S53 := ⟨(⟨#[]⟩ : ByteArray), ([] : List S38)⟩
def k53 : Kd S53 := Kd.iso (Kd.pair Kd.string (Kd.slice 38 k38)) (fun x : S53 => (x.f0, x.f1))
theorem k53_open {w : World} {x : S53} {cs : List Value} (h : k53.K w x cs) : ∃ A1 c1, cs = [.string x.f0, .slice A1 x.f1.length c1] ∧ x.f1.length ≤ c1 ∧ k38.C w A1 x.f1.length x.f1 := by
 obtain ⟨_, _, rfl, rfl, ⟨A1, c1, rfl, l1, g1⟩⟩ := h
 exact ⟨A1, c1, rfl, l1, g1⟩
theorem k53_openM {w : World} {base : Nat} {ok : Nat → Prop} {x : S53} {cs : List Value} (h : k53.M w base ok x cs) : ∃ v1, cs = [.string x.f0, v1] ∧ k38.R 38 w base ok v1 x.f1 := by
 obtain ⟨_, _, rfl, rfl, ⟨v1, rfl, g1⟩⟩ := h
 exact ⟨v1, rfl, g1⟩
theorem k53_mk (w : World) (x : S53) {A1 : Option Addr} {c1 : Nat} (l1 : x.f1.length ≤ c1) (g1 : k38.C w A1 x.f1.length x.f1) : k53.K w x [.string x.f0, .slice A1 x.f1.length c1] := ⟨[.string x.f0], [.slice A1 x.f1.length c1], rfl, rfl, ⟨A1, c1, rfl, l1, g1⟩⟩
theorem k53_mkM (w : World) (base : Nat) (ok : Nat → Prop) (x : S53) {v1 : Value} (g1 : k38.R 38 w base ok v1 x.f1) : k53.M w base ok x [.string x.f0, v1] := ⟨[.string x.f0], [v1], rfl, rfl, ⟨v1, rfl, g1⟩⟩
def rd_T53 (xs : List S53) (i : Int) : S53 := xs.getD i.toNat z53
theorem at_T53 {w : World} {A : Option Addr} {n : Nat} {xs : List S53} (h : Kd.C k53 w A n xs) (i : Int) (h0 : 0 ≤ i) (h1 : i < n) : ∃ ad A1 c1, A = some ad ∧ w.cell? (ad.add (i.toNat * 2)) = some (.string (rd_T53 xs i).f0) ∧ w.cell? ⟨(ad.add (i.toNat * 2)).block, (ad.add (i.toNat * 2)).off + 1, none⟩ = some (.slice A1 (rd_T53 xs i).f1.length c1) ∧ (rd_T53 xs i).f1.length ≤ c1 ∧ k38.C w A1 (rd_T53 xs i).f1.length (rd_T53 xs i).f1 := by
 obtain ⟨ad, c, e, _, hK, hc0⟩ := Kd.C_get h z53 i h0 h1
 have hc : ∀ j u, c[j]? = some u → w.cell? (ad.add (i.toNat * 2 + j)) = some u := hc0
 obtain ⟨A1, c1, rfl, l1, g1⟩ := k53_open hK
 exact ⟨ad, A1, c1, e, hc 0 _ rfl, by rw [← add_field _ _ 1 (by omega)]; exact hc 1 _ rfl, l1, g1⟩

def rd_L12 (xs : List (List S53)) (i : Int) : (List S53) := xs.getD i.toNat ([] : List S53)
theorem at_L12 {w : World} {A : Option Addr} {n : Nat} {xs : List (List S53)} (h : Kd.C (Kd.slice 53 k53) w A n xs) (i : Int) (h0 : 0 ≤ i) (h1 : i < n) : ∃ ad A0 c0, A = some ad ∧ w.cell? (ad.add i.toNat) = some (.slice A0 (rd_L12 xs i).length c0) ∧ (rd_L12 xs i).length ≤ c0 ∧ k53.C w A0 (rd_L12 xs i).length (rd_L12 xs i) := by
 obtain ⟨ad, c, e, _, hK, hc0⟩ := Kd.C_get h ([] : List S53) i h0 h1
 have hc : ∀ j u, c[j]? = some u → w.cell? (ad.add (i.toNat * 1 + j)) = some u := hc0
 obtain ⟨A0, c0, rfl, l0, g0⟩ := hK
 exact ⟨ad, A0, c0, e, by have hq := hc 0 _ rfl; rwa [Nat.mul_one, Nat.add_zero] at hq, l0, g0⟩

def rd_L14 (xs : List (List ByteArray)) (i : Int) : (List ByteArray) := xs.getD i.toNat ([] : List ByteArray)
theorem at_L14 {w : World} {A : Option Addr} {n : Nat} {xs : List (List ByteArray)} (h : Kd.C (Kd.slice 9 Kd.string) w A n xs) (i : Int) (h0 : 0 ≤ i) (h1 : i < n) : ∃ ad A0 c0, A = some ad ∧ w.cell? (ad.add i.toNat) = some (.slice A0 (rd_L14 xs i).length c0) ∧ (rd_L14 xs i).length ≤ c0 ∧ Kd.string.C w A0 (rd_L14 xs i).length (rd_L14 xs i) := by
 obtain ⟨ad, c, e, _, hK, hc0⟩ := Kd.C_get h ([] : List ByteArray) i h0 h1
 have hc : ∀ j u, c[j]? = some u → w.cell? (ad.add (i.toNat * 1 + j)) = some u := hc0
 obtain ⟨A0, c0, rfl, l0, g0⟩ := hK
 exact ⟨ad, A0, c0, e, by have hq := hc 0 _ rfl; rwa [Nat.mul_one, Nat.add_zero] at hq, l0, g0⟩

/-! #### struct type 29 -/
structure S29 where
 f0 : (List S53)
def z29 : S29 := ⟨([] : List S53)⟩
def k29 : Kd S29 := Kd.iso (Kd.slice 53 k53) (fun x : S29 => x.f0)
theorem k29_open {w : World} {x : S29} {cs : List Value} (h : k29.K w x cs) : ∃ A0 c0, cs = [.slice A0 x.f0.length c0] ∧ x.f0.length ≤ c0 ∧ k53.C w A0 x.f0.length x.f0 := by
 obtain ⟨A0, c0, rfl, l0, g0⟩ := h
 exact ⟨A0, c0, rfl, l0, g0⟩
theorem k29_openM {w : World} {base : Nat} {ok : Nat → Prop} {x : S29} {cs : List Value} (h : k29.M w base ok x cs) : ∃ v0, cs = [v0] ∧ k53.R 53 w base ok v0 x.f0 := by
 obtain ⟨v0, rfl, g0⟩ := h
 exact ⟨v0, rfl, g0⟩
theorem k29_mk (w : World) (x : S29) {A0 : Option Addr} {c0 : Nat} (l0 : x.f0.length ≤ c0) (g0 : k53.C w A0 x.f0.length x.f0) : k29.K w x [.slice A0 x.f0.length c0] := ⟨A0, c0, rfl, l0, g0⟩
theorem k29_mkM (w : World) (base : Nat) (ok : Nat → Prop) (x : S29) {v0 : Value} (g0 : k53.R 53 w base ok v0 x.f0) : k29.M w base ok x [v0] := ⟨v0, rfl, g0⟩
def rd_T29 (xs : List S29) (i : Int) : S29 := xs.getD i.toNat z29
theorem at_T29 {w : World} {A : Option Addr} {n : Nat} {xs : List S29} (h : Kd.C k29 w A n xs) (i : Int) (h0 : 0 ≤ i) (h1 : i < n) : ∃ ad A0 c0, A = some ad ∧ w.cell? (ad.add i.toNat) = some (.slice A0 (rd_T29 xs i).f0.length c0) ∧ (rd_T29 xs i).f0.length ≤ c0 ∧ k53.C w A0 (rd_T29 xs i).f0.length (rd_T29 xs i).f0 := by
 obtain ⟨ad, c, e, _, hK, hc0⟩ := Kd.C_get h z29 i h0 h1
 have hc : ∀ j u, c[j]? = some u → w.cell? (ad.add (i.toNat * 1 + j)) = some u := hc0
 obtain ⟨A0, c0, rfl, l0, g0⟩ := k29_open hK
 exact ⟨ad, A0, c0, e, by have hq := hc 0 _ rfl; rwa [Nat.mul_one, Nat.add_zero] at hq, l0, g0⟩

def rd_L17 (xs : List (List S77)) (i : Int) : (List S77) := xs.getD i.toNat ([] : List S77)
theorem at_L17 {w : World} {A : Option Addr} {n : Nat} {xs : List (List S77)} (h : Kd.C (Kd.slice 77 k77) w A n xs) (i : Int) (h0 : 0 ≤ i) (h1 : i < n) : ∃ ad A0 c0, A = some ad ∧ w.cell? (ad.add i.toNat) = some (.slice A0 (rd_L17 xs i).length c0) ∧ (rd_L17 xs i).length ≤ c0 ∧ k77.C w A0 (rd_L17 xs i).length (rd_L17 xs i) := by
 obtain ⟨ad, c, e, _, hK, hc0⟩ := Kd.C_get h ([] : List S77) i h0 h1
 have hc : ∀ j u, c[j]? = some u → w.cell? (ad.add (i.toNat * 1 + j)) = some u := hc0
 obtain ⟨A0, c0, rfl, l0, g0⟩ := hK
 exact ⟨ad, A0, c0, e, by have hq := hc 0 _ rfl; rwa [Nat.mul_one, Nat.add_zero] at hq, l0, g0⟩

/-! #### struct type 24 -/
structure S24 where
 f0 : (List S77)
def z24 : S24 := ⟨([] : List S77)⟩
def k24 : Kd S24 := Kd.iso (Kd.slice 77 k77) (fun x : S24 => x.f0)
theorem k24_open {w : World} {x : S24} {cs : List Value} (h : k24.K w x cs) : ∃ A0 c0, cs = [.slice A0 x.f0.length c0] ∧ x.f0.length ≤ c0 ∧ k77.C w A0 x.f0.length x.f0 := by
 obtain ⟨A0, c0, rfl, l0, g0⟩ := h
 exact ⟨A0, c0, rfl, l0, g0⟩
theorem k24_openM {w : World} {base : Nat} {ok : Nat → Prop} {x : S24} {cs : List Value} (h : k24.M w base ok x cs) : ∃ v0, cs = [v0] ∧ k77.R 77 w base ok v0 x.f0 := by
 obtain ⟨v0, rfl, g0⟩ := h
 exact ⟨v0, rfl, g0⟩
theorem k24_mk (w : World) (x : S24) {A0 : Option Addr} {c0 : Nat} (l0 : x.f0.length ≤ c0) (g0 : k77.C w A0 x.f0.length x.f0) : k24.K w x [.slice A0 x.f0.length c0] := ⟨A0, c0, rfl, l0, g0⟩
theorem k24_mkM (w : World) (base : Nat) (ok : Nat → Prop) (x : S24) {v0 : Value} (g0 : k77.R 77 w base ok v0 x.f0) : k24.M w base ok x [v0] := ⟨v0, rfl, g0⟩
def rd_T24 (xs : List S24) (i : Int) : S24 := xs.getD i.toNat z24
theorem at_T24 {w : World} {A : Option Addr} {n : Nat} {xs : List S24} (h : Kd.C k24 w A n xs) (i : Int) (h0 : 0 ≤ i) (h1 : i < n) : ∃ ad A0 c0, A = some ad ∧ w.cell? (ad.add i.toNat) = some (.slice A0 (rd_T24 xs i).f0.length c0) ∧ (rd_T24 xs i).f0.length ≤ c0 ∧ k77.C w A0 (rd_T24 xs i).f0.length (rd_T24 xs i).f0 := by
 obtain ⟨ad, c, e, _, hK, hc0⟩ := Kd.C_get h z24 i h0 h1
 have hc : ∀ j u, c[j]? = some u → w.cell? (ad.add (i.toNat * 1 + j)) = some u := hc0
 obtain ⟨A0, c0, rfl, l0, g0⟩ := k24_open hK
 exact ⟨ad, A0, c0, e, by have hq := hc 0 _ rfl; rwa [Nat.mul_one, Nat.add_zero] at hq, l0, g0⟩

end Go.Proofs.Ytoogmlghfljeiaa.Q
namespace Go.Proofs.Ytoogmlghfljeiaa.Q
open Go.RowKit Go.Proofs.YtoogmlghfljeiaaW.PrintWords
theorem qzA {α : Type} (l : List α) (i : Nat) (a : α) : l.toArray.setIfInBounds i a = (l.set i a).toArray := List.setIfInBounds_toArray l i a
theorem qzB {α : Type} {a b : α} {t : List α} : (a :: t).set 0 b = b :: t := rfl
theorem qzC {α : Type} {a b : α} {t : List α} {n : Nat} : (a :: t).set (n + 1) b = a :: t.set n b := rfl
theorem qbN {B : Nat} {w W : World} (h : Below B w W) (n : Nat) : Below B w (W.drewN n) := pw_below_drewN h n
theorem qbA {w W : World} (h : Below w.heap.size w W) (o : Obj) : Below w.heap.size w (W.alloc o) := below_alloc h o
theorem qbD {base : Nat} {w W : World} (h : Below base w W) : Below base w W.drew := below_drew1 h
theorem qbS {w W : World} {g j : Nat} {v : Value} (h : Below w.heap.size w W) (hg : w.heap.size ≤ g) : Below w.heap.size w (W.setCell ⟨g, j, none⟩ v) := below_set h hg
theorem qO {p : Prop} (h : p) : Aside0 p := ⟨h⟩
theorem qT {p : Prop} [Decidable p] (h : decide p = true) : p := of_decide_eq_true h
theorem qL (w : World) (a : Addr) {v : Value} (h : w.cell? a = some v) : a.block < w.heap.size := World.block_lt_of_cell? w a h
theorem qkN {w : World} {g : Nat} {o : Obj} (h : w.heap[g]? = some o) (n : Nat) : (w.drewN n).heap[g]? = some o := h
theorem qkD {w : World} {g : Nat} {o : Obj} (h : w.heap[g]? = some o) : w.drew.heap[g]? = some o := h
theorem qkA {w : World} {g : Nat} {o : Obj} (h : w.heap[g]? = some o) (o' : Obj) : (w.alloc o').heap[g]? = some o := blk_alloc h o'
theorem qB {Wf W wn : World} {g : Nat} {o : Obj} (h : Wf.heap[g]? = some o) (hx : Below Wf.heap.size Wf W) (hb : Below W.heap.size W wn) : wn.heap[g]? = some o := blk_below (blk_below h hx) hb
theorem qHX {B : Nat} {v Wf W wn : World} (_h : Aside0 (Below B v Wf)) (_hb : Below W.heap.size W wn) (hx : Below Wf.heap.size Wf W) : Below Wf.heap.size Wf W := hx
theorem qa0 {P : Prop} (h : P := by with_reducible repeat (first | refine qbN ?_ _ | refine qbD ?_ | refine qbA ?_ _ | exact Below.refl _ _)) : P := h
theorem qa1 {P : Prop} (h : P := by (try simp only [List.map_toArray, List.map_cons, List.map_nil]); first | done | rfl | (simp only [List.length_drop, List.length_take]; rfl)) : P := h
theorem qa2 {P : Prop} (h : P := by (with_reducible repeat (first | refine qkN ?_ _ | refine qkD ?_ | refine qkA ?_ _)); refine blk_put (cs := #[.string ((rd_T38 ((rd_T53 l0_0 x3_2).f1) x5_4).f0), .slice A109_1 ((rd_T38 ((rd_T53 l0_0 x3_2).f1) x5_4).f1).length c109_1, .string ((rd_T38 ((rd_T53 l0_0 x3_2).f1) x5_4).f2), .bool ((rd_T38 ((rd_T53 l0_0 x3_2).f1) x5_4).f3), .bool false]) ?_ 4 _ rfl; (with_reducible repeat (first | refine qkN ?_ _ | refine qkD ?_ | refine qkA ?_ _)); refine blk_put (cs := #[.string ((rd_T38 ((rd_T53 l0_0 x3_2).f1) x5_4).f0), .slice A109_1 ((rd_T38 ((rd_T53 l0_0 x3_2).f1) x5_4).f1).length c109_1, .string ((rd_T38 ((rd_T53 l0_0 x3_2).f1) x5_4).f2), .bool false, .bool false]) ?_ 3 _ rfl; (with_reducible repeat (first | refine qkN ?_ _ | refine qkD ?_ | refine qkA ?_ _)); refine blk_put (cs := #[.string ((rd_T38 ((rd_T53 l0_0 x3_2).f1) x5_4).f0), .slice A109_1 ((rd_T38 ((rd_T53 l0_0 x3_2).f1) x5_4).f1).length c109_1, .string (⟨#[]⟩ : ByteArray), .bool false, .bool false]) ?_ 2 _ rfl; (with_reducible repeat (first | refine qkN ?_ _ | refine qkD ?_ | refine qkA ?_ _)); refine blk_put (cs := #[.string ((rd_T38 ((rd_T53 l0_0 x3_2).f1) x5_4).f0), .slice none 0 0, .string (⟨#[]⟩ : ByteArray), .bool false, .bool false]) ?_ 1 _ rfl; (with_reducible repeat (first | refine qkN ?_ _ | refine qkD ?_ | refine qkA ?_ _)); refine blk_put (cs := #[.string (⟨#[]⟩ : ByteArray), .slice none 0 0, .string (⟨#[]⟩ : ByteArray), .bool false, .bool false]) ?_ 0 _ rfl; (with_reducible repeat (first | refine qkN ?_ _ | refine qkD ?_ | refine qkA ?_ _)); exact BK110.out) : P := h
theorem qa3 {P : Prop} (h : P := by first | rfl | (simp [errW_none, errW_some] <;> rfl) | (simp [*, errW_none, errW_some] <;> rfl)) : P := h
theorem qa4 {P : Prop} (h : P := by (with_reducible repeat (first | refine qkN ?_ _ | refine qkD ?_ | refine qkA ?_ _)); refine blk_put (cs := #[.string (⟨#[]⟩ : ByteArray), .slice none 0 0, .string (⟨#[]⟩ : ByteArray), .bool false, .bool false]) ?_ 4 _ rfl; (with_reducible repeat (first | refine qkN ?_ _ | refine qkD ?_ | refine qkA ?_ _)); refine blk_put (cs := #[.string (⟨#[]⟩ : ByteArray), .slice none 0 0, .string (⟨#[]⟩ : ByteArray), .bool false, .bool false]) ?_ 3 _ rfl; (with_reducible repeat (first | refine qkN ?_ _ | refine qkD ?_ | refine qkA ?_ _)); refine blk_put (cs := #[.string (⟨#[]⟩ : ByteArray), .slice none 0 0, .string (⟨#[]⟩ : ByteArray), .bool false, .bool false]) ?_ 2 _ rfl; (with_reducible repeat (first | refine qkN ?_ _ | refine qkD ?_ | refine qkA ?_ _)); refine blk_put (cs := #[.string (⟨#[]⟩ : ByteArray), .slice none 0 0, .string (⟨#[]⟩ : ByteArray), .bool false, .bool false]) ?_ 1 _ rfl; (with_reducible repeat (first | refine qkN ?_ _ | refine qkD ?_ | refine qkA ?_ _)); refine blk_put (cs := #[.string (⟨#[]⟩ : ByteArray), .slice none 0 0, .string (⟨#[]⟩ : ByteArray), .bool false, .bool false]) ?_ 0 _ rfl; (with_reducible repeat (first | refine qkN ?_ _ | refine qkD ?_ | refine qkA ?_ _)); exact BK102.out) : P := h
theorem qa5 {P : Prop} (h : P := by first | (with_reducible assumption) | assumption) : P := h
theorem qa6 {P : Prop} (h : P := by repeat (first | (with_reducible first | exact HB.out | apply qbA | apply qbN | apply qbD | refine qbS ?_ GE101.out) | exact HB.out)) : P := h
theorem qa7 {P : Prop} (h : P := by repeat (first | (with_reducible first | exact HB.out | apply qbA | apply qbN | apply qbD | refine qbS ?_ GE101.out | refine qbS ?_ GE102.out) | exact HB.out)) : P := h
theorem qa8 {P : Prop} (h : P := by repeat (first | (with_reducible first | exact HB.out | apply qbA | apply qbN | apply qbD) | exact HB.out)) : P := h
theorem qa9 {P : Prop} (h : P := by (with_reducible repeat (first | refine qkN ?_ _ | refine qkD ?_ | refine qkA ?_ _)); refine blk_far ?_ NB101_110.out _; (with_reducible repeat (first | refine qkN ?_ _ | refine qkD ?_ | refine qkA ?_ _)); refine blk_far ?_ NB101_110.out _; (with_reducible repeat (first | refine qkN ?_ _ | refine qkD ?_ | refine qkA ?_ _)); refine blk_far ?_ NB101_110.out _; (with_reducible repeat (first | refine qkN ?_ _ | refine qkD ?_ | refine qkA ?_ _)); refine blk_far ?_ NB101_110.out _; (with_reducible repeat (first | refine qkN ?_ _ | refine qkD ?_ | refine qkA ?_ _)); refine blk_far ?_ NB101_110.out _; (with_reducible repeat (first | refine qkN ?_ _ | refine qkD ?_ | refine qkA ?_ _)); exact BK101.out) : P := h
theorem qa10 {P : Prop} (h : P := by (with_reducible repeat (first | refine qkN ?_ _ | refine qkD ?_ | refine qkA ?_ _)); refine blk_far ?_ NB105_110.out _; (with_reducible repeat (first | refine qkN ?_ _ | refine qkD ?_ | refine qkA ?_ _)); refine blk_far ?_ NB105_110.out _; (with_reducible repeat (first | refine qkN ?_ _ | refine qkD ?_ | refine qkA ?_ _)); refine blk_far ?_ NB105_110.out _; (with_reducible repeat (first | refine qkN ?_ _ | refine qkD ?_ | refine qkA ?_ _)); refine blk_far ?_ NB105_110.out _; (with_reducible repeat (first | refine qkN ?_ _ | refine qkD ?_ | refine qkA ?_ _)); refine blk_far ?_ NB105_110.out _; (with_reducible repeat (first | refine qkN ?_ _ | refine qkD ?_ | refine qkA ?_ _)); exact BK105.out) : P := h
theorem qa11 {P : Prop} (h : P := by first | rfl | (simp; done) | (simp [*]; done)) : P := h
theorem qa12 {P : Prop} (h : P := by simp only [Act.put, qzA, qzB, qzC, i64_w, i32_w]; rfl) : P := h
theorem qa13 {P : Prop} (h : P := by (with_reducible repeat (first | refine qkN ?_ _ | refine qkD ?_ | refine qkA ?_ _)); exact BK101.out) : P := h
theorem qa14 {P : Prop} (h : P := by (with_reducible repeat (first | refine qkN ?_ _ | refine qkD ?_ | refine qkA ?_ _)); refine blk_put (cs := #[.string ((rd_T38 ((rd_T53 l0_0 x20_2).f1) x52_4).f0), .slice A109_1 ((rd_T38 ((rd_T53 l0_0 x20_2).f1) x52_4).f1).length c109_1, .string ((rd_T38 ((rd_T53 l0_0 x20_2).f1) x52_4).f2), .bool ((rd_T38 ((rd_T53 l0_0 x20_2).f1) x52_4).f3), .bool false]) ?_ 4 _ rfl; (with_reducible repeat (first | refine qkN ?_ _ | refine qkD ?_ | refine qkA ?_ _)); refine blk_put (cs := #[.string ((rd_T38 ((rd_T53 l0_0 x20_2).f1) x52_4).f0), .slice A109_1 ((rd_T38 ((rd_T53 l0_0 x20_2).f1) x52_4).f1).length c109_1, .string ((rd_T38 ((rd_T53 l0_0 x20_2).f1) x52_4).f2), .bool false, .bool false]) ?_ 3 _ rfl; (with_reducible repeat (first | refine qkN ?_ _ | refine qkD ?_ | refine qkA ?_ _)); refine blk_put (cs := #[.string ((rd_T38 ((rd_T53 l0_0 x20_2).f1) x52_4).f0), .slice A109_1 ((rd_T38 ((rd_T53 l0_0 x20_2).f1) x52_4).f1).length c109_1, .string (⟨#[]⟩ : ByteArray), .bool false, .bool false]) ?_ 2 _ rfl; (with_reducible repeat (first | refine qkN ?_ _ | refine qkD ?_ | refine qkA ?_ _)); refine blk_put (cs := #[.string ((rd_T38 ((rd_T53 l0_0 x20_2).f1) x52_4).f0), .slice none 0 0, .string (⟨#[]⟩ : ByteArray), .bool false, .bool false]) ?_ 1 _ rfl; (with_reducible repeat (first | refine qkN ?_ _ | refine qkD ?_ | refine qkA ?_ _)); refine blk_put (cs := #[.string (⟨#[]⟩ : ByteArray), .slice none 0 0, .string (⟨#[]⟩ : ByteArray), .bool false, .bool false]) ?_ 0 _ rfl; (with_reducible repeat (first | refine qkN ?_ _ | refine qkD ?_ | refine qkA ?_ _)); exact BK110.out) : P := h
theorem qa15 {P : Prop} (h : P := by rw [hg]; exact (below_size (below_step HB.out hx_))) : P := h
theorem qa16 {P : Prop} (h : P := by repeat (first | (with_reducible first | exact HB.out | apply qbA | apply qbN | apply qbD | refine qbS ?_ GE101.out | refine qbS ?_ GE105.out | refine qbS ?_ GE110.out) | exact HB.out)) : P := h
theorem qa17 {P : Prop} (h : P := by kernel_rfl) : P := h
theorem qa18 {P : Prop} (h : P := by first | (go_simp; done) | (go_simp; rfl)) : P := h
theorem qa19 {P : Prop} (h : P := by repeat (first | exact (Kd.C_below HR0_0.out HB.out) | with_reducible first | refine Kd.C_alloc ?_ _ | refine Kd.C_drewN ?_ _ | refine Kd.C_drew ?_)) : P := h
theorem qa20 {P : Prop} (h : P := by repeat (first | (with_reducible first | exact HB.out | apply qbA | apply qbN | apply qbD | refine qbS ?_ GE101.out | refine qbS ?_ GE105.out) | exact HB.out)) : P := h
theorem qa21 {P : Prop} (h : P := by (with_reducible repeat (first | refine qkN ?_ _ | refine qkD ?_ | refine qkA ?_ _)); refine blk_far ?_ NB101_105.out _; (with_reducible repeat (first | refine qkN ?_ _ | refine qkD ?_ | refine qkA ?_ _)); refine blk_far ?_ NB101_105.out _; (with_reducible repeat (first | refine qkN ?_ _ | refine qkD ?_ | refine qkA ?_ _)); exact BK101.out) : P := h
theorem qa22 {P : Prop} (h : P := by intro w'; go_simp; with_reducible rfl) : P := h
theorem qa23 {P : Prop} (h : P := by repeat (first | (with_reducible first | exact HX.out | apply qbA | apply qbN | apply qbD) | exact HX.out)) : P := h
theorem qa24 {P : Prop} (h : P := by rw [hg]; exact Nat.ne_of_lt (blk_lt (g := gb101) (o := .cells #[.slice A0_0 l0_0.length c0_0] 29 (0, 0)) (by (with_reducible repeat (first | refine qkN ?_ _ | refine qkD ?_ | refine qkA ?_ _)); exact BK101.out))) : P := h
theorem qa25 {P : Prop} (h : P := by repeat (first | exact (Kd.C_below HR0_1.out HB.out) | with_reducible first | refine Kd.C_alloc ?_ _ | refine Kd.C_drewN ?_ _ | refine Kd.C_drew ?_)) : P := h
theorem qa26 {P : Prop} (h : P := by repeat (first | exact Drawn0.refl _ | apply Drawn0.step)) : P := h
theorem qa27 {P : Prop} (h : P := by omega) : P := h
theorem qa28 {P : Prop} (h : P := by rw [hg]; exact Nat.ne_of_lt (blk_lt (g := gb101) (o := .cells #[.string a0_0, .slice A0_1 l0_1.length c0_1, .string a0_2, .bool a0_3, .bool a0_4] 38 (0, 0)) (by (with_reducible repeat (first | refine qkN ?_ _ | refine qkD ?_ | refine qkA ?_ _)); exact BK101.out))) : P := h
theorem qa29 {P : Prop} (h : P := by (with_reducible repeat (first | refine qkN ?_ _ | refine qkD ?_ | refine qkA ?_ _)); refine blk_put (cs := #[.string ((rd_T53 l0_0 x20_2).f0), .slice none 0 0]) ?_ 1 _ rfl; (with_reducible repeat (first | refine qkN ?_ _ | refine qkD ?_ | refine qkA ?_ _)); refine blk_put (cs := #[.string (⟨#[]⟩ : ByteArray), .slice none 0 0]) ?_ 0 _ rfl; (with_reducible repeat (first | refine qkN ?_ _ | refine qkD ?_ | refine qkA ?_ _)); exact BK105.out) : P := h
theorem qa30 {P : Prop} (h : P := by (with_reducible repeat (first | refine qkN ?_ _ | refine qkD ?_ | refine qkA ?_ _)); refine blk_put (cs := #[.string ((rd_T53 l0_0 x3_2).f0), .slice none 0 0]) ?_ 1 _ rfl; (with_reducible repeat (first | refine qkN ?_ _ | refine qkD ?_ | refine qkA ?_ _)); refine blk_put (cs := #[.string (⟨#[]⟩ : ByteArray), .slice none 0 0]) ?_ 0 _ rfl; (with_reducible repeat (first | refine qkN ?_ _ | refine qkD ?_ | refine qkA ?_ _)); exact BK105.out) : P := h
theorem qa31 {P : Prop} (h : P := by (with_reducible repeat (first | refine qkN ?_ _ | refine qkD ?_ | refine qkA ?_ _)); exact BK102.out) : P := h
theorem qa32 {P : Prop} (h : P := by (try simp only [List.map_toArray, List.map_cons, List.map_nil]); first | done | rfl) : P := h
theorem qa33 {P : Prop} (h : P := by show Act.put _ (some _) _ = _; simp only [Act.put, qzA, qzB, qzC, i64_w, i32_w]; rfl) : P := h
theorem qa34 {P : Prop} (h : P := by (with_reducible repeat (first | refine qkN ?_ _ | refine qkD ?_ | refine qkA ?_ _)); exact BK105.out) : P := h
theorem qa35 {P : Prop} (h : P := by repeat (first | (with_reducible first | exact HB.out | apply qbA | apply qbN | apply qbD | refine qbS ?_ GE101.out | refine qbS ?_ GE102.out | refine qbS ?_ GE103.out) | exact HB.out)) : P := h
theorem qa36 {P : Prop} (h : P := by rw [hg]; exact Nat.ne_of_lt (blk_lt (g := gb101) (o := .cells #[.slice (some ad104) l0_0.length c0_0] 29 (0, 0)) (by (with_reducible repeat (first | refine qkN ?_ _ | refine qkD ?_ | refine qkA ?_ _)); exact BK101.out))) : P := h
theorem qa37 {P : Prop} (h : P := by rw [hg]; exact (below_size (by repeat (first | (with_reducible first | exact HB.out | apply qbA | apply qbN | apply qbD | refine qbS ?_ GE101.out) | exact HB.out)))) : P := h
theorem qa38 {P : Prop} (h : P := by (with_reducible repeat (first | refine qkN ?_ _ | refine qkD ?_ | refine qkA ?_ _)); exact BK110.out) : P := h
theorem qa39 {P : Prop} (h : P := by repeat (first | exact (Kd.C_below HR101_1.out HB.out) | with_reducible first | refine Kd.C_alloc ?_ _ | refine Kd.C_drewN ?_ _ | refine Kd.C_drew ?_)) : P := h
theorem qa40 {P : Prop} (h : P := by rw [hg]; exact (below_size (by repeat (first | (with_reducible first | exact HB.out | apply qbA | apply qbN | apply qbD) | exact HB.out)))) : P := h
theorem qa41 {P : Prop} (h : P := by (with_reducible repeat (first | apply Kd.R_alloc | apply Kd.R_drewN | apply Kd.R_drew)); exact HO105.out) : P := h
theorem qa42 {P : Prop} (h : P := by first | exact Kd.R_nil _ _ _ _ _ | exact Kd.N_nil _ _ _ _ _ | exact Kd.V_nil _ _ _ _ _ | exact Kd.Q_nil _ _ _ _ _ | exact Kd.S_nil _ _ _ _ _) : P := h
theorem qa43 {P : Prop} (h : P := by repeat (first | exact (Kd.C_below HR1_1.out HB.out) | with_reducible first | refine Kd.C_alloc ?_ _ | refine Kd.C_drewN ?_ _ | refine Kd.C_drew ?_)) : P := h
theorem qa44 {P : Prop} (h : P := by (with_reducible repeat (first | apply Kd.R_alloc | apply Kd.R_drewN | apply Kd.R_drew)); exact HO104.out) : P := h
theorem qa45 {P : Prop} (h : P := by repeat (first | (with_reducible first | exact HB.out | apply qbA | apply qbN | apply qbD | refine qbS ?_ GE101.out | refine qbS ?_ GE102.out | refine qbS ?_ GE106.out) | exact HB.out)) : P := h
theorem qa46 {P : Prop} (h : P := by rw [hg]; exact Nat.ne_of_lt (blk_lt (g := gb101) (o := .cells #[.string a0_0, .slice A0_1 l0_1.length c0_1] 53 (0, 0)) (by (with_reducible repeat (first | refine qkN ?_ _ | refine qkD ?_ | refine qkA ?_ _)); exact BK101.out))) : P := h
theorem qa47 {P : Prop} (h : P := by repeat (first | (with_reducible first | exact HK.out | apply Kept.alloc | apply Kept.drewN | apply Kept.drew) | exact HK.out)) : P := h
theorem qa48 {P : Prop} (h : P := by (with_reducible repeat (first | refine qkN ?_ _ | refine qkD ?_ | refine qkA ?_ _)); refine blk_put (cs := #[.string ((rd_T57 l1_1 x37_2).f0), .bool false]) ?_ 1 _ rfl; (with_reducible repeat (first | refine qkN ?_ _ | refine qkD ?_ | refine qkA ?_ _)); refine blk_put (cs := #[.string (⟨#[]⟩ : ByteArray), .bool false]) ?_ 0 _ rfl; (with_reducible repeat (first | refine qkN ?_ _ | refine qkD ?_ | refine qkA ?_ _)); exact BK106.out) : P := h
theorem qa49 {P : Prop} (h : P := by rw [hg]; exact Nat.ne_of_lt (blk_lt (g := gb102) (o := .cells #[.string (⟨#[]⟩ : ByteArray), .slice none 0 0, .string (⟨#[]⟩ : ByteArray), .bool false, .bool false] 38 (0, 0)) (by (with_reducible repeat (first | refine qkN ?_ _ | refine qkD ?_ | refine qkA ?_ _)); exact BK102.out))) : P := h
theorem qa50 {P : Prop} (h : P := by exact Kd.C_below HR104_1.out (by repeat (first | (with_reducible first | exact HB.out | apply qbA | apply qbN | apply qbD | refine qbS ?_ GE101.out | refine qbS ?_ GE105.out | refine qbS ?_ GE110.out) | exact HB.out))) : P := h
theorem qa51 {P : Prop} (h : P := by rw [hg]; exact Nat.ne_of_lt (blk_lt (g := gb105) (o := .cells #[.string ((rd_T53 l0_0 x20_2).f0), .slice (some ad109) ((rd_T53 l0_0 x20_2).f1).length c104_1] 53 (0, 0)) (by (with_reducible repeat (first | refine qkN ?_ _ | refine qkD ?_ | refine qkA ?_ _)); exact BK105.out))) : P := h
theorem qa52 {P : Prop} (h : P := by rw [hg]; exact Nat.ne_of_lt (blk_lt (g := gb102) (o := .cells #[.string a1_0, .slice (some ad105) l1_1.length c1_1, .string a1_2, .bool a1_3, .bool a1_4] 38 (0, 0)) (by (with_reducible repeat (first | refine qkN ?_ _ | refine qkD ?_ | refine qkA ?_ _)); exact BK102.out))) : P := h
theorem qa53 {P : Prop} (h : P := by (with_reducible repeat (first | apply Kd.R_alloc | apply Kd.R_drewN | apply Kd.R_drew)); exact HO_3.out) : P := h
theorem qa54 {P : Prop} (h : P := by exact Kd.C_below HR0_0.out (by repeat (first | (with_reducible first | exact HB.out | apply qbA | apply qbN | apply qbD | refine qbS ?_ GE101.out | refine qbS ?_ GE105.out) | exact HB.out))) : P := h
theorem qa55 {P : Prop} (h : P := by (with_reducible repeat (first | refine qkN ?_ _ | refine qkD ?_ | refine qkA ?_ _)); refine blk_far ?_ NB101_106.out _; (with_reducible repeat (first | refine qkN ?_ _ | refine qkD ?_ | refine qkA ?_ _)); refine blk_far ?_ NB101_106.out _; (with_reducible repeat (first | refine qkN ?_ _ | refine qkD ?_ | refine qkA ?_ _)); exact BK101.out) : P := h
theorem qa56 {P : Prop} (h : P := by (with_reducible repeat (first | refine qkN ?_ _ | refine qkD ?_ | refine qkA ?_ _)); refine blk_far ?_ NB102_106.out _; (with_reducible repeat (first | refine qkN ?_ _ | refine qkD ?_ | refine qkA ?_ _)); refine blk_far ?_ NB102_106.out _; (with_reducible repeat (first | refine qkN ?_ _ | refine qkD ?_ | refine qkA ?_ _)); exact BK102.out) : P := h
theorem qa57 {P : Prop} (h : P := by rintro w' ⟨s0, s1, s2, s3, s4, s5, s6, s7, s8⟩; go_simp; with_reducible rfl) : P := h
theorem qa58 {P : Prop} (h : P := by rw [hg]; exact Nat.ne_of_gt (blk_lt (g := gb101) (o := .cells #[.slice (some ad104) l0_0.length c0_0] 29 (0, 0)) (by (with_reducible repeat (first | refine qkN ?_ _ | refine qkD ?_ | refine qkA ?_ _)); exact BK101.out))) : P := h
theorem qa59 {P : Prop} (h : P := by repeat (first | exact (Kd.C_below HR109_1.out (by repeat (first | (with_reducible first | exact HB.out | apply qbA | apply qbN | apply qbD | refine qbS ?_ GE101.out | refine qbS ?_ GE105.out | refine qbS ?_ GE110.out) | exact HB.out))) | with_reducible first | refine Kd.C_alloc ?_ _ | refine Kd.C_drewN ?_ _ | refine Kd.C_drew ?_)) : P := h
theorem qa60 {P : Prop} (h : P := by exact Kd.C_below HR109_1.out (by repeat (first | (with_reducible first | exact HB.out | apply qbA | apply qbN | apply qbD | refine qbS ?_ GE101.out | refine qbS ?_ GE105.out | refine qbS ?_ GE110.out) | exact HB.out))) : P := h
theorem qa61 {P : Prop} (h : P := by rw [hg]; exact Nat.ne_of_lt (blk_lt (g := gb101) (o := .cells #[.string a0_0, .bool a0_1] 57 (0, 0)) (by (with_reducible repeat (first | refine qkN ?_ _ | refine qkD ?_ | refine qkA ?_ _)); exact BK101.out))) : P := h
theorem qa62 {P : Prop} (h : P := by have := HJ1.out; have := HK2.out; have := HJ12.out; have := HK4.out; first | omega | exact Nat.le_refl _) : P := h
theorem qa63 {P : Prop} (h : P := by exact Kd.C_below HR0_0.out (by repeat (first | (with_reducible first | exact HB.out | apply qbA | apply qbN | apply qbD | refine qbS ?_ GE101.out | refine qbS ?_ GE105.out | refine qbS ?_ GE110.out) | exact HB.out))) : P := h
theorem qa64 {P : Prop} (h : P := by repeat (first | exact (Kd.C_below HR0_0.out (by repeat (first | (with_reducible first | exact HB.out | apply qbA | apply qbN | apply qbD | refine qbS ?_ GE101.out | refine qbS ?_ GE102.out) | exact HB.out))) | with_reducible first | refine Kd.C_alloc ?_ _ | refine Kd.C_drewN ?_ _ | refine Kd.C_drew ?_)) : P := h
theorem qa65 {P : Prop} (h : P := by exact Kd.C_below HR0_0.out (below_step HB.out (by repeat (first | (with_reducible first | exact HX.out | apply qbA | apply qbN | apply qbD) | exact HX.out)))) : P := h
theorem qa66 {P : Prop} (h : P := by repeat (first | exact (Kd.C_below HR104_1.out HB.out) | with_reducible first | refine Kd.C_alloc ?_ _ | refine Kd.C_drewN ?_ _ | refine Kd.C_drew ?_)) : P := h
theorem qa67 {P : Prop} (h : P := by repeat (first | exact (Kd.C_below HR102_1.out HB.out) | with_reducible first | refine Kd.C_alloc ?_ _ | refine Kd.C_drewN ?_ _ | refine Kd.C_drew ?_)) : P := h
theorem qa68 {P : Prop} (h : P := by repeat (first | (with_reducible first | exact HB.out | apply qbA | apply qbN | apply qbD | refine qbS ?_ GE101.out | refine qbS ?_ GE102.out | refine qbS ?_ GE109.out) | exact HB.out)) : P := h
theorem qa69 {P : Prop} (h : P := by repeat (first | (with_reducible first | exact HB.out | apply qbA | apply qbN | apply qbD | refine qbS ?_ GE101.out | refine qbS ?_ GE102.out | refine qbS ?_ GE113.out) | exact HB.out)) : P := h
theorem qa70 {P : Prop} (h : P := by rw [hg]; exact (below_size (by repeat (first | (with_reducible first | exact HX.out | apply qbA | apply qbN | apply qbD) | exact HX.out)))) : P := h
theorem qa71 {P : Prop} (h : P := by have := HJ1.out; have := HK2.out; first | omega | exact Nat.le_refl _) : P := h
theorem qa72 {P : Prop} (h : P := by repeat (first | exact (Kd.R_reads' HO104.out).2.2 | with_reducible first | refine Kd.C_alloc ?_ _ | refine Kd.C_drewN ?_ _ | refine Kd.C_drew ?_)) : P := h
theorem qa73 {P : Prop} (h : P := by repeat (first | exact (Kd.R_reads' HO105.out).2.2 | with_reducible first | refine Kd.C_alloc ?_ _ | refine Kd.C_drewN ?_ _ | refine Kd.C_drew ?_)) : P := h
theorem qa74 {P : Prop} (h : P := by repeat (first | exact (Kd.C_below HR0_0.out (by repeat (first | (with_reducible first | exact HB.out | apply qbA | apply qbN | apply qbD | refine qbS ?_ GE101.out) | exact HB.out))) | with_reducible first | refine Kd.C_alloc ?_ _ | refine Kd.C_drewN ?_ _ | refine Kd.C_drew ?_)) : P := h
theorem qa75 {P : Prop} (h : P := by rw [hg]; exact Nat.ne_of_lt (blk_lt (g := gb101) (o := .cells #[.string a0_0, .slice A0_1 l0_1.length c0_1, .string a0_2, .bool a0_3, .bool a0_4] 101 (0, 0)) (by (with_reducible repeat (first | refine qkN ?_ _ | refine qkD ?_ | refine qkA ?_ _)); exact BK101.out))) : P := h
theorem qa76 {P : Prop} (h : P := by (with_reducible repeat (first | apply Kd.R_alloc | apply Kd.R_drewN | apply Kd.R_drew)); exact HO_0.out) : P := h
theorem qa77 {P : Prop} (h : P := by first | omega | exact Nat.le_refl _) : P := h
theorem qa78 {P : Prop} (h : P := by rw [hg]; exact Nat.ne_of_lt (blk_lt (g := gb101) (o := .cells #[.string a0_0, .slice A0_1 l0_1.length c0_1] 77 (0, 0)) (by (with_reducible repeat (first | refine qkN ?_ _ | refine qkD ?_ | refine qkA ?_ _)); exact BK101.out))) : P := h
theorem qa79 {P : Prop} (h : P := by (with_reducible repeat (first | refine qkN ?_ _ | refine qkD ?_ | refine qkA ?_ _)); refine blk_far ?_ NB101_103.out _; (with_reducible repeat (first | refine qkN ?_ _ | refine qkD ?_ | refine qkA ?_ _)); exact BK101.out) : P := h
theorem qa80 {P : Prop} (h : P := by (with_reducible repeat (first | refine qkN ?_ _ | refine qkD ?_ | refine qkA ?_ _)); refine blk_far ?_ NB102_103.out _; (with_reducible repeat (first | refine qkN ?_ _ | refine qkD ?_ | refine qkA ?_ _)); exact BK102.out) : P := h
theorem qa81 {P : Prop} (h : P := by exact Kd.C_below (Kd.R_reads' HO62.out).2.2 (by repeat (first | (with_reducible first | exact HX.out | apply qbA | apply qbN | apply qbD) | exact HX.out))) : P := h
theorem qa82 {P : Prop} (h : P := by rw [hg]; exact Nat.ne_of_lt (blk_lt (g := gb101) (o := .cells #[.slice A0_0 l0_0.length c0_0] 24 (0, 0)) (by (with_reducible repeat (first | refine qkN ?_ _ | refine qkD ?_ | refine qkA ?_ _)); exact BK101.out))) : P := h
theorem qa83 {P : Prop} (h : P := by rw [hg]; exact Nat.ne_of_gt (blk_lt (g := gb101) (o := .cells #[.slice A0_0 l0_0.length c0_0] 29 (0, 0)) (by (with_reducible repeat (first | refine qkN ?_ _ | refine qkD ?_ | refine qkA ?_ _)); exact BK101.out))) : P := h
theorem qa84 {P : Prop} (h : P := by rw [hg]; exact Nat.ne_of_lt (blk_lt (g := gb101) (o := .cells #[.string a0_0, .bool a0_1] 106 (0, 0)) (by (with_reducible repeat (first | refine qkN ?_ _ | refine qkD ?_ | refine qkA ?_ _)); exact BK101.out))) : P := h
theorem qa85 {P : Prop} (h : P := by exact Kd.C_below HR0_1.out (by repeat (first | (with_reducible first | exact HB.out | apply qbA | apply qbN | apply qbD | refine qbS ?_ GE101.out | refine qbS ?_ GE102.out | refine qbS ?_ GE103.out) | exact HB.out))) : P := h
theorem qa86 {P : Prop} (h : P := by exact Kd.C_below HR1_1.out (by repeat (first | (with_reducible first | exact HB.out | apply qbA | apply qbN | apply qbD | refine qbS ?_ GE101.out | refine qbS ?_ GE102.out | refine qbS ?_ GE106.out) | exact HB.out))) : P := h
theorem qa87 {P : Prop} (h : P := by have := HK1.out; omega) : P := h
theorem qa88 {P : Prop} (h : P := by rw [hg]; exact (below_size (by repeat (first | (with_reducible first | exact HB.out | apply qbA | apply qbN | apply qbD | refine qbS ?_ GE101.out | refine qbS ?_ GE105.out) | exact HB.out)))) : P := h
theorem qa89 {P : Prop} (h : P := by rintro w' ⟨s0, s1, s2, s3⟩; go_simp; with_reducible rfl) : P := h
theorem qa90 {P : Prop} (h : P := by repeat (first | (with_reducible first | exact HK.out | apply Kept.alloc | apply Kept.drewN | apply Kept.drew | refine Kept.setCell ?_ (.inr GW101.out) _) | exact HK.out)) : P := h
theorem qa91 {P : Prop} (h : P := by simp) : P := h
theorem qa92 {P : Prop} (h : P := by (with_reducible repeat (first | apply Kd.S_alloc | apply Kd.S_drewN | apply Kd.S_drew)); exact HO_3.out) : P := h
theorem qa93 {P : Prop} (h : P := by exact (Reps.one (show Kd.M Kd.string _ _ _ a1 [.string a1] from rfl) (Reps.none _ _))) : P := h
theorem qa94 {P : Prop} (h : P := by exact (Reps.one (show Kd.M Kd.string _ _ _ a2 [.string a2] from rfl) (Reps.none _ _))) : P := h
theorem qa95 {P : Prop} (h : P := by rintro w' ⟨s0, s1, s2, s3, s4, s5, s6, s7, s8, s9⟩; go_simp; with_reducible rfl) : P := h
theorem qa96 {P : Prop} (h : P := by repeat (first | exact (Kd.C_below HR105_1.out HB.out) | with_reducible first | refine Kd.C_alloc ?_ _ | refine Kd.C_drewN ?_ _ | refine Kd.C_drew ?_)) : P := h
theorem qa97 {P : Prop} (h : P := by repeat (first | exact (Kd.C_below HR109_1.out HB.out) | with_reducible first | refine Kd.C_alloc ?_ _ | refine Kd.C_drewN ?_ _ | refine Kd.C_drew ?_)) : P := h
theorem qa98 {P : Prop} (h : P := by repeat (first | exact (Kd.C_below HR1_0.out HB.out) | with_reducible first | refine Kd.C_alloc ?_ _ | refine Kd.C_drewN ?_ _ | refine Kd.C_drew ?_)) : P := h
theorem qa99 {P : Prop} (h : P := by have z_ := Kd.R_reads' HO62.out; have y_ := z_.1; have x_ := z_.2.1; omega) : P := h
theorem qa100 {P : Prop} (h : P := by exact below_step HB.out (by repeat (first | (with_reducible first | exact HX.out | apply qbA | apply qbN | apply qbD) | exact HX.out))) : P := h
theorem qa101 {P : Prop} (h : P := by (try simp only [List.map_toArray, List.map_cons, List.map_nil]); first | done | rfl | (simp only [LEN107.out]; rfl)) : P := h
theorem qa102 {P : Prop} (h : P := by have := HJ1.out; have := HK2.out; have := HJ12.out; have := HK4.out; have := HJ39.out; have := HK6.out; omega) : P := h
theorem qa103 {P : Prop} (h : P := by (with_reducible repeat (first | apply Kd.R_alloc | apply Kd.R_drewN | apply Kd.R_drew)); exact HO0_1.out) : P := h
theorem qa104 {P : Prop} (h : P := by (with_reducible repeat (first | apply Kd.R_alloc | apply Kd.R_drewN | apply Kd.R_drew)); exact HO103.out) : P := h
theorem qa105 {P : Prop} (h : P := by rintro w' ⟨s0, s1⟩; go_simp; with_reducible rfl) : P := h
theorem qa106 {P : Prop} (h : P := by have z_ := Kd.R_reads' HO24.out; have y_ := z_.1; have x_ := z_.2.1; omega) : P := h
theorem qa107 {P : Prop} (h : P := by rw [hh_]; exact hk_.2.2.1) : P := h
theorem qa108 {P : Prop} (h : P := by decide) : P := h
theorem qa109 {P : Prop} (h : P := by intro _ _ _ h_; cases h_) : P := h
theorem qa110 {P : Prop} (h : P := by rintro e w' ⟨rfl, h2⟩; exact ⟨rfl, below_step hb h2⟩) : P := h
theorem qa111 {P : Prop} (h : P := by rw [hl_]; exact hk_.2.1) : P := h
theorem qa112 {P : Prop} (h : P := by have := HJ1.out; have := HK2.out; have := HJ14.out; have := HK4.out; omega) : P := h
theorem qa113 {P : Prop} (h : P := by rw [decide_eq_false c6]; simp) : P := h
theorem qa114 {P : Prop} (h : P := by first | rfl | (simp [*]; done)) : P := h
theorem qa115 {P : Prop} (h : P := by rw [hh_]; exact blk_lt hbox) : P := h
theorem qa116 {P : Prop} (h : P := by rw [hw]; exact HP12.2) : P := h
end Go.Proofs.Ytoogmlghfljeiaa.Q
namespace Go.Proofs.Ytoogmlghfljeiaa.Q
open Go.RowKit Go.Proofs.YtoogmlghfljeiaaW.PrintWords Go.Proofs.YtoogmlghfljeiaaW.PrintLast Go.Proofs.YtoogmlghfljeiaaW.PrintMore
attribute [local go_sem] max2_int min2_int max_two min_two max_three min_three max_four min_four
set_option linter.unusedVariables false
set_option linter.unusedSimpArgs false

def laws_szArgDef.f (a0_0 : ByteArray) (a0_1 : Bool) (a1 : Int) : Option (Int) := if (wrap64 (a1 - (a0_0.size : Int))) < 0 then (some (-1)) else (some (wrap64 (a1 - (a0_0.size : Int))))
set_option maxHeartbeats 8000000 in
set_option maxRecDepth 100000 in
theorem laws_szArgDef.calls (a0_0 : ByteArray) (a0_1 : Bool) (a1 : Int) (r : Int) (w : World) (h : laws_szArgDef.f a0_0 a0_1 a1 = some r) :
  Calls Try.prog 86 #[.agg #[.string a0_0, .bool a0_1], .int .i64 a1] w fun e w' => e = .returned (.int .i64 r) ∧ Below w.heap.size w w' := by
 have hu106 := Try.underlying106; have HB := qO (Below.refl w.heap.size w); have H : (if (wrap64 (a1 - (a0_0.size : Int))) < 0 then (some (-1)) else (some (wrap64 (a1 - (a0_0.size : Int))))) = some r := h; clear h
 by_cases c3 : (wrap64 (a1 - (a0_0.size : Int))) < 0
 ·rw [if_pos c3] at H
  have c3b0 : decide ((wrap64 (a1 - (a0_0.size : Int))) < 0) = true := decide_eq_true c3; clear c3; obtain rfl := Option.some.inj H
  go_enter Try.func86, Try.ntmps86
  go_wp2_with (first | ((with_reducible refine gate_dst (N := 2) rfl ?_); refine box_event ?hg (N := 2) ?hd (cs := #[.string a0_0, .bool a0_1]) (t := 106) ?hr ?_; (case hd => rfl); (case hg => rfl); (case hr => exact qa18); intro gb101 hg w4 hbox hb; have hx_ := qHX HB hb qa0; have n0_ := qO (below_step (below_step HB.out hx_) hb); have n1_ := qO (hbox); have n2_ := qO ((qa15 : w.heap.size ≤ gb101)); have n3_ := n2_; clear HB; have HB := n0_; have BK101 := n1_; have GW101 := n2_; have GE101 := n3_; clear n0_ n1_ n2_ n3_; clear hx_; clear hb hbox hg; have hcz5_0 : w4.cell? ⟨gb101, 0, none⟩ = some (.string a0_0) := (blk_cell BK101.out 0).trans rfl; have hcz5_1 : w4.cell? ⟨gb101, 1, none⟩ = some (.bool a0_1) := (blk_cell BK101.out 1).trans rfl; have hfz5_0 := blk_frozen BK101.out 0; have hfz5_1 := blk_frozen BK101.out 1))
  go_ret
  exact ⟨qa3, qa6⟩
 ·rw [if_neg c3] at H
  have c3b0 : decide ((wrap64 (a1 - (a0_0.size : Int))) < 0) = false := decide_eq_false c3; clear c3; obtain rfl := Option.some.inj H
  go_enter Try.func86, Try.ntmps86
  go_wp2_with (first | ((with_reducible refine gate_dst (N := 2) rfl ?_); refine box_event ?hg (N := 2) ?hd (cs := #[.string a0_0, .bool a0_1]) (t := 106) ?hr ?_; (case hd => rfl); (case hg => rfl); (case hr => exact qa18); intro gb101 hg w6 hbox hb; have hx_ := qHX HB hb qa0; have n0_ := qO (below_step (below_step HB.out hx_) hb); have n1_ := qO (hbox); have n2_ := qO ((qa15 : w.heap.size ≤ gb101)); have n3_ := n2_; clear HB; have HB := n0_; have BK101 := n1_; have GW101 := n2_; have GE101 := n3_; clear n0_ n1_ n2_ n3_; clear hx_; clear hb hbox hg; have hcz7_0 : w6.cell? ⟨gb101, 0, none⟩ = some (.string a0_0) := (blk_cell BK101.out 0).trans rfl; have hcz7_1 : w6.cell? ⟨gb101, 1, none⟩ = some (.bool a0_1) := (blk_cell BK101.out 1).trans rfl; have hfz7_0 := blk_frozen BK101.out 0; have hfz7_1 := blk_frozen BK101.out 1))
  go_ret
  exact ⟨qa3, qa6⟩


def laws_szArgDefS.l0 : Nat → List (S106) → Int → Int → Option (Int)
 | 0, _, _, _ => none
 | k + 1, x0, x1, x5 => if x5 < (x0.length : Int) then (if 0 ≤ x5 then ((laws_szArgDef.f ((rd_T106 x0 x5).f0) ((rd_T106 x0 x5).f1) x1).bind fun t102 => (if t102 < 0 then (some (-1)) else (laws_szArgDefS.l0 k x0 t102 (wrap64 (x5 + 1))))) else (none)) else (some x1)
def laws_szArgDefS.f (k : Nat) (l0 : List (S106)) (a1 : Int) : Option (Int) := if (wrap64 (a1 - (l0.length : Int))) < 0 then (some (-1)) else (laws_szArgDefS.l0 k l0 (wrap64 (a1 - (l0.length : Int))) 0)
set_option maxHeartbeats 8000000 in
set_option maxRecDepth 100000 in
theorem laws_szArgDefS.calls (k : Nat) (A0 : Option Addr) (c0 : Nat) (l0 : List (S106)) (a1 : Int) (r : Int) (w : World) (hr0 : Kd.C k106 w A0 l0.length l0) (hc0 : l0.length ≤ c0) (h : laws_szArgDefS.f k l0 a1 = some r) :
  Calls Try.prog 84 #[.slice A0 l0.length c0, .int .i64 a1] w fun e w' => e = .returned (.int .i64 r) ∧ Below w.heap.size w w' := by
 have hu106 := Try.underlying106; have HR0 := qO hr0; have HC0 := qO hc0; clear hr0 hc0; have HB := qO (Below.refl w.heap.size w); have H : (if (wrap64 (a1 - (l0.length : Int))) < 0 then (some (-1)) else (laws_szArgDefS.l0 k l0 (wrap64 (a1 - (l0.length : Int))) 0)) = some r := h; clear h
 by_cases c3 : (wrap64 (a1 - (l0.length : Int))) < 0
 ·rw [if_pos c3] at H
  have c3b0 : decide ((wrap64 (a1 - (l0.length : Int))) < 0) = true := decide_eq_true c3; clear c3; obtain rfl := Option.some.inj H
  go_enter Try.func84, Try.ntmps84
  go_wp2
  go_ret
  exact ⟨qa3, qa8⟩
 ·rw [if_neg c3] at H
  have c3b0 : decide ((wrap64 (a1 - (l0.length : Int))) < 0) = false := decide_eq_false c3; clear c3; have H' := qO H; clear H
  go_enter Try.func84, Try.ntmps84
  go_wp2
  go_loopg [1, 5] k (fun kq v1 v5 w' => ∃ (x1_1 : Int) (x5_1 : Int), v1 = .int .i64 x1_1 ∧ v5 = .int .i64 x5_1 ∧ Aside0 (laws_szArgDefS.l0 kq l0 x1_1 x5_1 = some r) ∧ Aside0 (kq ≤ k) ∧ Aside0 (Below w.heap.size w w'))
  case atStart => exact ⟨(wrap64 (a1 - (l0.length : Int))), (0), qa11, qa11, H', ⟨Nat.le_refl _⟩, ⟨qa8⟩⟩
  case round =>
   clear H'
   try clear p2
   try clear c3
   try clear c3b0
   obtain ⟨x1_1, x5_1, rfl, rfl, HA, HK1, HB⟩ := hrel
   cases gk with
   | zero => exact absurd HA.out (by simp [laws_szArgDefS.l0])
   | succ k1 =>
    have H := HA.out; clear HA; simp only [laws_szArgDefS.l0] at H
    by_cases c4 : x5_1 < (l0.length : Int)
    ·rw [if_pos c4] at H
     have c4b0 : decide (x5_1 < (l0.length : Int)) = true := decide_eq_true c4; clear c4
     by_cases c5 : 0 ≤ x5_1
     ·rw [if_pos c5] at H
      have c5b0 : decide (0 ≤ x5_1) = true := decide_eq_true c5; clear c5; replace H := Option.bind_eq_some_iff.mp H; obtain ⟨t102, A60, H⟩ := H; replace H : (if t102 < 0 then (some (-1)) else (laws_szArgDefS.l0 k1 l0 t102 (wrap64 (x5_1 + 1)))) = some r := H; have A6 := qO A60; clear A60
      by_cases c7 : t102 < 0
      ·rw [if_pos c7] at H
       have c7b0 : decide (t102 < 0) = true := decide_eq_true c7; clear c7; obtain rfl := Option.some.inj H; have p101 : 0 ≤ (x5_1 : Int) := qT qa5; have q101 : x5_1 < (l0.length : Int) := qT qa5; obtain ⟨ad101, e101, hx101_0, hx101_1⟩ := at_T106 HR0.out x5_1 p101 q101
       cases e101
       replace hx101_0 := (HB.out.cell (qL w _ hx101_0)).trans hx101_0; replace hx101_1 := (HB.out.cell (qL w _ hx101_1)).trans hx101_1; replace p101 := eq_true p101; replace q101 := eq_true q101
       go_wp2_with (first | ((with_reducible refine gate_callee (f := 86) rfl ?_); refine goesL_ (some 23) rfl rfl Try.func86 qa17 rfl #[.agg #[.string ((rd_T106 l0 x5_1).f0), .bool ((rd_T106 l0 x5_1).f1)], .int .i64 x1_1] rfl qa1 ?_; (with_reducible refine (laws_szArgDef.calls ((rd_T106 l0 x5_1).f0) ((rd_T106 l0 x5_1).f1) x1_1 t102 _ A6.out).mono ?_); rintro e w8 ⟨rfl, hb⟩; have hx_ := qHX HB hb qa0; refine ⟨_, rfl, ?_⟩; have n0_ := qO (below_step (below_step HB.out hx_) hb); clear HB; have HB := n0_; clear n0_; clear hx_; (try clear hb); (try clear hb2); (try clear hk); (try clear hi)))
       go_ret
       exact ⟨qa3, qa8⟩
      ·rw [if_neg c7] at H
       have c7b0 : decide (t102 < 0) = false := decide_eq_false c7; clear c7; have H' := qO H; clear H; have p101 : 0 ≤ (x5_1 : Int) := qT qa5; have q101 : x5_1 < (l0.length : Int) := qT qa5; obtain ⟨ad101, e101, hx101_0, hx101_1⟩ := at_T106 HR0.out x5_1 p101 q101
       cases e101
       replace hx101_0 := (HB.out.cell (qL w _ hx101_0)).trans hx101_0; replace hx101_1 := (HB.out.cell (qL w _ hx101_1)).trans hx101_1; replace p101 := eq_true p101; replace q101 := eq_true q101
       go_wp2_with (first | ((with_reducible refine gate_callee (f := 86) rfl ?_); refine goesL_ (some 23) rfl rfl Try.func86 qa17 rfl #[.agg #[.string ((rd_T106 l0 x5_1).f0), .bool ((rd_T106 l0 x5_1).f1)], .int .i64 x1_1] rfl qa1 ?_; (with_reducible refine (laws_szArgDef.calls ((rd_T106 l0 x5_1).f0) ((rd_T106 l0 x5_1).f1) x1_1 t102 _ A6.out).mono ?_); rintro e w9 ⟨rfl, hb⟩; have hx_ := qHX HB hb qa0; refine ⟨_, rfl, ?_⟩; have n0_ := qO (below_step (below_step HB.out hx_) hb); clear HB; have HB := n0_; clear n0_; clear hx_; (try clear hb); (try clear hb2); (try clear hk); (try clear hi)))
       go_roundg k1
       case measure => have := HK1.out; omega
       case rel => exact ⟨(t102), (wrap64 (x5_1 + 1)), qa11, qa11, H', ⟨qa87⟩, ⟨qa8⟩⟩
     ·rw [if_neg c5] at H
      exact absurd H qa91
    ·rw [if_neg c4] at H
     have c4b0 : decide (x5_1 < (l0.length : Int)) = false := decide_eq_false c4; clear c4; obtain rfl := Option.some.inj H; go_wp2
     go_ret
     exact ⟨qa3, qa8⟩


def laws_szFieldDef.f (k : Nat) (a0_0 : ByteArray) (l0_1 : List (S106)) (a0_2 : ByteArray) (a0_3 : Bool) (a0_4 : Bool) (a1 : Int) : Option (Int) := if (wrap64 (a1 - (a0_0.size : Int))) < 0 then (some (-1)) else ((laws_szArgDefS.f k l0_1 (wrap64 (a1 - (a0_0.size : Int)))).bind fun t102 => (if t102 < 0 then (some (-1)) else (if (wrap64 (t102 - (a0_2.size : Int))) < 0 then (some (-1)) else (some (wrap64 (t102 - (a0_2.size : Int)))))))
set_option maxHeartbeats 8000000 in
set_option maxRecDepth 100000 in
theorem laws_szFieldDef.calls (k : Nat) (a0_0 : ByteArray) (A0_1 : Option Addr) (c0_1 : Nat) (l0_1 : List (S106)) (a0_2 : ByteArray) (a0_3 : Bool) (a0_4 : Bool) (a1 : Int) (r : Int) (w : World) (hr0_1 : Kd.C k106 w A0_1 l0_1.length l0_1) (hc0_1 : l0_1.length ≤ c0_1) (h : laws_szFieldDef.f k a0_0 l0_1 a0_2 a0_3 a0_4 a1 = some r) :
  Calls Try.prog 82 #[.agg #[.string a0_0, .slice A0_1 l0_1.length c0_1, .string a0_2, .bool a0_3, .bool a0_4], .int .i64 a1] w fun e w' => e = .returned (.int .i64 r) ∧ Below w.heap.size w w' := by
 have hu101 := Try.underlying101; have HR0_1 := qO hr0_1; have HC0_1 := qO hc0_1; clear hr0_1 hc0_1; have HB := qO (Below.refl w.heap.size w); have H : (if (wrap64 (a1 - (a0_0.size : Int))) < 0 then (some (-1)) else ((laws_szArgDefS.f k l0_1 (wrap64 (a1 - (a0_0.size : Int)))).bind fun t102 => (if t102 < 0 then (some (-1)) else (if (wrap64 (t102 - (a0_2.size : Int))) < 0 then (some (-1)) else (some (wrap64 (t102 - (a0_2.size : Int)))))))) = some r := h; clear h
 by_cases c3 : (wrap64 (a1 - (a0_0.size : Int))) < 0
 ·rw [if_pos c3] at H
  have c3b0 : decide ((wrap64 (a1 - (a0_0.size : Int))) < 0) = true := decide_eq_true c3; clear c3; obtain rfl := Option.some.inj H
  go_enter Try.func82, Try.ntmps82
  go_wp2_with (first | ((with_reducible refine gate_dst (N := 2) rfl ?_); refine box_event ?hg (N := 2) ?hd (cs := #[.string a0_0, .slice A0_1 l0_1.length c0_1, .string a0_2, .bool a0_3, .bool a0_4]) (t := 101) ?hr ?_; (case hd => rfl); (case hg => rfl); (case hr => exact qa18); intro gb101 hg w4 hbox hb; have hx_ := qHX HB hb qa0; have n0_ := qO (below_step (below_step HB.out hx_) hb); have n1_ := qO (hbox); have n2_ := qO ((qa15 : w.heap.size ≤ gb101)); have n3_ := n2_; clear HB; have HB := n0_; have BK101 := n1_; have GW101 := n2_; have GE101 := n3_; clear n0_ n1_ n2_ n3_; clear hx_; clear hb hbox hg; have hcz5_0 : w4.cell? ⟨gb101, 0, none⟩ = some (.string a0_0) := (blk_cell BK101.out 0).trans rfl; have hcz5_1 : w4.cell? ⟨gb101, 1, none⟩ = some (.slice A0_1 l0_1.length c0_1) := (blk_cell BK101.out 1).trans rfl; have hcz5_2 : w4.cell? ⟨gb101, 2, none⟩ = some (.string a0_2) := (blk_cell BK101.out 2).trans rfl; have hcz5_3 : w4.cell? ⟨gb101, 3, none⟩ = some (.bool a0_3) := (blk_cell BK101.out 3).trans rfl; have hcz5_4 : w4.cell? ⟨gb101, 4, none⟩ = some (.bool a0_4) := (blk_cell BK101.out 4).trans rfl; have hfz5_0 := blk_frozen BK101.out 0; have hfz5_1 := blk_frozen BK101.out 1; have hfz5_2 := blk_frozen BK101.out 2; have hfz5_3 := blk_frozen BK101.out 3; have hfz5_4 := blk_frozen BK101.out 4))
  go_ret
  exact ⟨qa3, qa6⟩
 ·rw [if_neg c3] at H
  have c3b0 : decide ((wrap64 (a1 - (a0_0.size : Int))) < 0) = false := decide_eq_false c3; clear c3; replace H := Option.bind_eq_some_iff.mp H; obtain ⟨t102, A60, H⟩ := H; replace H : (if t102 < 0 then (some (-1)) else (if (wrap64 (t102 - (a0_2.size : Int))) < 0 then (some (-1)) else (some (wrap64 (t102 - (a0_2.size : Int)))))) = some r := H; have A6 := qO A60; clear A60
  by_cases c7 : t102 < 0
  ·rw [if_pos c7] at H
   have c7b0 : decide (t102 < 0) = true := decide_eq_true c7; clear c7; obtain rfl := Option.some.inj H
   go_enter Try.func82, Try.ntmps82
   go_wp2_with (first | ((with_reducible refine gate_dst (N := 2) rfl ?_); refine box_event ?hg (N := 2) ?hd (cs := #[.string a0_0, .slice A0_1 l0_1.length c0_1, .string a0_2, .bool a0_3, .bool a0_4]) (t := 101) ?hr ?_; (case hd => rfl); (case hg => rfl); (case hr => exact qa18); intro gb101 hg w8 hbox hb; have hx_ := qHX HB hb qa0; have n0_ := qO (below_step (below_step HB.out hx_) hb); have n1_ := qO (hbox); have n2_ := qO ((qa15 : w.heap.size ≤ gb101)); have n3_ := n2_; clear HB; have HB := n0_; have BK101 := n1_; have GW101 := n2_; have GE101 := n3_; clear n0_ n1_ n2_ n3_; clear hx_; clear hb hbox hg; have hcz9_0 : w8.cell? ⟨gb101, 0, none⟩ = some (.string a0_0) := (blk_cell BK101.out 0).trans rfl; have hcz9_1 : w8.cell? ⟨gb101, 1, none⟩ = some (.slice A0_1 l0_1.length c0_1) := (blk_cell BK101.out 1).trans rfl; have hcz9_2 : w8.cell? ⟨gb101, 2, none⟩ = some (.string a0_2) := (blk_cell BK101.out 2).trans rfl; have hcz9_3 : w8.cell? ⟨gb101, 3, none⟩ = some (.bool a0_3) := (blk_cell BK101.out 3).trans rfl; have hcz9_4 : w8.cell? ⟨gb101, 4, none⟩ = some (.bool a0_4) := (blk_cell BK101.out 4).trans rfl; have hfz9_0 := blk_frozen BK101.out 0; have hfz9_1 := blk_frozen BK101.out 1; have hfz9_2 := blk_frozen BK101.out 2; have hfz9_3 := blk_frozen BK101.out 3; have hfz9_4 := blk_frozen BK101.out 4) | ((with_reducible refine gate_callee (f := 84) rfl ?_); refine goesL_ (some 15) rfl rfl Try.func84 qa17 rfl #[.slice A0_1 l0_1.length c0_1, .int .i64 (wrap64 (a1 - (a0_0.size : Int)))] rfl qa1 ?_; (with_reducible refine (laws_szArgDefS.calls k _ _ l0_1 (wrap64 (a1 - (a0_0.size : Int))) t102 _ ?side1 ?side2 A6.out).mono ?_); (case side1 => exact qa25); (case side2 => exact HC0_1.out); rintro e w10 ⟨rfl, hb⟩; have hx_ := qHX HB hb qa0; refine ⟨_, rfl, ?_⟩; have n0_ := qO (qB BK101.out hx_ hb); have n1_ := qO (below_step (below_step HB.out hx_) hb); clear BK101; clear HB; have BK101 := n0_; have HB := n1_; clear n0_ n1_; clear hx_; (try clear hb); (try clear hb2); (try clear hk); (try clear hi)))
   go_ret
   exact ⟨qa3, qa6⟩
  ·rw [if_neg c7] at H
   have c7b0 : decide (t102 < 0) = false := decide_eq_false c7; clear c7
   by_cases c11 : (wrap64 (t102 - (a0_2.size : Int))) < 0
   ·rw [if_pos c11] at H
    have c11b0 : decide ((wrap64 (t102 - (a0_2.size : Int))) < 0) = true := decide_eq_true c11; clear c11; obtain rfl := Option.some.inj H
    go_enter Try.func82, Try.ntmps82
    go_wp2_with (first | ((with_reducible refine gate_dst (N := 2) rfl ?_); refine box_event ?hg (N := 2) ?hd (cs := #[.string a0_0, .slice A0_1 l0_1.length c0_1, .string a0_2, .bool a0_3, .bool a0_4]) (t := 101) ?hr ?_; (case hd => rfl); (case hg => rfl); (case hr => exact qa18); intro gb101 hg w12 hbox hb; have hx_ := qHX HB hb qa0; have n0_ := qO (below_step (below_step HB.out hx_) hb); have n1_ := qO (hbox); have n2_ := qO ((qa15 : w.heap.size ≤ gb101)); have n3_ := n2_; clear HB; have HB := n0_; have BK101 := n1_; have GW101 := n2_; have GE101 := n3_; clear n0_ n1_ n2_ n3_; clear hx_; clear hb hbox hg; have hcz13_0 : w12.cell? ⟨gb101, 0, none⟩ = some (.string a0_0) := (blk_cell BK101.out 0).trans rfl; have hcz13_1 : w12.cell? ⟨gb101, 1, none⟩ = some (.slice A0_1 l0_1.length c0_1) := (blk_cell BK101.out 1).trans rfl; have hcz13_2 : w12.cell? ⟨gb101, 2, none⟩ = some (.string a0_2) := (blk_cell BK101.out 2).trans rfl; have hcz13_3 : w12.cell? ⟨gb101, 3, none⟩ = some (.bool a0_3) := (blk_cell BK101.out 3).trans rfl; have hcz13_4 : w12.cell? ⟨gb101, 4, none⟩ = some (.bool a0_4) := (blk_cell BK101.out 4).trans rfl; have hfz13_0 := blk_frozen BK101.out 0; have hfz13_1 := blk_frozen BK101.out 1; have hfz13_2 := blk_frozen BK101.out 2; have hfz13_3 := blk_frozen BK101.out 3; have hfz13_4 := blk_frozen BK101.out 4) | ((with_reducible refine gate_callee (f := 84) rfl ?_); refine goesL_ (some 15) rfl rfl Try.func84 qa17 rfl #[.slice A0_1 l0_1.length c0_1, .int .i64 (wrap64 (a1 - (a0_0.size : Int)))] rfl qa1 ?_; (with_reducible refine (laws_szArgDefS.calls k _ _ l0_1 (wrap64 (a1 - (a0_0.size : Int))) t102 _ ?side1 ?side2 A6.out).mono ?_); (case side1 => exact qa25); (case side2 => exact HC0_1.out); rintro e w14 ⟨rfl, hb⟩; have hx_ := qHX HB hb qa0; refine ⟨_, rfl, ?_⟩; have n0_ := qO (qB BK101.out hx_ hb); have n1_ := qO (below_step (below_step HB.out hx_) hb); clear BK101; clear HB; have BK101 := n0_; have HB := n1_; clear n0_ n1_; clear hx_; (try clear hb); (try clear hb2); (try clear hk); (try clear hi); have hcz15_0 : w14.cell? ⟨gb101, 0, none⟩ = some (.string a0_0) := (blk_cell BK101.out 0).trans rfl; have hcz15_1 : w14.cell? ⟨gb101, 1, none⟩ = some (.slice A0_1 l0_1.length c0_1) := (blk_cell BK101.out 1).trans rfl; have hcz15_2 : w14.cell? ⟨gb101, 2, none⟩ = some (.string a0_2) := (blk_cell BK101.out 2).trans rfl; have hcz15_3 : w14.cell? ⟨gb101, 3, none⟩ = some (.bool a0_3) := (blk_cell BK101.out 3).trans rfl; have hcz15_4 : w14.cell? ⟨gb101, 4, none⟩ = some (.bool a0_4) := (blk_cell BK101.out 4).trans rfl; have hfz15_0 := blk_frozen BK101.out 0; have hfz15_1 := blk_frozen BK101.out 1; have hfz15_2 := blk_frozen BK101.out 2; have hfz15_3 := blk_frozen BK101.out 3; have hfz15_4 := blk_frozen BK101.out 4))
    go_ret
    exact ⟨qa3, qa6⟩
   ·rw [if_neg c11] at H
    have c11b0 : decide ((wrap64 (t102 - (a0_2.size : Int))) < 0) = false := decide_eq_false c11; clear c11; obtain rfl := Option.some.inj H
    go_enter Try.func82, Try.ntmps82
    go_wp2_with (first | ((with_reducible refine gate_dst (N := 2) rfl ?_); refine box_event ?hg (N := 2) ?hd (cs := #[.string a0_0, .slice A0_1 l0_1.length c0_1, .string a0_2, .bool a0_3, .bool a0_4]) (t := 101) ?hr ?_; (case hd => rfl); (case hg => rfl); (case hr => exact qa18); intro gb101 hg w16 hbox hb; have hx_ := qHX HB hb qa0; have n0_ := qO (below_step (below_step HB.out hx_) hb); have n1_ := qO (hbox); have n2_ := qO ((qa15 : w.heap.size ≤ gb101)); have n3_ := n2_; clear HB; have HB := n0_; have BK101 := n1_; have GW101 := n2_; have GE101 := n3_; clear n0_ n1_ n2_ n3_; clear hx_; clear hb hbox hg; have hcz17_0 : w16.cell? ⟨gb101, 0, none⟩ = some (.string a0_0) := (blk_cell BK101.out 0).trans rfl; have hcz17_1 : w16.cell? ⟨gb101, 1, none⟩ = some (.slice A0_1 l0_1.length c0_1) := (blk_cell BK101.out 1).trans rfl; have hcz17_2 : w16.cell? ⟨gb101, 2, none⟩ = some (.string a0_2) := (blk_cell BK101.out 2).trans rfl; have hcz17_3 : w16.cell? ⟨gb101, 3, none⟩ = some (.bool a0_3) := (blk_cell BK101.out 3).trans rfl; have hcz17_4 : w16.cell? ⟨gb101, 4, none⟩ = some (.bool a0_4) := (blk_cell BK101.out 4).trans rfl; have hfz17_0 := blk_frozen BK101.out 0; have hfz17_1 := blk_frozen BK101.out 1; have hfz17_2 := blk_frozen BK101.out 2; have hfz17_3 := blk_frozen BK101.out 3; have hfz17_4 := blk_frozen BK101.out 4) | ((with_reducible refine gate_callee (f := 84) rfl ?_); refine goesL_ (some 15) rfl rfl Try.func84 qa17 rfl #[.slice A0_1 l0_1.length c0_1, .int .i64 (wrap64 (a1 - (a0_0.size : Int)))] rfl qa1 ?_; (with_reducible refine (laws_szArgDefS.calls k _ _ l0_1 (wrap64 (a1 - (a0_0.size : Int))) t102 _ ?side1 ?side2 A6.out).mono ?_); (case side1 => exact qa25); (case side2 => exact HC0_1.out); rintro e w18 ⟨rfl, hb⟩; have hx_ := qHX HB hb qa0; refine ⟨_, rfl, ?_⟩; have n0_ := qO (qB BK101.out hx_ hb); have n1_ := qO (below_step (below_step HB.out hx_) hb); clear BK101; clear HB; have BK101 := n0_; have HB := n1_; clear n0_ n1_; clear hx_; (try clear hb); (try clear hb2); (try clear hk); (try clear hi); have hcz19_0 : w18.cell? ⟨gb101, 0, none⟩ = some (.string a0_0) := (blk_cell BK101.out 0).trans rfl; have hcz19_1 : w18.cell? ⟨gb101, 1, none⟩ = some (.slice A0_1 l0_1.length c0_1) := (blk_cell BK101.out 1).trans rfl; have hcz19_2 : w18.cell? ⟨gb101, 2, none⟩ = some (.string a0_2) := (blk_cell BK101.out 2).trans rfl; have hcz19_3 : w18.cell? ⟨gb101, 3, none⟩ = some (.bool a0_3) := (blk_cell BK101.out 3).trans rfl; have hcz19_4 : w18.cell? ⟨gb101, 4, none⟩ = some (.bool a0_4) := (blk_cell BK101.out 4).trans rfl; have hfz19_0 := blk_frozen BK101.out 0; have hfz19_1 := blk_frozen BK101.out 1; have hfz19_2 := blk_frozen BK101.out 2; have hfz19_3 := blk_frozen BK101.out 3; have hfz19_4 := blk_frozen BK101.out 4))
    go_ret
    exact ⟨qa3, qa6⟩


def laws_szFieldDefS.l0 : Nat → List (S101) → Int → Int → Option (Int)
 | 0, _, _, _ => none
 | k + 1, x0, x1, x5 => if x5 < (x0.length : Int) then (if 0 ≤ x5 then ((laws_szFieldDef.f k ((rd_T101 x0 x5).f0) ((rd_T101 x0 x5).f1) ((rd_T101 x0 x5).f2) ((rd_T101 x0 x5).f3) ((rd_T101 x0 x5).f4) x1).bind fun t102 => (if t102 < 0 then (some (-1)) else (laws_szFieldDefS.l0 k x0 t102 (wrap64 (x5 + 1))))) else (none)) else (some x1)
def laws_szFieldDefS.f (k : Nat) (l0 : List (S101)) (a1 : Int) : Option (Int) := if (wrap64 (a1 - (l0.length : Int))) < 0 then (some (-1)) else (laws_szFieldDefS.l0 k l0 (wrap64 (a1 - (l0.length : Int))) 0)
set_option maxHeartbeats 8000000 in
set_option maxRecDepth 100000 in
theorem laws_szFieldDefS.calls (k : Nat) (A0 : Option Addr) (c0 : Nat) (l0 : List (S101)) (a1 : Int) (r : Int) (w : World) (hr0 : Kd.C k101 w A0 l0.length l0) (hc0 : l0.length ≤ c0) (h : laws_szFieldDefS.f k l0 a1 = some r) :
  Calls Try.prog 74 #[.slice A0 l0.length c0, .int .i64 a1] w fun e w' => e = .returned (.int .i64 r) ∧ Below w.heap.size w w' := by
 have hu101 := Try.underlying101; have HR0 := qO hr0; have HC0 := qO hc0; clear hr0 hc0; have HB := qO (Below.refl w.heap.size w); have H : (if (wrap64 (a1 - (l0.length : Int))) < 0 then (some (-1)) else (laws_szFieldDefS.l0 k l0 (wrap64 (a1 - (l0.length : Int))) 0)) = some r := h; clear h
 by_cases c3 : (wrap64 (a1 - (l0.length : Int))) < 0
 ·rw [if_pos c3] at H
  have c3b0 : decide ((wrap64 (a1 - (l0.length : Int))) < 0) = true := decide_eq_true c3; clear c3; obtain rfl := Option.some.inj H
  go_enter Try.func74, Try.ntmps74
  go_wp2
  go_ret
  exact ⟨qa3, qa8⟩
 ·rw [if_neg c3] at H
  have c3b0 : decide ((wrap64 (a1 - (l0.length : Int))) < 0) = false := decide_eq_false c3; clear c3; have H' := qO H; clear H
  go_enter Try.func74, Try.ntmps74
  go_wp2
  go_loopg [1, 5] k (fun kq v1 v5 w' => ∃ (x1_1 : Int) (x5_1 : Int), v1 = .int .i64 x1_1 ∧ v5 = .int .i64 x5_1 ∧ Aside0 (laws_szFieldDefS.l0 kq l0 x1_1 x5_1 = some r) ∧ Aside0 (kq ≤ k) ∧ Aside0 (Below w.heap.size w w'))
  case atStart => exact ⟨(wrap64 (a1 - (l0.length : Int))), (0), qa11, qa11, H', ⟨Nat.le_refl _⟩, ⟨qa8⟩⟩
  case round =>
   clear H'
   try clear p2
   try clear c3
   try clear c3b0
   obtain ⟨x1_1, x5_1, rfl, rfl, HA, HK1, HB⟩ := hrel
   cases gk with
   | zero => exact absurd HA.out (by simp [laws_szFieldDefS.l0])
   | succ k1 =>
    have H := HA.out; clear HA; simp only [laws_szFieldDefS.l0] at H
    by_cases c4 : x5_1 < (l0.length : Int)
    ·rw [if_pos c4] at H
     have c4b0 : decide (x5_1 < (l0.length : Int)) = true := decide_eq_true c4; clear c4
     by_cases c5 : 0 ≤ x5_1
     ·rw [if_pos c5] at H
      have c5b0 : decide (0 ≤ x5_1) = true := decide_eq_true c5; clear c5; replace H := Option.bind_eq_some_iff.mp H; obtain ⟨t102, A60, H⟩ := H; replace H : (if t102 < 0 then (some (-1)) else (laws_szFieldDefS.l0 k1 l0 t102 (wrap64 (x5_1 + 1)))) = some r := H; have A6 := qO A60; clear A60
      by_cases c7 : t102 < 0
      ·rw [if_pos c7] at H
       have c7b0 : decide (t102 < 0) = true := decide_eq_true c7; clear c7; obtain rfl := Option.some.inj H; have p101 : 0 ≤ (x5_1 : Int) := qT qa5; have q101 : x5_1 < (l0.length : Int) := qT qa5; obtain ⟨ad101, A101_1, c101_1, e101, hx101_0, hx101_1, hx101_2, hx101_3, hx101_4, hl101_1, hi101_1⟩ := at_T101 HR0.out x5_1 p101 q101
       cases e101
       replace hx101_0 := (HB.out.cell (qL w _ hx101_0)).trans hx101_0; replace hx101_1 := (HB.out.cell (qL w _ hx101_1)).trans hx101_1; replace hx101_2 := (HB.out.cell (qL w _ hx101_2)).trans hx101_2; replace hx101_3 := (HB.out.cell (qL w _ hx101_3)).trans hx101_3; replace hx101_4 := (HB.out.cell (qL w _ hx101_4)).trans hx101_4; have HR101_1 := qO hi101_1; have HC101_1 := qO hl101_1; clear hi101_1 hl101_1; replace p101 := eq_true p101; replace q101 := eq_true q101
       go_wp2_with (first | ((with_reducible refine gate_callee (f := 82) rfl ?_); refine goesL_ (some 23) rfl rfl Try.func82 qa17 rfl #[.agg #[.string ((rd_T101 l0 x5_1).f0), .slice A101_1 ((rd_T101 l0 x5_1).f1).length c101_1, .string ((rd_T101 l0 x5_1).f2), .bool ((rd_T101 l0 x5_1).f3), .bool ((rd_T101 l0 x5_1).f4)], .int .i64 x1_1] rfl qa1 ?_; (with_reducible refine (laws_szFieldDef.calls k1 ((rd_T101 l0 x5_1).f0) _ _ ((rd_T101 l0 x5_1).f1) ((rd_T101 l0 x5_1).f2) ((rd_T101 l0 x5_1).f3) ((rd_T101 l0 x5_1).f4) x1_1 t102 _ ?side1 ?side2 A6.out).mono ?_); (case side1 => exact qa39); (case side2 => exact HC101_1.out); rintro e w8 ⟨rfl, hb⟩; have hx_ := qHX HB hb qa0; refine ⟨_, rfl, ?_⟩; have n0_ := qO (below_step (below_step HB.out hx_) hb); clear HB; have HB := n0_; clear n0_; clear hx_; (try clear hb); (try clear hb2); (try clear hk); (try clear hi)))
       go_ret
       exact ⟨qa3, qa8⟩
      ·rw [if_neg c7] at H
       have c7b0 : decide (t102 < 0) = false := decide_eq_false c7; clear c7; have H' := qO H; clear H; have p101 : 0 ≤ (x5_1 : Int) := qT qa5; have q101 : x5_1 < (l0.length : Int) := qT qa5; obtain ⟨ad101, A101_1, c101_1, e101, hx101_0, hx101_1, hx101_2, hx101_3, hx101_4, hl101_1, hi101_1⟩ := at_T101 HR0.out x5_1 p101 q101
       cases e101
       replace hx101_0 := (HB.out.cell (qL w _ hx101_0)).trans hx101_0; replace hx101_1 := (HB.out.cell (qL w _ hx101_1)).trans hx101_1; replace hx101_2 := (HB.out.cell (qL w _ hx101_2)).trans hx101_2; replace hx101_3 := (HB.out.cell (qL w _ hx101_3)).trans hx101_3; replace hx101_4 := (HB.out.cell (qL w _ hx101_4)).trans hx101_4; have HR101_1 := qO hi101_1; have HC101_1 := qO hl101_1; clear hi101_1 hl101_1; replace p101 := eq_true p101; replace q101 := eq_true q101
       go_wp2_with (first | ((with_reducible refine gate_callee (f := 82) rfl ?_); refine goesL_ (some 23) rfl rfl Try.func82 qa17 rfl #[.agg #[.string ((rd_T101 l0 x5_1).f0), .slice A101_1 ((rd_T101 l0 x5_1).f1).length c101_1, .string ((rd_T101 l0 x5_1).f2), .bool ((rd_T101 l0 x5_1).f3), .bool ((rd_T101 l0 x5_1).f4)], .int .i64 x1_1] rfl qa1 ?_; (with_reducible refine (laws_szFieldDef.calls k1 ((rd_T101 l0 x5_1).f0) _ _ ((rd_T101 l0 x5_1).f1) ((rd_T101 l0 x5_1).f2) ((rd_T101 l0 x5_1).f3) ((rd_T101 l0 x5_1).f4) x1_1 t102 _ ?side1 ?side2 A6.out).mono ?_); (case side1 => exact qa39); (case side2 => exact HC101_1.out); rintro e w9 ⟨rfl, hb⟩; have hx_ := qHX HB hb qa0; refine ⟨_, rfl, ?_⟩; have n0_ := qO (below_step (below_step HB.out hx_) hb); clear HB; have HB := n0_; clear n0_; clear hx_; (try clear hb); (try clear hb2); (try clear hk); (try clear hi)))
       go_roundg k1
       case measure => have := HK1.out; omega
       case rel => exact ⟨(t102), (wrap64 (x5_1 + 1)), qa11, qa11, H', ⟨qa87⟩, ⟨qa8⟩⟩
     ·rw [if_neg c5] at H
      exact absurd H qa91
    ·rw [if_neg c4] at H
     have c4b0 : decide (x5_1 < (l0.length : Int)) = false := decide_eq_false c4; clear c4; obtain rfl := Option.some.inj H; go_wp2
     go_ret
     exact ⟨qa3, qa8⟩


def laws_szTypeDef.f (k : Nat) (a0_0 : ByteArray) (l0_1 : List (S101)) (a1 : Int) : Option (Int) := if (wrap64 (a1 - (a0_0.size : Int))) < 0 then (some (-1)) else ((laws_szFieldDefS.f k l0_1 (wrap64 (a1 - (a0_0.size : Int)))).bind fun t102 => (if t102 < 0 then (some (-1)) else (some t102)))
set_option maxHeartbeats 8000000 in
set_option maxRecDepth 100000 in
theorem laws_szTypeDef.calls (k : Nat) (a0_0 : ByteArray) (A0_1 : Option Addr) (c0_1 : Nat) (l0_1 : List (S101)) (a1 : Int) (r : Int) (w : World) (hr0_1 : Kd.C k101 w A0_1 l0_1.length l0_1) (hc0_1 : l0_1.length ≤ c0_1) (h : laws_szTypeDef.f k a0_0 l0_1 a1 = some r) :
  Calls Try.prog 54 #[.agg #[.string a0_0, .slice A0_1 l0_1.length c0_1], .int .i64 a1] w fun e w' => e = .returned (.int .i64 r) ∧ Below w.heap.size w w' := by
 have hu77 := Try.underlying77; have HR0_1 := qO hr0_1; have HC0_1 := qO hc0_1; clear hr0_1 hc0_1; have HB := qO (Below.refl w.heap.size w); have H : (if (wrap64 (a1 - (a0_0.size : Int))) < 0 then (some (-1)) else ((laws_szFieldDefS.f k l0_1 (wrap64 (a1 - (a0_0.size : Int)))).bind fun t102 => (if t102 < 0 then (some (-1)) else (some t102)))) = some r := h; clear h
 by_cases c3 : (wrap64 (a1 - (a0_0.size : Int))) < 0
 ·rw [if_pos c3] at H
  have c3b0 : decide ((wrap64 (a1 - (a0_0.size : Int))) < 0) = true := decide_eq_true c3; clear c3; obtain rfl := Option.some.inj H
  go_enter Try.func54, Try.ntmps54
  go_wp2_with (first | ((with_reducible refine gate_dst (N := 2) rfl ?_); refine box_event ?hg (N := 2) ?hd (cs := #[.string a0_0, .slice A0_1 l0_1.length c0_1]) (t := 77) ?hr ?_; (case hd => rfl); (case hg => rfl); (case hr => exact qa18); intro gb101 hg w4 hbox hb; have hx_ := qHX HB hb qa0; have n0_ := qO (below_step (below_step HB.out hx_) hb); have n1_ := qO (hbox); have n2_ := qO ((qa15 : w.heap.size ≤ gb101)); have n3_ := n2_; clear HB; have HB := n0_; have BK101 := n1_; have GW101 := n2_; have GE101 := n3_; clear n0_ n1_ n2_ n3_; clear hx_; clear hb hbox hg; have hcz5_0 : w4.cell? ⟨gb101, 0, none⟩ = some (.string a0_0) := (blk_cell BK101.out 0).trans rfl; have hcz5_1 : w4.cell? ⟨gb101, 1, none⟩ = some (.slice A0_1 l0_1.length c0_1) := (blk_cell BK101.out 1).trans rfl; have hfz5_0 := blk_frozen BK101.out 0; have hfz5_1 := blk_frozen BK101.out 1))
  go_ret
  exact ⟨qa3, qa6⟩
 ·rw [if_neg c3] at H
  have c3b0 : decide ((wrap64 (a1 - (a0_0.size : Int))) < 0) = false := decide_eq_false c3; clear c3; replace H := Option.bind_eq_some_iff.mp H; obtain ⟨t102, A60, H⟩ := H; replace H : (if t102 < 0 then (some (-1)) else (some t102)) = some r := H; have A6 := qO A60; clear A60
  by_cases c7 : t102 < 0
  ·rw [if_pos c7] at H
   have c7b0 : decide (t102 < 0) = true := decide_eq_true c7; clear c7; obtain rfl := Option.some.inj H
   go_enter Try.func54, Try.ntmps54
   go_wp2_with (first | ((with_reducible refine gate_dst (N := 2) rfl ?_); refine box_event ?hg (N := 2) ?hd (cs := #[.string a0_0, .slice A0_1 l0_1.length c0_1]) (t := 77) ?hr ?_; (case hd => rfl); (case hg => rfl); (case hr => exact qa18); intro gb101 hg w8 hbox hb; have hx_ := qHX HB hb qa0; have n0_ := qO (below_step (below_step HB.out hx_) hb); have n1_ := qO (hbox); have n2_ := qO ((qa15 : w.heap.size ≤ gb101)); have n3_ := n2_; clear HB; have HB := n0_; have BK101 := n1_; have GW101 := n2_; have GE101 := n3_; clear n0_ n1_ n2_ n3_; clear hx_; clear hb hbox hg; have hcz9_0 : w8.cell? ⟨gb101, 0, none⟩ = some (.string a0_0) := (blk_cell BK101.out 0).trans rfl; have hcz9_1 : w8.cell? ⟨gb101, 1, none⟩ = some (.slice A0_1 l0_1.length c0_1) := (blk_cell BK101.out 1).trans rfl; have hfz9_0 := blk_frozen BK101.out 0; have hfz9_1 := blk_frozen BK101.out 1) | ((with_reducible refine gate_callee (f := 74) rfl ?_); refine goesL_ (some 15) rfl rfl Try.func74 qa17 rfl #[.slice A0_1 l0_1.length c0_1, .int .i64 (wrap64 (a1 - (a0_0.size : Int)))] rfl qa1 ?_; (with_reducible refine (laws_szFieldDefS.calls k _ _ l0_1 (wrap64 (a1 - (a0_0.size : Int))) t102 _ ?side1 ?side2 A6.out).mono ?_); (case side1 => exact qa25); (case side2 => exact HC0_1.out); rintro e w10 ⟨rfl, hb⟩; have hx_ := qHX HB hb qa0; refine ⟨_, rfl, ?_⟩; have n0_ := qO (qB BK101.out hx_ hb); have n1_ := qO (below_step (below_step HB.out hx_) hb); clear BK101; clear HB; have BK101 := n0_; have HB := n1_; clear n0_ n1_; clear hx_; (try clear hb); (try clear hb2); (try clear hk); (try clear hi)))
   go_ret
   exact ⟨qa3, qa6⟩
  ·rw [if_neg c7] at H
   have c7b0 : decide (t102 < 0) = false := decide_eq_false c7; clear c7; obtain rfl := Option.some.inj H
   go_enter Try.func54, Try.ntmps54
   go_wp2_with (first | ((with_reducible refine gate_dst (N := 2) rfl ?_); refine box_event ?hg (N := 2) ?hd (cs := #[.string a0_0, .slice A0_1 l0_1.length c0_1]) (t := 77) ?hr ?_; (case hd => rfl); (case hg => rfl); (case hr => exact qa18); intro gb101 hg w11 hbox hb; have hx_ := qHX HB hb qa0; have n0_ := qO (below_step (below_step HB.out hx_) hb); have n1_ := qO (hbox); have n2_ := qO ((qa15 : w.heap.size ≤ gb101)); have n3_ := n2_; clear HB; have HB := n0_; have BK101 := n1_; have GW101 := n2_; have GE101 := n3_; clear n0_ n1_ n2_ n3_; clear hx_; clear hb hbox hg; have hcz12_0 : w11.cell? ⟨gb101, 0, none⟩ = some (.string a0_0) := (blk_cell BK101.out 0).trans rfl; have hcz12_1 : w11.cell? ⟨gb101, 1, none⟩ = some (.slice A0_1 l0_1.length c0_1) := (blk_cell BK101.out 1).trans rfl; have hfz12_0 := blk_frozen BK101.out 0; have hfz12_1 := blk_frozen BK101.out 1) | ((with_reducible refine gate_callee (f := 74) rfl ?_); refine goesL_ (some 15) rfl rfl Try.func74 qa17 rfl #[.slice A0_1 l0_1.length c0_1, .int .i64 (wrap64 (a1 - (a0_0.size : Int)))] rfl qa1 ?_; (with_reducible refine (laws_szFieldDefS.calls k _ _ l0_1 (wrap64 (a1 - (a0_0.size : Int))) t102 _ ?side1 ?side2 A6.out).mono ?_); (case side1 => exact qa25); (case side2 => exact HC0_1.out); rintro e w13 ⟨rfl, hb⟩; have hx_ := qHX HB hb qa0; refine ⟨_, rfl, ?_⟩; have n0_ := qO (qB BK101.out hx_ hb); have n1_ := qO (below_step (below_step HB.out hx_) hb); clear BK101; clear HB; have BK101 := n0_; have HB := n1_; clear n0_ n1_; clear hx_; (try clear hb); (try clear hb2); (try clear hk); (try clear hi)))
   go_ret
   exact ⟨qa3, qa6⟩


def laws_szTypeDefS.l0 : Nat → List (S77) → Int → Int → Option (Int)
 | 0, _, _, _ => none
 | k + 1, x0, x1, x5 => if x5 < (x0.length : Int) then (if 0 ≤ x5 then ((laws_szTypeDef.f k ((rd_T77 x0 x5).f0) ((rd_T77 x0 x5).f1) x1).bind fun t102 => (if t102 < 0 then (some (-1)) else (laws_szTypeDefS.l0 k x0 t102 (wrap64 (x5 + 1))))) else (none)) else (some x1)
def laws_szTypeDefS.f (k : Nat) (l0 : List (S77)) (a1 : Int) : Option (Int) := if (wrap64 (a1 - (l0.length : Int))) < 0 then (some (-1)) else (laws_szTypeDefS.l0 k l0 (wrap64 (a1 - (l0.length : Int))) 0)
set_option maxHeartbeats 8000000 in
set_option maxRecDepth 100000 in
theorem laws_szTypeDefS.calls (k : Nat) (A0 : Option Addr) (c0 : Nat) (l0 : List (S77)) (a1 : Int) (r : Int) (w : World) (hr0 : Kd.C k77 w A0 l0.length l0) (hc0 : l0.length ≤ c0) (h : laws_szTypeDefS.f k l0 a1 = some r) :
  Calls Try.prog 26 #[.slice A0 l0.length c0, .int .i64 a1] w fun e w' => e = .returned (.int .i64 r) ∧ Below w.heap.size w w' := by
 have hu77 := Try.underlying77; have HR0 := qO hr0; have HC0 := qO hc0; clear hr0 hc0; have HB := qO (Below.refl w.heap.size w); have H : (if (wrap64 (a1 - (l0.length : Int))) < 0 then (some (-1)) else (laws_szTypeDefS.l0 k l0 (wrap64 (a1 - (l0.length : Int))) 0)) = some r := h; clear h
 by_cases c3 : (wrap64 (a1 - (l0.length : Int))) < 0
 ·rw [if_pos c3] at H
  have c3b0 : decide ((wrap64 (a1 - (l0.length : Int))) < 0) = true := decide_eq_true c3; clear c3; obtain rfl := Option.some.inj H
  go_enter Try.func26, Try.ntmps26
  go_wp2
  go_ret
  exact ⟨qa3, qa8⟩
 ·rw [if_neg c3] at H
  have c3b0 : decide ((wrap64 (a1 - (l0.length : Int))) < 0) = false := decide_eq_false c3; clear c3; have H' := qO H; clear H
  go_enter Try.func26, Try.ntmps26
  go_wp2
  go_loopg [1, 5] k (fun kq v1 v5 w' => ∃ (x1_1 : Int) (x5_1 : Int), v1 = .int .i64 x1_1 ∧ v5 = .int .i64 x5_1 ∧ Aside0 (laws_szTypeDefS.l0 kq l0 x1_1 x5_1 = some r) ∧ Aside0 (kq ≤ k) ∧ Aside0 (Below w.heap.size w w'))
  case atStart => exact ⟨(wrap64 (a1 - (l0.length : Int))), (0), qa11, qa11, H', ⟨Nat.le_refl _⟩, ⟨qa8⟩⟩
  case round =>
   clear H'
   try clear c2
   try clear p2
   try clear c3
   try clear c3b0
   obtain ⟨x1_1, x5_1, rfl, rfl, HA, HK1, HB⟩ := hrel
   cases gk with
   | zero => exact absurd HA.out (by simp [laws_szTypeDefS.l0])
   | succ k1 =>
    have H := HA.out; clear HA; simp only [laws_szTypeDefS.l0] at H
    by_cases c4 : x5_1 < (l0.length : Int)
    ·rw [if_pos c4] at H
     have c4b0 : decide (x5_1 < (l0.length : Int)) = true := decide_eq_true c4; clear c4
     by_cases c5 : 0 ≤ x5_1
     ·rw [if_pos c5] at H
      have c5b0 : decide (0 ≤ x5_1) = true := decide_eq_true c5; clear c5; replace H := Option.bind_eq_some_iff.mp H; obtain ⟨t102, A60, H⟩ := H; replace H : (if t102 < 0 then (some (-1)) else (laws_szTypeDefS.l0 k1 l0 t102 (wrap64 (x5_1 + 1)))) = some r := H; have A6 := qO A60; clear A60
      by_cases c7 : t102 < 0
      ·rw [if_pos c7] at H
       have c7b0 : decide (t102 < 0) = true := decide_eq_true c7; clear c7; obtain rfl := Option.some.inj H; have p101 : 0 ≤ (x5_1 : Int) := qT qa5; have q101 : x5_1 < (l0.length : Int) := qT qa5; obtain ⟨ad101, A101_1, c101_1, e101, hx101_0, hx101_1, hl101_1, hi101_1⟩ := at_T77 HR0.out x5_1 p101 q101
       cases e101
       replace hx101_0 := (HB.out.cell (qL w _ hx101_0)).trans hx101_0; replace hx101_1 := (HB.out.cell (qL w _ hx101_1)).trans hx101_1; have HR101_1 := qO hi101_1; have HC101_1 := qO hl101_1; clear hi101_1 hl101_1; replace p101 := eq_true p101; replace q101 := eq_true q101
       go_wp2_with (first | ((with_reducible refine gate_callee (f := 54) rfl ?_); refine goesL_ (some 23) rfl rfl Try.func54 qa17 rfl #[.agg #[.string ((rd_T77 l0 x5_1).f0), .slice A101_1 ((rd_T77 l0 x5_1).f1).length c101_1], .int .i64 x1_1] rfl qa1 ?_; (with_reducible refine (laws_szTypeDef.calls k1 ((rd_T77 l0 x5_1).f0) _ _ ((rd_T77 l0 x5_1).f1) x1_1 t102 _ ?side1 ?side2 A6.out).mono ?_); (case side1 => exact qa39); (case side2 => exact HC101_1.out); rintro e w8 ⟨rfl, hb⟩; have hx_ := qHX HB hb qa0; refine ⟨_, rfl, ?_⟩; have n0_ := qO (below_step (below_step HB.out hx_) hb); clear HB; have HB := n0_; clear n0_; clear hx_; (try clear hb); (try clear hb2); (try clear hk); (try clear hi)))
       go_ret
       exact ⟨qa3, qa8⟩
      ·rw [if_neg c7] at H
       have c7b0 : decide (t102 < 0) = false := decide_eq_false c7; clear c7; have H' := qO H; clear H; have p101 : 0 ≤ (x5_1 : Int) := qT qa5; have q101 : x5_1 < (l0.length : Int) := qT qa5; obtain ⟨ad101, A101_1, c101_1, e101, hx101_0, hx101_1, hl101_1, hi101_1⟩ := at_T77 HR0.out x5_1 p101 q101
       cases e101
       replace hx101_0 := (HB.out.cell (qL w _ hx101_0)).trans hx101_0; replace hx101_1 := (HB.out.cell (qL w _ hx101_1)).trans hx101_1; have HR101_1 := qO hi101_1; have HC101_1 := qO hl101_1; clear hi101_1 hl101_1; replace p101 := eq_true p101; replace q101 := eq_true q101
       go_wp2_with (first | ((with_reducible refine gate_callee (f := 54) rfl ?_); refine goesL_ (some 23) rfl rfl Try.func54 qa17 rfl #[.agg #[.string ((rd_T77 l0 x5_1).f0), .slice A101_1 ((rd_T77 l0 x5_1).f1).length c101_1], .int .i64 x1_1] rfl qa1 ?_; (with_reducible refine (laws_szTypeDef.calls k1 ((rd_T77 l0 x5_1).f0) _ _ ((rd_T77 l0 x5_1).f1) x1_1 t102 _ ?side1 ?side2 A6.out).mono ?_); (case side1 => exact qa39); (case side2 => exact HC101_1.out); rintro e w9 ⟨rfl, hb⟩; have hx_ := qHX HB hb qa0; refine ⟨_, rfl, ?_⟩; have n0_ := qO (below_step (below_step HB.out hx_) hb); clear HB; have HB := n0_; clear n0_; clear hx_; (try clear hb); (try clear hb2); (try clear hk); (try clear hi)))
       go_roundg k1
       case measure => have := HK1.out; omega
       case rel => exact ⟨(t102), (wrap64 (x5_1 + 1)), qa11, qa11, H', ⟨qa87⟩, ⟨qa8⟩⟩
     ·rw [if_neg c5] at H
      exact absurd H qa91
    ·rw [if_neg c4] at H
     have c4b0 : decide (x5_1 < (l0.length : Int)) = false := decide_eq_false c4; clear c4; obtain rfl := Option.some.inj H; go_wp2
     go_ret
     exact ⟨qa3, qa8⟩


def laws_szSchema.f (k : Nat) (l0_0 : List (S77)) (a1 : Int) : Option (Int) := (laws_szTypeDefS.f k l0_0 a1).bind fun t102 => (if t102 < 0 then (some (-1)) else (some t102))
set_option maxHeartbeats 8000000 in
set_option maxRecDepth 100000 in
theorem laws_szSchema.calls (k : Nat) (A0_0 : Option Addr) (c0_0 : Nat) (l0_0 : List (S77)) (a1 : Int) (r : Int) (w : World) (hr0_0 : Kd.C k77 w A0_0 l0_0.length l0_0) (hc0_0 : l0_0.length ≤ c0_0) (h : laws_szSchema.f k l0_0 a1 = some r) :
  Calls Try.prog 8 #[.agg #[.slice A0_0 l0_0.length c0_0], .int .i64 a1] w fun e w' => e = .returned (.int .i64 r) ∧ Below w.heap.size w w' := by
 have hu24 := Try.underlying24; have HR0_0 := qO hr0_0; have HC0_0 := qO hc0_0; clear hr0_0 hc0_0; have HB := qO (Below.refl w.heap.size w); have H : ((laws_szTypeDefS.f k l0_0 a1).bind fun t102 => (if t102 < 0 then (some (-1)) else (some t102))) = some r := h; clear h; replace H := Option.bind_eq_some_iff.mp H; obtain ⟨t102, A30, H⟩ := H; replace H : (if t102 < 0 then (some (-1)) else (some t102)) = some r := H; have A3 := qO A30; clear A30
 by_cases c4 : t102 < 0
 ·rw [if_pos c4] at H
  have c4b0 : decide (t102 < 0) = true := decide_eq_true c4; clear c4; obtain rfl := Option.some.inj H
  go_enter Try.func8, Try.ntmps8
  go_wp2_with (first | ((with_reducible refine gate_dst (N := 2) rfl ?_); refine box_event ?hg (N := 2) ?hd (cs := #[.slice A0_0 l0_0.length c0_0]) (t := 24) ?hr ?_; (case hd => rfl); (case hg => rfl); (case hr => exact qa18); intro gb101 hg w5 hbox hb; have hx_ := qHX HB hb qa0; have n0_ := qO (below_step (below_step HB.out hx_) hb); have n1_ := qO (hbox); have n2_ := qO ((qa15 : w.heap.size ≤ gb101)); have n3_ := n2_; clear HB; have HB := n0_; have BK101 := n1_; have GW101 := n2_; have GE101 := n3_; clear n0_ n1_ n2_ n3_; clear hx_; clear hb hbox hg; have hcz6_0 : w5.cell? ⟨gb101, 0, none⟩ = some (.slice A0_0 l0_0.length c0_0) := (blk_cell BK101.out 0).trans rfl; have hfz6_0 := blk_frozen BK101.out 0) | ((with_reducible refine gate_callee (f := 26) rfl ?_); refine goesL_ (some 8) rfl rfl Try.func26 qa17 rfl #[.slice A0_0 l0_0.length c0_0, .int .i64 a1] rfl qa1 ?_; (with_reducible refine (laws_szTypeDefS.calls k _ _ l0_0 a1 t102 _ ?side1 ?side2 A3.out).mono ?_); (case side1 => exact qa19); (case side2 => exact HC0_0.out); rintro e w7 ⟨rfl, hb⟩; have hx_ := qHX HB hb qa0; refine ⟨_, rfl, ?_⟩; have n0_ := qO (qB BK101.out hx_ hb); have n1_ := qO (below_step (below_step HB.out hx_) hb); clear BK101; clear HB; have BK101 := n0_; have HB := n1_; clear n0_ n1_; clear hx_; (try clear hb); (try clear hb2); (try clear hk); (try clear hi)))
  go_ret
  exact ⟨qa3, qa6⟩
 ·rw [if_neg c4] at H
  have c4b0 : decide (t102 < 0) = false := decide_eq_false c4; clear c4; obtain rfl := Option.some.inj H
  go_enter Try.func8, Try.ntmps8
  go_wp2_with (first | ((with_reducible refine gate_dst (N := 2) rfl ?_); refine box_event ?hg (N := 2) ?hd (cs := #[.slice A0_0 l0_0.length c0_0]) (t := 24) ?hr ?_; (case hd => rfl); (case hg => rfl); (case hr => exact qa18); intro gb101 hg w8 hbox hb; have hx_ := qHX HB hb qa0; have n0_ := qO (below_step (below_step HB.out hx_) hb); have n1_ := qO (hbox); have n2_ := qO ((qa15 : w.heap.size ≤ gb101)); have n3_ := n2_; clear HB; have HB := n0_; have BK101 := n1_; have GW101 := n2_; have GE101 := n3_; clear n0_ n1_ n2_ n3_; clear hx_; clear hb hbox hg; have hcz9_0 : w8.cell? ⟨gb101, 0, none⟩ = some (.slice A0_0 l0_0.length c0_0) := (blk_cell BK101.out 0).trans rfl; have hfz9_0 := blk_frozen BK101.out 0) | ((with_reducible refine gate_callee (f := 26) rfl ?_); refine goesL_ (some 8) rfl rfl Try.func26 qa17 rfl #[.slice A0_0 l0_0.length c0_0, .int .i64 a1] rfl qa1 ?_; (with_reducible refine (laws_szTypeDefS.calls k _ _ l0_0 a1 t102 _ ?side1 ?side2 A3.out).mono ?_); (case side1 => exact qa19); (case side2 => exact HC0_0.out); rintro e w10 ⟨rfl, hb⟩; have hx_ := qHX HB hb qa0; refine ⟨_, rfl, ?_⟩; have n0_ := qO (qB BK101.out hx_ hb); have n1_ := qO (below_step (below_step HB.out hx_) hb); clear BK101; clear HB; have BK101 := n0_; have HB := n1_; clear n0_ n1_; clear hx_; (try clear hb); (try clear hb2); (try clear hk); (try clear hi)))
  go_ret
  exact ⟨qa3, qa6⟩


def laws_toArgDef.f (a0_0 : ByteArray) (a0_1 : Bool) : Option (ByteArray × Bool) := some (a0_0, a0_1)
set_option maxHeartbeats 8000000 in
set_option maxRecDepth 100000 in
theorem laws_toArgDef.calls (a0_0 : ByteArray) (a0_1 : Bool) (r1 : ByteArray) (r2 : Bool) (w : World) (h : laws_toArgDef.f a0_0 a0_1 = some (r1, r2)) :
  Calls Try.prog 87 #[.agg #[.string a0_0, .bool a0_1]] w fun e w' => e = .returned (.agg #[.string r1, .bool r2]) ∧ Below w.heap.size w w' := by
 have hu106 := Try.underlying106; have hu57 := Try.underlying57; have HB := qO (Below.refl w.heap.size w); have H : (some (a0_0, a0_1)) = some (r1, r2) := h; clear h; simp only [Option.some.injEq, Prod.mk.injEq] at H; obtain ⟨rfl, rfl⟩ := H
 go_enter Try.func87, Try.ntmps87
 go_wp2_with (first | ((with_reducible refine gate_dst (N := 1) rfl ?_); refine box_event ?hg (N := 1) ?hd (cs := #[.string a0_0, .bool a0_1]) (t := 106) ?hr ?_; (case hd => rfl); (case hg => rfl); (case hr => exact qa18); intro gb101 hg w2 hbox hb; have hx_ := qHX HB hb qa0; have n0_ := qO (below_step (below_step HB.out hx_) hb); have n1_ := qO (hbox); have n2_ := qO ((qa15 : w.heap.size ≤ gb101)); have n3_ := n2_; clear HB; have HB := n0_; have BK101 := n1_; have GW101 := n2_; have GE101 := n3_; clear n0_ n1_ n2_ n3_; clear hx_; clear hb hbox hg) | ((with_reducible refine gate_dst (N := 2) rfl ?_); refine box_event ?hg (N := 2) ?hd (cs := #[.string (⟨#[]⟩ : ByteArray), .bool false]) (t := 57) ?hr ?_; (case hd => rfl); (case hg => rfl); (case hr => exact qa18); intro gb102 hg w3 hbox hb; have hx_ := qHX HB hb qa0; have n0_ := qO (qB BK101.out hx_ hb); have n1_ := qO (below_step (below_step HB.out hx_) hb); have n2_ := qO (hbox); have n3_ := qO ((qa15 : w.heap.size ≤ gb102)); have n4_ := n3_; have n5_ := qO ((qa84 : gb101 ≠ gb102)); have n6_ := qO (Ne.symm n5_.out); clear BK101; clear HB; have BK101 := n0_; have HB := n1_; have BK102 := n2_; have GW102 := n3_; have GE102 := n4_; have NB101_102 := n5_; have NB102_101 := n6_; clear n0_ n1_ n2_ n3_ n4_ n5_ n6_; clear hx_; clear hb hbox hg) | ((with_reducible refine gate_dst (N := 3) rfl ?_); refine box_event ?hg (N := 3) ?hd (cs := #[.string (⟨#[]⟩ : ByteArray), .bool false]) (t := 57) ?hr ?_; (case hd => rfl); (case hg => rfl); (case hr => exact qa18); intro gb103 hg w4 hbox hb; have hx_ := qHX HB hb qa0; have n0_ := qO (qB BK101.out hx_ hb); have n1_ := qO (qB BK102.out hx_ hb); have n2_ := qO (below_step (below_step HB.out hx_) hb); have n3_ := qO (hbox); have n4_ := qO ((qa15 : w.heap.size ≤ gb103)); have n5_ := n4_; have n6_ := qO ((qa84 : gb101 ≠ gb103)); have n7_ := qO (Ne.symm n6_.out); have n8_ := qO ((by rw [hg]; exact Nat.ne_of_lt (blk_lt (g := gb102) (o := .cells #[.string (⟨#[]⟩ : ByteArray), .bool false] 57 (0, 0)) (by (with_reducible repeat (first | refine qkN ?_ _ | refine qkD ?_ | refine qkA ?_ _)); exact BK102.out)) : gb102 ≠ gb103)); have n9_ := qO (Ne.symm n8_.out); clear BK101; clear BK102; clear HB; have BK101 := n0_; have BK102 := n1_; have HB := n2_; have BK103 := n3_; have GW103 := n4_; have GE103 := n5_; have NB101_103 := n6_; have NB103_101 := n7_; have NB102_103 := n8_; have NB103_102 := n9_; clear n0_ n1_ n2_ n3_ n4_ n5_ n6_ n7_ n8_ n9_; clear hx_; clear hb hbox hg; have hnb5 := NB101_102.out; have hnc5 := NB102_101.out; have hnb6 := NB101_103.out; have hnc6 := NB103_101.out; have hcz7_0 : w4.cell? ⟨gb101, 0, none⟩ = some (.string a0_0) := (blk_cell BK101.out 0).trans rfl; have hcz7_1 : w4.cell? ⟨gb101, 1, none⟩ = some (.bool a0_1) := (blk_cell BK101.out 1).trans rfl; have hfz7_0 := blk_frozen BK101.out 0; have hfz7_1 := blk_frozen BK101.out 1; have hnb8 := NB103_102.out; have hnc8 := NB102_103.out; have hcz9_0 : w4.cell? ⟨gb103, 0, none⟩ = some (.string (⟨#[]⟩ : ByteArray)) := (blk_cell BK103.out 0).trans rfl; have hcz9_1 : w4.cell? ⟨gb103, 1, none⟩ = some (.bool false) := (blk_cell BK103.out 1).trans rfl; have hfz9_0 := blk_frozen BK103.out 0; have hfz9_1 := blk_frozen BK103.out 1; have hcz10_0 : w4.cell? ⟨gb102, 0, none⟩ = some (.string (⟨#[]⟩ : ByteArray)) := (blk_cell BK102.out 0).trans rfl; have hcz10_1 : w4.cell? ⟨gb102, 1, none⟩ = some (.bool false) := (blk_cell BK102.out 1).trans rfl; have hfz10_0 := blk_frozen BK102.out 0; have hfz10_1 := blk_frozen BK102.out 1))
 refine bodyPost_ret (results_cell_row rfl _ _ gb102 57 #[.string a0_0, .bool a0_1] (0, 0) _ rfl (by (with_reducible repeat (first | refine qkN ?_ _ | refine qkD ?_ | refine qkA ?_ _)); refine blk_put (cs := #[.string a0_0, .bool false]) ?_ 1 _ rfl; (with_reducible repeat (first | refine qkN ?_ _ | refine qkD ?_ | refine qkA ?_ _)); refine blk_put (cs := #[.string (⟨#[]⟩ : ByteArray), .bool false]) ?_ 0 _ rfl; (with_reducible repeat (first | refine qkN ?_ _ | refine qkD ?_ | refine qkA ?_ _)); refine blk_far ?_ NB102_103.out _; (with_reducible repeat (first | refine qkN ?_ _ | refine qkD ?_ | refine qkA ?_ _)); refine blk_far ?_ NB102_103.out _; (with_reducible repeat (first | refine qkN ?_ _ | refine qkD ?_ | refine qkA ?_ _)); exact BK102.out) Try.underlying57 rfl qa17) rfl ?_
 exact ⟨qa3, qa35⟩


def laws_toArgDefS.l0 : Nat → List (S106) → List (S57) → Int → Option ((List (S57)))
 | 0, _, _, _ => none
 | k + 1, x0, x3, x4 => if x4 < (x0.length : Int) then (if 0 ≤ x4 then ((laws_toArgDef.f ((rd_T106 x0 x4).f0) ((rd_T106 x0 x4).f1)).bind fun bt105 => (if x4 < (x3.length : Int) then (laws_toArgDefS.l0 k x0 (x3.set (x4 : Int).toNat (⟨bt105.1, bt105.2⟩ : S57)) (wrap64 (x4 + 1))) else (none))) else (none)) else (some x3)
def laws_toArgDefS.f (k : Nat) (l0 : List (S106)) : Option ((List (S57))) := if 0 ≤ (l0.length : Int) then (if ((l0.length : Int) : Int).toNat ≤ 11728124029610 then (laws_toArgDefS.l0 k l0 (List.replicate ((l0.length : Int) : Int).toNat z57) 0) else (none)) else (none)
set_option maxHeartbeats 8000000 in
set_option maxRecDepth 100000 in
theorem laws_toArgDefS.calls (k : Nat) (A0 : Option Addr) (c0 : Nat) (l0 : List (S106)) (r : List (S57)) (w : World) (hr0 : Kd.C k106 w A0 l0.length l0) (hc0 : l0.length ≤ c0) (h : laws_toArgDefS.f k l0 = some r) :
  Calls Try.prog 85 #[.slice A0 l0.length c0] w fun e w' => ∃ v0_ : Value, e = .returned (v0_) ∧ Kd.R k57 57 w' w.heap.size (fun _ => True) v0_ r ∧ Below w.heap.size w w' := by
 have hu106 := Try.underlying106; have hu57 := Try.underlying57; have HR0 := qO hr0; have HC0 := qO hc0; clear hr0 hc0; have HB := qO (Below.refl w.heap.size w); have H : (if 0 ≤ (l0.length : Int) then (if ((l0.length : Int) : Int).toNat ≤ 11728124029610 then (laws_toArgDefS.l0 k l0 (List.replicate ((l0.length : Int) : Int).toNat z57) 0) else (none)) else (none)) = some r := h; clear h
 by_cases c2 : 0 ≤ (l0.length : Int)
 ·rw [if_pos c2] at H
  have c2b0 := eq_true c2; have c2b1 : decide (0 ≤ (l0.length : Int)) = true := decide_eq_true c2; clear c2
  by_cases c3 : ((l0.length : Int) : Int).toNat ≤ 11728124029610
  ·rw [if_pos c3] at H
   have c3b0 := eq_true c3; have c3b1 : decide (((l0.length : Int) : Int).toNat ≤ 11728124029610) = true := decide_eq_true c3; clear c3; obtain ⟨y101, hy101⟩ : ∃ y_ : List (S57), y_ = (List.replicate ((l0.length : Int) : Int).toNat z57) := ⟨_, rfl⟩; replace H : (laws_toArgDefS.l0 k l0 y101 0) = some r := by first | (rw [hy101]; with_reducible exact H) | (have H2_ := (Option.bind_some _ _).symm.trans H; rw [hy101]; with_reducible exact H2_) | (have H2_ := (Option.bind_some _ _).symm.trans H; with_reducible exact H2_) | with_reducible exact H | (rw [hy101]; exact H) | exact H
   have Ny101 := qO hy101; clear hy101; have H' := qO H; clear H
   go_enter Try.func85, Try.ntmps85
   go_wp2_with (first | ((with_reducible refine gate_dst (N := 7) rfl ?_); refine Kd.R_make k57 _ 57 rfl (N := 7) rfl 36 _ _ rfl (l0.length : Int) rfl rfl Try.underlying36 (.agg #[(.string ⟨#[]⟩), (.bool false)]) 24 info57 rfl qa108 qa27 z57 (ok := fun _ => True) (okp := fun _ => True) (k57_mkM _ _ _ z57 ) (fun _ hk => hk) trivial (qT qa5) (Nat.le_trans (Nat.mul_le_mul_right _ (qT qa5 : (l0.length : Int).toNat ≤ 11728124029610)) qa27) (Below.refl _ _) (Nat.le_refl _) ?_; intro v102 w4 ho5 hb hg_ hnew_; clear hg_ hnew_; (first | rw [← Ny101.out] at ho5 | (simp only [Int.reduceToNat] at ho5; rw [← Ny101.out] at ho5)); have n0_ := qO (Kd.R_lower ho5 (below_size qa8)); have n1_ := qO (below_step qa8 hb); clear HB; have HO103 := n0_; have HB := n1_; clear n0_ n1_; clear hb ho5))
   go_loopg [4] k (fun kq v4 w' => ∃ (x3_1 : List (S57)) (x4_1 : Int), v4 = .int .i64 x4_1 ∧ Aside0 (laws_toArgDefS.l0 kq l0 x3_1 x4_1 = some r) ∧ Aside0 (kq ≤ k) ∧ Aside0 (Kd.R k57 57 w' w.heap.size (fun _ => True) v102 x3_1) ∧ Aside0 (Below w.heap.size w w'))
   case atStart => exact ⟨(y101), (0), qa11, H', ⟨Nat.le_refl _⟩, ⟨qa104⟩, ⟨qa8⟩⟩
   case round =>
    clear H'
    try clear c2
    try clear c2b0
    try clear c2b1
    try clear p2
    try clear c3
    try clear c3b0
    try clear c3b1
    obtain ⟨x3_1, x4_1, rfl, HA, HK1, HO_3, HB⟩ := hrel
    cases gk with
    | zero => exact absurd HA.out (by simp [laws_toArgDefS.l0])
    | succ k1 =>
     have H := HA.out; clear HA; simp only [laws_toArgDefS.l0] at H
     by_cases c6 : x4_1 < (l0.length : Int)
     ·rw [if_pos c6] at H
      have c6b0 : decide (x4_1 < (l0.length : Int)) = true := decide_eq_true c6; clear c6
      by_cases c7 : 0 ≤ x4_1
      ·rw [if_pos c7] at H
       have c7b0 : decide (0 ≤ x4_1) = true := decide_eq_true c7; clear c7; replace H := Option.bind_eq_some_iff.mp H; obtain ⟨⟨t105, t106⟩, A80, H⟩ := H; replace H : (if x4_1 < (x3_1.length : Int) then (laws_toArgDefS.l0 k1 l0 (x3_1.set (x4_1 : Int).toNat (⟨t105, t106⟩ : S57)) (wrap64 (x4_1 + 1))) else (none)) = some r := H; have A8 := qO A80; clear A80
       by_cases c9 : x4_1 < (x3_1.length : Int)
       ·rw [if_pos c9] at H
        have c9b0 : decide (x4_1 < (x3_1.length : Int)) = true := decide_eq_true c9; clear c9; obtain ⟨y107, hy107⟩ : ∃ y_ : List (S57), y_ = (x3_1.set (x4_1 : Int).toNat (⟨t105, t106⟩ : S57)) := ⟨_, rfl⟩; replace H : (laws_toArgDefS.l0 k1 l0 y107 (wrap64 (x4_1 + 1))) = some r := by first | (rw [hy107]; with_reducible exact H) | (have H2_ := (Option.bind_some _ _).symm.trans H; rw [hy107]; with_reducible exact H2_) | (have H2_ := (Option.bind_some _ _).symm.trans H; with_reducible exact H2_) | with_reducible exact H | (rw [hy107]; exact H) | exact H
        have Ny107 := qO hy107; clear hy107; have H' := qO H; clear H; have p104 : 0 ≤ (x4_1 : Int) := qT qa5; have q104 : x4_1 < (l0.length : Int) := qT qa5; obtain ⟨ad104, e104, hx104_0, hx104_1⟩ := at_T106 HR0.out x4_1 p104 q104
        cases e104
        replace hx104_0 := (HB.out.cell (qL w _ hx104_0)).trans hx104_0; replace hx104_1 := (HB.out.cell (qL w _ hx104_1)).trans hx104_1; replace p104 := eq_true p104; replace q104 := eq_true q104
        go_wp2_with (first | ((with_reducible refine gate_callee (f := 87) rfl ?_); refine goesL_ (some 20) rfl rfl Try.func87 qa17 rfl #[.agg #[.string ((rd_T106 l0 x4_1).f0), .bool ((rd_T106 l0 x4_1).f1)]] rfl qa1 ?_; (with_reducible refine (laws_toArgDef.calls ((rd_T106 l0 x4_1).f0) ((rd_T106 l0 x4_1).f1) t105 t106 _ A8.out).mono ?_); rintro e w11 ⟨rfl, hb⟩; have hx_ := qHX HB hb qa0; refine ⟨_, rfl, ?_⟩; have n0_ := qO (Kd.R_below qa53 hb); have n1_ := qO (below_step (below_step HB.out hx_) hb); clear HO_3; clear HB; have HO_3 := n0_; have HB := n1_; clear n0_ n1_; clear hx_; (try clear hb); (try clear hb2); (try clear hk); (try clear hi); have p10 : 0 ≤ (x4_1 : Int) := qT qa5; have q10 : (x4_1 : Int) < ((x3_1.length : Int) : Int) := qT qa5; obtain ⟨go10, co10, eo10, gb10, gl10, cl10, HG10⟩ := Kd.R_form HO_3.out qa27; (first | cases eo10 | (injection eo10 with ea_ en_ ec_; (first | subst ea_ | (injection ea_ with ea_; subst ea_)); subst ec_; clear en_)); have GB10 := qO gb10; have GG10 := qO HG10; clear gb10 gl10 HG10; obtain ⟨ce10, hcl10, hM10, hcc10, hfr10⟩ := Kd.R_elem HO_3.out z57 (x4_1 : Int) p10 q10; obtain rfl := k57_openM hM10; have hx10_0 : w11.cell? ⟨go10, (x4_1 : Int).toNat * 2, none⟩ = some (.string ((rd_T57 x3_1 x4_1).f0)) := hcc10 0 _ rfl; have hx10_1 : w11.cell? ⟨go10, (x4_1 : Int).toNat * 2 + 1, none⟩ = some (.bool ((rd_T57 x3_1 x4_1).f1)) := hcc10 1 _ rfl; have hf10_0 : w11.frozen? ⟨go10, (x4_1 : Int).toNat * 2, none⟩ = false := hfr10 0; have hf10_1 : w11.frozen? ⟨go10, (x4_1 : Int).toNat * 2 + 1, none⟩ = false := hfr10 1; clear hcl10 hcc10 hfr10; (try clear hM10); replace p10 := eq_true p10; replace q10 := eq_true q10; have HX12 := qO (show Kd.R k57 57 w11 w.heap.size (fun _ => True) (.slice (some ⟨go10, 0, none⟩) x3_1.length co10) x3_1 from qa53); obtain ⟨ce12, hcl12, hM12, hcc12, hfr12⟩ := Kd.R_elem HX12.out z57 (x4_1 : Int) (qT qa5) (by have h_ : (x4_1 : Int) < ((x3_1.length : Int) : Int) := qT qa5; first | exact h_ | (have e_ := (Kd.R_reads' HO_3.out).1; omega) | simpa using h_); obtain rfl := k57_openM hM12; have HP12 := Kd.R_seg HX12.out (x4_1 : Int) (qT qa5) (by have h_ : (x4_1 : Int) < ((x3_1.length : Int) : Int) := qT qa5; first | exact h_ | (have e_ := (Kd.R_reads' HO_3.out).1; omega) | simpa using h_) (seg := [.string t105, .bool t106]) (j := 0) hcl12 hcc12 (show 2 ≤ 2 from by decide) (x' := (⟨t105, t106⟩ : S57)) (k57_mkM _ _ _ (⟨t105, t106⟩ : S57) ) (fun _ hk => hk); have hx12_0 := hcc12 0 _ rfl; (try simp only [show (k57).sz = 2 from rfl, Nat.mul_one, Nat.add_zero] at hx12_0); have hf12_0 := hfr12 0; (try simp only [show (k57).sz = 2 from rfl, Nat.mul_one, Nat.add_zero] at hf12_0); have hx12_1 := hcc12 1 _ rfl; (try simp only [show (k57).sz = 2 from rfl, Nat.mul_one, Nat.add_zero] at hx12_1); have hf12_1 := hfr12 1; (try simp only [show (k57).sz = 2 from rfl, Nat.mul_one, Nat.add_zero] at hf12_1); clear hcl12 hcc12 hfr12; (try clear hM12)) | ((with_reducible refine gate_store (t := 57) (p := 21) rfl ?_); refine store_event (t := 57) (p := 21) (v := ?vo_w13) (w1 := ((w11.setCell ⟨go10, (x4_1 : Int).toNat * 2, none⟩ (.string t105)).setCell ⟨go10, (x4_1 : Int).toNat * 2 + 1, none⟩ (.bool t106))) ?hg ?ho ?hn ?hr ?_; (case ho => rfl); (case hg => rfl); (case hn => rfl); (case hr => exact qa18); intro w13 hw; have hg : w11.grownBy w13 (some go10) := qa116; have hp_ : Kd.R k57 57 w13 w.heap.size (fun _ => True) (.slice (some ⟨go10, 0, none⟩) x3_1.length co10) y107 := (by rw [hw, Ny107.out]; exact HP12.1); clear HP12; have n0_ := qO (hp_); have n1_ := qO ((by rw [hw]; exact qbS (qbS (HB.out) GB10.out) GB10.out : Below w.heap.size w w13)); clear HO_3; clear HB; have HO_3 := n0_; have HB := n1_; clear n0_ n1_; clear hg hw hp_))
        go_roundg k1
        case measure => have := HK1.out; omega
        case rel => exact ⟨(y107), (wrap64 (x4_1 + 1)), qa11, H', ⟨qa87⟩, ⟨qa53⟩, ⟨qa8⟩⟩
       ·rw [if_neg c9] at H
        exact absurd H qa91
      ·rw [if_neg c7] at H
       exact absurd H qa91
     ·rw [if_neg c6] at H
      have c6b0 : decide (x4_1 < (l0.length : Int)) = false := decide_eq_false c6; clear c6; obtain rfl := Option.some.inj H; go_wp2
      go_ret
      exact ⟨_, qa3, qa53, qa8⟩
  ·rw [if_neg c3] at H
   exact absurd H qa91
 ·rw [if_neg c2] at H
  exact absurd H qa91


def laws_toFieldDef.f (k : Nat) (a0_0 : ByteArray) (l0_1 : List (S106)) (a0_2 : ByteArray) (a0_3 : Bool) (a0_4 : Bool) : Option (ByteArray × (List (S57)) × ByteArray × Bool × Bool) := (laws_toArgDefS.f k l0_1).bind fun t104 => (some (a0_0, t104, a0_2, a0_3, a0_4))
set_option maxHeartbeats 8000000 in
set_option maxRecDepth 100000 in
theorem laws_toFieldDef.calls (k : Nat) (a0_0 : ByteArray) (A0_1 : Option Addr) (c0_1 : Nat) (l0_1 : List (S106)) (a0_2 : ByteArray) (a0_3 : Bool) (a0_4 : Bool) (r1 : ByteArray) (r2 : List (S57)) (r3 : ByteArray) (r4 : Bool) (r5 : Bool) (w : World) (hr0_1 : Kd.C k106 w A0_1 l0_1.length l0_1) (hc0_1 : l0_1.length ≤ c0_1) (h : laws_toFieldDef.f k a0_0 l0_1 a0_2 a0_3 a0_4 = some (r1, r2, r3, r4, r5)) :
  Calls Try.prog 83 #[.agg #[.string a0_0, .slice A0_1 l0_1.length c0_1, .string a0_2, .bool a0_3, .bool a0_4]] w fun e w' => ∃ v1_ : Value, e = .returned (.agg #[.string r1, v1_, .string r3, .bool r4, .bool r5]) ∧ Kd.R k57 57 w' w.heap.size (fun _ => True) v1_ r2 ∧ Below w.heap.size w w' := by
 have hu101 := Try.underlying101; have hu38 := Try.underlying38; have HR0_1 := qO hr0_1; have HC0_1 := qO hc0_1; clear hr0_1 hc0_1; have HB := qO (Below.refl w.heap.size w); have H : ((laws_toArgDefS.f k l0_1).bind fun t104 => (some (a0_0, t104, a0_2, a0_3, a0_4))) = some (r1, r2, r3, r4, r5) := h; clear h; replace H := Option.bind_eq_some_iff.mp H; obtain ⟨t104, A20, H⟩ := H; replace H : (some (a0_0, t104, a0_2, a0_3, a0_4)) = some (r1, r2, r3, r4, r5) := H; have A2 := qO A20; clear A20; simp only [Option.some.injEq, Prod.mk.injEq] at H; obtain ⟨rfl, rfl, rfl, rfl, rfl⟩ := H
 go_enter Try.func83, Try.ntmps83
 go_wp2_with (first | ((with_reducible refine gate_dst (N := 1) rfl ?_); refine box_event ?hg (N := 1) ?hd (cs := #[.string a0_0, .slice A0_1 l0_1.length c0_1, .string a0_2, .bool a0_3, .bool a0_4]) (t := 101) ?hr ?_; (case hd => rfl); (case hg => rfl); (case hr => exact qa18); intro gb101 hg w3 hbox hb; have hx_ := qHX HB hb qa0; have n0_ := qO (below_step (below_step HB.out hx_) hb); have n1_ := qO (hbox); have n2_ := qO ((qa15 : w.heap.size ≤ gb101)); have n3_ := n2_; clear HB; have HB := n0_; have BK101 := n1_; have GW101 := n2_; have GE101 := n3_; clear n0_ n1_ n2_ n3_; clear hx_; clear hb hbox hg) | ((with_reducible refine gate_dst (N := 2) rfl ?_); refine box_event ?hg (N := 2) ?hd (cs := #[.string (⟨#[]⟩ : ByteArray), .slice none 0 0, .string (⟨#[]⟩ : ByteArray), .bool false, .bool false]) (t := 38) ?hr ?_; (case hd => rfl); (case hg => rfl); (case hr => exact qa18); intro gb102 hg w4 hbox hb; have hx_ := qHX HB hb qa0; have n0_ := qO (qB BK101.out hx_ hb); have n1_ := qO (below_step (below_step HB.out hx_) hb); have n2_ := qO (hbox); have n3_ := qO ((qa15 : w.heap.size ≤ gb102)); have n4_ := n3_; have n5_ := qO ((qa75 : gb101 ≠ gb102)); have n6_ := qO (Ne.symm n5_.out); clear BK101; clear HB; have BK101 := n0_; have HB := n1_; have BK102 := n2_; have GW102 := n3_; have GE102 := n4_; have NB101_102 := n5_; have NB102_101 := n6_; clear n0_ n1_ n2_ n3_ n4_ n5_ n6_; clear hx_; clear hb hbox hg) | ((with_reducible refine gate_dst (N := 3) rfl ?_); refine box_event ?hg (N := 3) ?hd (cs := #[.string (⟨#[]⟩ : ByteArray), .slice none 0 0, .string (⟨#[]⟩ : ByteArray), .bool false, .bool false]) (t := 38) ?hr ?_; (case hd => rfl); (case hg => rfl); (case hr => exact qa18); intro gb103 hg w5 hbox hb; have hx_ := qHX HB hb qa0; have n0_ := qO (qB BK101.out hx_ hb); have n1_ := qO (qB BK102.out hx_ hb); have n2_ := qO (below_step (below_step HB.out hx_) hb); have n3_ := qO (hbox); have n4_ := qO ((qa15 : w.heap.size ≤ gb103)); have n5_ := n4_; have n6_ := qO ((qa75 : gb101 ≠ gb103)); have n7_ := qO (Ne.symm n6_.out); have n8_ := qO ((qa49 : gb102 ≠ gb103)); have n9_ := qO (Ne.symm n8_.out); clear BK101; clear BK102; clear HB; have BK101 := n0_; have BK102 := n1_; have HB := n2_; have BK103 := n3_; have GW103 := n4_; have GE103 := n5_; have NB101_103 := n6_; have NB103_101 := n7_; have NB102_103 := n8_; have NB103_102 := n9_; clear n0_ n1_ n2_ n3_ n4_ n5_ n6_ n7_ n8_ n9_; clear hx_; clear hb hbox hg; have hnb6 := NB101_102.out; have hnc6 := NB102_101.out; have hnb7 := NB101_103.out; have hnc7 := NB103_101.out; have hcz8_0 : w5.cell? ⟨gb101, 0, none⟩ = some (.string a0_0) := (blk_cell BK101.out 0).trans rfl; have hcz8_1 : w5.cell? ⟨gb101, 1, none⟩ = some (.slice A0_1 l0_1.length c0_1) := (blk_cell BK101.out 1).trans rfl; have hcz8_2 : w5.cell? ⟨gb101, 2, none⟩ = some (.string a0_2) := (blk_cell BK101.out 2).trans rfl; have hcz8_3 : w5.cell? ⟨gb101, 3, none⟩ = some (.bool a0_3) := (blk_cell BK101.out 3).trans rfl; have hcz8_4 : w5.cell? ⟨gb101, 4, none⟩ = some (.bool a0_4) := (blk_cell BK101.out 4).trans rfl; have hfz8_0 := blk_frozen BK101.out 0; have hfz8_1 := blk_frozen BK101.out 1; have hfz8_2 := blk_frozen BK101.out 2; have hfz8_3 := blk_frozen BK101.out 3; have hfz8_4 := blk_frozen BK101.out 4; have hnb9 := NB103_102.out; have hnc9 := NB102_103.out; have hcz10_0 : w5.cell? ⟨gb103, 0, none⟩ = some (.string (⟨#[]⟩ : ByteArray)) := (blk_cell BK103.out 0).trans rfl; have hcz10_1 : w5.cell? ⟨gb103, 1, none⟩ = some (.slice none 0 0) := (blk_cell BK103.out 1).trans rfl; have hcz10_2 : w5.cell? ⟨gb103, 2, none⟩ = some (.string (⟨#[]⟩ : ByteArray)) := (blk_cell BK103.out 2).trans rfl; have hcz10_3 : w5.cell? ⟨gb103, 3, none⟩ = some (.bool false) := (blk_cell BK103.out 3).trans rfl; have hcz10_4 : w5.cell? ⟨gb103, 4, none⟩ = some (.bool false) := (blk_cell BK103.out 4).trans rfl; have hfz10_0 := blk_frozen BK103.out 0; have hfz10_1 := blk_frozen BK103.out 1; have hfz10_2 := blk_frozen BK103.out 2; have hfz10_3 := blk_frozen BK103.out 3; have hfz10_4 := blk_frozen BK103.out 4) | ((with_reducible refine gate_callee (f := 85) rfl ?_); refine goesL_ (some 9) rfl rfl Try.func85 qa17 rfl #[.slice A0_1 l0_1.length c0_1] rfl qa1 ?_; (with_reducible refine (laws_toArgDefS.calls k _ _ l0_1 t104 _ ?side1 ?side2 A2.out).mono ?_); (case side1 => exact qa85); (case side2 => exact HC0_1.out); rintro e w11 ⟨v105, rfl, ho0, hb⟩; refine ⟨_, rfl, ?_⟩; have n0_ := qO (Kd.R_lower ho0 (below_size qa35)); have n1_ := qO (blk_below (g := gb101) (o := .cells #[.string a0_0, .slice A0_1 l0_1.length c0_1, .string a0_2, .bool a0_3, .bool a0_4] 101 (0, 0)) qa79 hb); have n2_ := qO (blk_below (g := gb102) (o := .cells #[.string (⟨#[]⟩ : ByteArray), .slice none 0 0, .string (⟨#[]⟩ : ByteArray), .bool false, .bool false] 38 (0, 0)) qa80 hb); have n3_ := qO (blk_below (g := gb103) (o := .cells #[.string a0_0, .slice none 0 0, .string (⟨#[]⟩ : ByteArray), .bool false, .bool false] 38 (0, 0)) (by (with_reducible repeat (first | refine qkN ?_ _ | refine qkD ?_ | refine qkA ?_ _)); refine blk_put (cs := #[.string (⟨#[]⟩ : ByteArray), .slice none 0 0, .string (⟨#[]⟩ : ByteArray), .bool false, .bool false]) ?_ 0 _ rfl; (with_reducible repeat (first | refine qkN ?_ _ | refine qkD ?_ | refine qkA ?_ _)); exact BK103.out) hb); have n4_ := qO (below_step qa35 hb); clear BK101; clear BK102; clear BK103; clear HB; have HO106 := n0_; have BK101 := n1_; have BK102 := n2_; have BK103 := n3_; have HB := n4_; clear n0_ n1_ n2_ n3_ n4_; (try clear hb); (try clear hb2); (try clear hk); (try clear hi); (try clear ho0); obtain ⟨Ao12, co12, eo12⟩ := Kd.R_slice HO106.out; subst eo12; have hcz13_0 : w11.cell? ⟨gb103, 0, none⟩ = some (.string a0_0) := (blk_cell BK103.out 0).trans rfl; have hcz13_1 : w11.cell? ⟨gb103, 1, none⟩ = some (.slice none 0 0) := (blk_cell BK103.out 1).trans rfl; have hcz13_2 : w11.cell? ⟨gb103, 2, none⟩ = some (.string (⟨#[]⟩ : ByteArray)) := (blk_cell BK103.out 2).trans rfl; have hcz13_3 : w11.cell? ⟨gb103, 3, none⟩ = some (.bool false) := (blk_cell BK103.out 3).trans rfl; have hcz13_4 : w11.cell? ⟨gb103, 4, none⟩ = some (.bool false) := (blk_cell BK103.out 4).trans rfl; have hfz13_0 := blk_frozen BK103.out 0; have hfz13_1 := blk_frozen BK103.out 1; have hfz13_2 := blk_frozen BK103.out 2; have hfz13_3 := blk_frozen BK103.out 3; have hfz13_4 := blk_frozen BK103.out 4; have hcz14_0 : w11.cell? ⟨gb101, 0, none⟩ = some (.string a0_0) := (blk_cell BK101.out 0).trans rfl; have hcz14_1 : w11.cell? ⟨gb101, 1, none⟩ = some (.slice A0_1 l0_1.length c0_1) := (blk_cell BK101.out 1).trans rfl; have hcz14_2 : w11.cell? ⟨gb101, 2, none⟩ = some (.string a0_2) := (blk_cell BK101.out 2).trans rfl; have hcz14_3 : w11.cell? ⟨gb101, 3, none⟩ = some (.bool a0_3) := (blk_cell BK101.out 3).trans rfl; have hcz14_4 : w11.cell? ⟨gb101, 4, none⟩ = some (.bool a0_4) := (blk_cell BK101.out 4).trans rfl; have hfz14_0 := blk_frozen BK101.out 0; have hfz14_1 := blk_frozen BK101.out 1; have hfz14_2 := blk_frozen BK101.out 2; have hfz14_3 := blk_frozen BK101.out 3; have hfz14_4 := blk_frozen BK101.out 4; have hcz15_0 : w11.cell? ⟨gb102, 0, none⟩ = some (.string (⟨#[]⟩ : ByteArray)) := (blk_cell BK102.out 0).trans rfl; have hcz15_1 : w11.cell? ⟨gb102, 1, none⟩ = some (.slice none 0 0) := (blk_cell BK102.out 1).trans rfl; have hcz15_2 : w11.cell? ⟨gb102, 2, none⟩ = some (.string (⟨#[]⟩ : ByteArray)) := (blk_cell BK102.out 2).trans rfl; have hcz15_3 : w11.cell? ⟨gb102, 3, none⟩ = some (.bool false) := (blk_cell BK102.out 3).trans rfl; have hcz15_4 : w11.cell? ⟨gb102, 4, none⟩ = some (.bool false) := (blk_cell BK102.out 4).trans rfl; have hfz15_0 := blk_frozen BK102.out 0; have hfz15_1 := blk_frozen BK102.out 1; have hfz15_2 := blk_frozen BK102.out 2; have hfz15_3 := blk_frozen BK102.out 3; have hfz15_4 := blk_frozen BK102.out 4))
 refine bodyPost_ret (results_cell_row rfl _ _ gb102 38 #[.string a0_0, .slice Ao12 t104.length co12, .string a0_2, .bool a0_3, .bool a0_4] (0, 0) _ rfl (by (with_reducible repeat (first | refine qkN ?_ _ | refine qkD ?_ | refine qkA ?_ _)); refine blk_put (cs := #[.string a0_0, .slice Ao12 t104.length co12, .string a0_2, .bool a0_3, .bool false]) ?_ 4 _ rfl; (with_reducible repeat (first | refine qkN ?_ _ | refine qkD ?_ | refine qkA ?_ _)); refine blk_put (cs := #[.string a0_0, .slice Ao12 t104.length co12, .string a0_2, .bool false, .bool false]) ?_ 3 _ rfl; (with_reducible repeat (first | refine qkN ?_ _ | refine qkD ?_ | refine qkA ?_ _)); refine blk_put (cs := #[.string a0_0, .slice Ao12 t104.length co12, .string (⟨#[]⟩ : ByteArray), .bool false, .bool false]) ?_ 2 _ rfl; (with_reducible repeat (first | refine qkN ?_ _ | refine qkD ?_ | refine qkA ?_ _)); refine blk_put (cs := #[.string a0_0, .slice none 0 0, .string (⟨#[]⟩ : ByteArray), .bool false, .bool false]) ?_ 1 _ rfl; (with_reducible repeat (first | refine qkN ?_ _ | refine qkD ?_ | refine qkA ?_ _)); refine blk_put (cs := #[.string (⟨#[]⟩ : ByteArray), .slice none 0 0, .string (⟨#[]⟩ : ByteArray), .bool false, .bool false]) ?_ 0 _ rfl; (with_reducible repeat (first | refine qkN ?_ _ | refine qkD ?_ | refine qkA ?_ _)); refine blk_far ?_ NB102_103.out _; (with_reducible repeat (first | refine qkN ?_ _ | refine qkD ?_ | refine qkA ?_ _)); refine blk_far ?_ NB102_103.out _; (with_reducible repeat (first | refine qkN ?_ _ | refine qkD ?_ | refine qkA ?_ _)); refine blk_far ?_ NB102_103.out _; (with_reducible repeat (first | refine qkN ?_ _ | refine qkD ?_ | refine qkA ?_ _)); refine blk_far ?_ NB102_103.out _; (with_reducible repeat (first | refine qkN ?_ _ | refine qkD ?_ | refine qkA ?_ _)); exact BK102.out) Try.underlying38 rfl qa17) rfl ?_
 exact ⟨_, qa3, by (with_reducible repeat (first | apply Kd.R_alloc | apply Kd.R_drewN | apply Kd.R_drew)); exact Kd.R_mono (Kd.R_far (p := ⟨gb102, 4, none⟩) (Kd.R_far (p := ⟨gb102, 3, none⟩) (Kd.R_far (p := ⟨gb102, 2, none⟩) (Kd.R_far (p := ⟨gb102, 1, none⟩) (Kd.R_far (p := ⟨gb102, 0, none⟩) (Kd.R_far (p := ⟨gb103, 4, none⟩) (Kd.R_far (p := ⟨gb103, 3, none⟩) (Kd.R_far (p := ⟨gb103, 2, none⟩) (Kd.R_far (p := ⟨gb103, 1, none⟩) (Kd.R_types (Kd.R_types HO106.out BK103.out (by decide)) BK102.out (by decide)) (fun _ hk => hk.1.2) (.slice Ao12 t104.length co12)) (fun _ hk => hk.1.2) (.string a0_2)) (fun _ hk => hk.1.2) (.bool a0_3)) (fun _ hk => hk.1.2) (.bool a0_4)) (fun _ hk => hk.2) (.string a0_0)) (fun _ hk => hk.2) (.slice Ao12 t104.length co12)) (fun _ hk => hk.2) (.string a0_2)) (fun _ hk => hk.2) (.bool a0_3)) (fun _ hk => hk.2) (.bool a0_4)) (fun _ hk => trivial), qa35⟩


def laws_toFieldDefS.l0 : Nat → List (S101) → List (S38) → Int → Option ((List (S38)))
 | 0, _, _, _ => none
 | k + 1, x0, x3, x4 => if x4 < (x0.length : Int) then (if 0 ≤ x4 then ((laws_toFieldDef.f k ((rd_T101 x0 x4).f0) ((rd_T101 x0 x4).f1) ((rd_T101 x0 x4).f2) ((rd_T101 x0 x4).f3) ((rd_T101 x0 x4).f4)).bind fun bt105 => (if x4 < (x3.length : Int) then (laws_toFieldDefS.l0 k x0 (x3.set (x4 : Int).toNat (⟨bt105.1, bt105.2.1, bt105.2.2.1, bt105.2.2.2.1, bt105.2.2.2.2⟩ : S38)) (wrap64 (x4 + 1))) else (none))) else (none)) else (some x3)
def laws_toFieldDefS.f (k : Nat) (l0 : List (S101)) : Option ((List (S38))) := if 0 ≤ (l0.length : Int) then (if ((l0.length : Int) : Int).toNat ≤ 4398046511104 then (laws_toFieldDefS.l0 k l0 (List.replicate ((l0.length : Int) : Int).toNat z38) 0) else (none)) else (none)
set_option maxHeartbeats 8000000 in
set_option maxRecDepth 100000 in
theorem laws_toFieldDefS.calls (k : Nat) (A0 : Option Addr) (c0 : Nat) (l0 : List (S101)) (r : List (S38)) (w : World) (hr0 : Kd.C k101 w A0 l0.length l0) (hc0 : l0.length ≤ c0) (h : laws_toFieldDefS.f k l0 = some r) :
  Calls Try.prog 77 #[.slice A0 l0.length c0] w fun e w' => ∃ v0_ : Value, e = .returned (v0_) ∧ Kd.S k38 38 w' w.heap.size (fun _ => True) v0_ r ∧ Below w.heap.size w w' := by
 have hu101 := Try.underlying101; have hu38 := Try.underlying38; have HR0 := qO hr0; have HC0 := qO hc0; clear hr0 hc0; have HB := qO (Below.refl w.heap.size w); have H : (if 0 ≤ (l0.length : Int) then (if ((l0.length : Int) : Int).toNat ≤ 4398046511104 then (laws_toFieldDefS.l0 k l0 (List.replicate ((l0.length : Int) : Int).toNat z38) 0) else (none)) else (none)) = some r := h; clear h
 by_cases c2 : 0 ≤ (l0.length : Int)
 ·rw [if_pos c2] at H
  have c2b0 := eq_true c2; have c2b1 : decide (0 ≤ (l0.length : Int)) = true := decide_eq_true c2; clear c2
  by_cases c3 : ((l0.length : Int) : Int).toNat ≤ 4398046511104
  ·rw [if_pos c3] at H
   have c3b0 := eq_true c3; have c3b1 : decide (((l0.length : Int) : Int).toNat ≤ 4398046511104) = true := decide_eq_true c3; clear c3; obtain ⟨y101, hy101⟩ : ∃ y_ : List (S38), y_ = (List.replicate ((l0.length : Int) : Int).toNat z38) := ⟨_, rfl⟩; replace H : (laws_toFieldDefS.l0 k l0 y101 0) = some r := by first | (rw [hy101]; with_reducible exact H) | (have H2_ := (Option.bind_some _ _).symm.trans H; rw [hy101]; with_reducible exact H2_) | (have H2_ := (Option.bind_some _ _).symm.trans H; with_reducible exact H2_) | with_reducible exact H | (rw [hy101]; exact H) | exact H
   have Ny101 := qO hy101; clear hy101; have H' := qO H; clear H
   go_enter Try.func77, Try.ntmps77
   go_wp2_with (first | ((with_reducible refine gate_dst (N := 7) rfl ?_); refine Kd.S_make k38 _ 38 rfl (N := 7) rfl 51 _ _ rfl (l0.length : Int) rfl rfl Try.underlying51 (.agg #[(.string ⟨#[]⟩), (.slice none 0 0), (.string ⟨#[]⟩), (.bool false), (.bool false)]) 64 info38 rfl qa108 qa27 z38 (ok := fun _ => True) (okp := fun _ => True) (k38_mkM _ _ _ z38 (Kd.R_nil _ _ _ _ _)) (fun _ hk => hk) trivial (qT qa5) (Nat.le_trans (Nat.mul_le_mul_right _ (qT qa5 : (l0.length : Int).toNat ≤ 4398046511104)) qa27) (Below.refl _ _) (Nat.le_refl _) ?_; intro v102 w4 ho5 hb hg_ hnew_; clear hg_ hnew_; (first | rw [← Ny101.out] at ho5 | (simp only [Int.reduceToNat] at ho5; rw [← Ny101.out] at ho5)); have n0_ := qO (Kd.S_lower ho5 (below_size qa8)); have n1_ := qO (below_step qa8 hb); clear HB; have HO103 := n0_; have HB := n1_; clear n0_ n1_; clear hb ho5))
   go_loopg [4] k (fun kq v4 w' => ∃ (x3_1 : List (S38)) (x4_1 : Int), v4 = .int .i64 x4_1 ∧ Aside0 (laws_toFieldDefS.l0 kq l0 x3_1 x4_1 = some r) ∧ Aside0 (kq ≤ k) ∧ Aside0 (Kd.S k38 38 w' w.heap.size (fun _ => True) v102 x3_1) ∧ Aside0 (Below w.heap.size w w'))
   case atStart => exact ⟨(y101), (0), qa11, H', ⟨Nat.le_refl _⟩, ⟨by (with_reducible repeat (first | apply Kd.S_alloc | apply Kd.S_drewN | apply Kd.S_drew)); exact HO103.out⟩, ⟨qa8⟩⟩
   case round =>
    clear H'
    try clear c2
    try clear c2b0
    try clear c2b1
    try clear p2
    try clear c3
    try clear c3b0
    try clear c3b1
    obtain ⟨x3_1, x4_1, rfl, HA, HK1, HO_3, HB⟩ := hrel
    cases gk with
    | zero => exact absurd HA.out (by simp [laws_toFieldDefS.l0])
    | succ k1 =>
     have H := HA.out; clear HA; simp only [laws_toFieldDefS.l0] at H
     by_cases c6 : x4_1 < (l0.length : Int)
     ·rw [if_pos c6] at H
      have c6b0 : decide (x4_1 < (l0.length : Int)) = true := decide_eq_true c6; clear c6
      by_cases c7 : 0 ≤ x4_1
      ·rw [if_pos c7] at H
       have c7b0 : decide (0 ≤ x4_1) = true := decide_eq_true c7; clear c7; replace H := Option.bind_eq_some_iff.mp H; obtain ⟨⟨t105, t106, t109, t110, t111⟩, A80, H⟩ := H; replace H : (if x4_1 < (x3_1.length : Int) then (laws_toFieldDefS.l0 k1 l0 (x3_1.set (x4_1 : Int).toNat (⟨t105, t106, t109, t110, t111⟩ : S38)) (wrap64 (x4_1 + 1))) else (none)) = some r := H; have A8 := qO A80; clear A80
       by_cases c9 : x4_1 < (x3_1.length : Int)
       ·rw [if_pos c9] at H
        have c9b0 : decide (x4_1 < (x3_1.length : Int)) = true := decide_eq_true c9; clear c9; obtain ⟨y112, hy112⟩ : ∃ y_ : List (S38), y_ = (x3_1.set (x4_1 : Int).toNat (⟨t105, t106, t109, t110, t111⟩ : S38)) := ⟨_, rfl⟩; replace H : (laws_toFieldDefS.l0 k1 l0 y112 (wrap64 (x4_1 + 1))) = some r := by first | (rw [hy112]; with_reducible exact H) | (have H2_ := (Option.bind_some _ _).symm.trans H; rw [hy112]; with_reducible exact H2_) | (have H2_ := (Option.bind_some _ _).symm.trans H; with_reducible exact H2_) | with_reducible exact H | (rw [hy112]; exact H) | exact H
        have Ny112 := qO hy112; clear hy112; have H' := qO H; clear H; have p104 : 0 ≤ (x4_1 : Int) := qT qa5; have q104 : x4_1 < (l0.length : Int) := qT qa5; obtain ⟨ad104, A104_1, c104_1, e104, hx104_0, hx104_1, hx104_2, hx104_3, hx104_4, hl104_1, hi104_1⟩ := at_T101 HR0.out x4_1 p104 q104
        cases e104
        replace hx104_0 := (HB.out.cell (qL w _ hx104_0)).trans hx104_0; replace hx104_1 := (HB.out.cell (qL w _ hx104_1)).trans hx104_1; replace hx104_2 := (HB.out.cell (qL w _ hx104_2)).trans hx104_2; replace hx104_3 := (HB.out.cell (qL w _ hx104_3)).trans hx104_3; replace hx104_4 := (HB.out.cell (qL w _ hx104_4)).trans hx104_4; have HR104_1 := qO hi104_1; have HC104_1 := qO hl104_1; clear hi104_1 hl104_1; replace p104 := eq_true p104; replace q104 := eq_true q104
        go_wp2_with (first | ((with_reducible refine gate_callee (f := 83) rfl ?_); refine goesL_ (some 20) rfl rfl Try.func83 qa17 rfl #[.agg #[.string ((rd_T101 l0 x4_1).f0), .slice A104_1 ((rd_T101 l0 x4_1).f1).length c104_1, .string ((rd_T101 l0 x4_1).f2), .bool ((rd_T101 l0 x4_1).f3), .bool ((rd_T101 l0 x4_1).f4)]] rfl qa1 ?_; (with_reducible refine (laws_toFieldDef.calls k1 ((rd_T101 l0 x4_1).f0) _ _ ((rd_T101 l0 x4_1).f1) ((rd_T101 l0 x4_1).f2) ((rd_T101 l0 x4_1).f3) ((rd_T101 l0 x4_1).f4) t105 t106 t109 t110 t111 _ ?side1 ?side2 A8.out).mono ?_); (case side1 => exact qa66); (case side2 => exact HC104_1.out); rintro e w11 ⟨v107, rfl, ho0, hb⟩; have hx_ := qHX HB hb qa0; refine ⟨_, rfl, ?_⟩; have n0_ := qO (Kd.S_elder' qa92 (Kd.R_base ho0) hb); have n1_ := qO (Kd.R_lower ho0 (below_size (below_step HB.out hx_))); have n2_ := qO (below_step (below_step HB.out hx_) hb); clear HO_3; clear HB; have HO_3 := n0_; have HO108 := n1_; have HB := n2_; clear n0_ n1_ n2_; clear hx_; (try clear hb); (try clear hb2); (try clear hk); (try clear hi); (try clear ho0); have p10 : 0 ≤ (x4_1 : Int) := qT qa5; have q10 : (x4_1 : Int) < ((x3_1.length : Int) : Int) := qT qa5; obtain ⟨go10, co10, eo10, gb10, gl10, cl10, HG10⟩ := Kd.S_form HO_3.out qa27; (first | cases eo10 | (injection eo10 with ea_ en_ ec_; (first | subst ea_ | (injection ea_ with ea_; subst ea_)); subst ec_; clear en_)); have GB10 := qO gb10; have GG10 := qO HG10; clear gb10 gl10 HG10; obtain ⟨_, ce10, hcl10, hM10, hcc10, hfr10, _, _⟩ := Kd.S_elem HO_3.out z38 (x4_1 : Int) p10 q10; obtain ⟨ve10_1, rfl, ge10_1⟩ := k38_openM hM10; have hx10_0 : w11.cell? ⟨go10, (x4_1 : Int).toNat * 5, none⟩ = some (.string ((rd_T38 x3_1 x4_1).f0)) := hcc10 0 _ rfl; have hx10_1 : w11.cell? ⟨go10, (x4_1 : Int).toNat * 5 + 1, none⟩ = some (ve10_1) := hcc10 1 _ rfl; have hx10_2 : w11.cell? ⟨go10, (x4_1 : Int).toNat * 5 + 2, none⟩ = some (.string ((rd_T38 x3_1 x4_1).f2)) := hcc10 2 _ rfl; have hx10_3 : w11.cell? ⟨go10, (x4_1 : Int).toNat * 5 + 3, none⟩ = some (.bool ((rd_T38 x3_1 x4_1).f3)) := hcc10 3 _ rfl; have hx10_4 : w11.cell? ⟨go10, (x4_1 : Int).toNat * 5 + 4, none⟩ = some (.bool ((rd_T38 x3_1 x4_1).f4)) := hcc10 4 _ rfl; have hf10_0 : w11.frozen? ⟨go10, (x4_1 : Int).toNat * 5, none⟩ = false := hfr10 0; have hf10_1 : w11.frozen? ⟨go10, (x4_1 : Int).toNat * 5 + 1, none⟩ = false := hfr10 1; have hf10_2 : w11.frozen? ⟨go10, (x4_1 : Int).toNat * 5 + 2, none⟩ = false := hfr10 2; have hf10_3 : w11.frozen? ⟨go10, (x4_1 : Int).toNat * 5 + 3, none⟩ = false := hfr10 3; have hf10_4 : w11.frozen? ⟨go10, (x4_1 : Int).toNat * 5 + 4, none⟩ = false := hfr10 4; clear hcl10 hcc10 hfr10; (try clear hM10); replace p10 := eq_true p10; replace q10 := eq_true q10; have n_ := qO (Kd.S_mono (ok' := (fun k_ => some k_ ≠ (v107 : Value).ownBlock)) HO_3.out (fun k_ hk => hk.2)); clear HO_3; have HO_3 := n_; clear n_; have HX12 := qO (show Kd.S k38 38 w11 w.heap.size (fun k_ => ((fun _ => True)) k_ ∧ ¬ ((fun k_ => some k_ = (v107 : Value).ownBlock)) k_) (.slice (some ⟨go10, 0, none⟩) x3_1.length co10) x3_1 from (by (with_reducible repeat (first | apply Kd.S_alloc | apply Kd.S_drewN | apply Kd.S_drew)); exact Kd.S_mono HO_3.out (fun k_ hk => ⟨trivial, fun e_ => hk e_⟩))); obtain ⟨oki12, ce12, hcl12, hM12, hcc12, hfr12, hoki12, hH12⟩ := Kd.S_elem HX12.out z38 (x4_1 : Int) (qT qa5) (by have h_ : (x4_1 : Int) < ((x3_1.length : Int) : Int) := qT qa5; first | exact h_ | (have e_ := (Kd.S_reads' HO_3.out).1; omega) | simpa using h_); obtain ⟨ve12_1, rfl, ge12_1⟩ := k38_openM hM12; have HP12 := Kd.S_seg hH12 (qT qa5) (by have h_ : (x4_1 : Int) < ((x3_1.length : Int) : Int) := qT qa5; first | exact h_ | (have e_ := (Kd.S_reads' HO_3.out).1; omega) | simpa using h_) (seg := [.string t105, v107, .string t109, .bool t110, .bool t111]) (j := 0) (show 5 ≤ 5 from by decide) (x' := (⟨t105, t106, t109, t110, t111⟩ : S38)) (k38_mkM _ _ _ (⟨t105, t106, t109, t110, t111⟩ : S38) (Kd.R_mono (Kd.R_tight rfl (Kd.R_mono (ok' := fun k_ => ((fun _ => True)) k_ ∧ k_ ≠ go10) (Kd.R_apart' (HO108.out) (Kd.S_typed HO_3.out) qa108) (fun k_ hk => ⟨trivial, fun e_ => (hk.2) (by rw [e_]; rfl)⟩))) (fun _ h_ => Or.inr (h_)))) (fun _ hk => hk) (fun k_ hk_ => ((Kd.R_mono (ok' := fun k_ => ((fun _ => True)) k_ ∧ k_ ≠ go10) (Kd.R_apart' (HO108.out) (Kd.S_typed HO_3.out) qa108) (fun k_ hk => ⟨trivial, fun e_ => (hk.2) (by rw [e_]; rfl)⟩))).1 k_ hk_.symm); have hx12_0 := hcc12 0 _ rfl; (try simp only [show (k38).sz = 5 from rfl, Nat.mul_one, Nat.add_zero] at hx12_0); have hf12_0 := hfr12 0; (try simp only [show (k38).sz = 5 from rfl, Nat.mul_one, Nat.add_zero] at hf12_0); have hx12_1 := hcc12 1 _ rfl; (try simp only [show (k38).sz = 5 from rfl, Nat.mul_one, Nat.add_zero] at hx12_1); have hf12_1 := hfr12 1; (try simp only [show (k38).sz = 5 from rfl, Nat.mul_one, Nat.add_zero] at hf12_1); have hx12_2 := hcc12 2 _ rfl; (try simp only [show (k38).sz = 5 from rfl, Nat.mul_one, Nat.add_zero] at hx12_2); have hf12_2 := hfr12 2; (try simp only [show (k38).sz = 5 from rfl, Nat.mul_one, Nat.add_zero] at hf12_2); have hx12_3 := hcc12 3 _ rfl; (try simp only [show (k38).sz = 5 from rfl, Nat.mul_one, Nat.add_zero] at hx12_3); have hf12_3 := hfr12 3; (try simp only [show (k38).sz = 5 from rfl, Nat.mul_one, Nat.add_zero] at hf12_3); have hx12_4 := hcc12 4 _ rfl; (try simp only [show (k38).sz = 5 from rfl, Nat.mul_one, Nat.add_zero] at hx12_4); have hf12_4 := hfr12 4; (try simp only [show (k38).sz = 5 from rfl, Nat.mul_one, Nat.add_zero] at hf12_4); clear hcl12 hcc12 hfr12; (try clear hM12); clear hoki12 hH12) | ((with_reducible refine gate_store (t := 38) (p := 21) rfl ?_); refine store_event (t := 38) (p := 21) (v := ?vo_w13) (w1 := (((((w11.setCell ⟨go10, (x4_1 : Int).toNat * 5, none⟩ (.string t105)).setCell ⟨go10, (x4_1 : Int).toNat * 5 + 1, none⟩ (v107)).setCell ⟨go10, (x4_1 : Int).toNat * 5 + 2, none⟩ (.string t109)).setCell ⟨go10, (x4_1 : Int).toNat * 5 + 3, none⟩ (.bool t110)).setCell ⟨go10, (x4_1 : Int).toNat * 5 + 4, none⟩ (.bool t111))) ?hg ?ho ?hn ?hr ?_; (case ho => rfl); (case hg => rfl); (case hn => rfl); (case hr => obtain ⟨Av0_, cv0_, ev0_⟩ := Kd.R_slice HO108.out; rw [ev0_]; first | (go_simp; done) | (go_simp; rfl)); intro w13 hw; have hg : w11.grownBy w13 (some go10) := qa116; have hp_ : Kd.S k38 38 w13 w.heap.size (fun _ => True) (.slice (some ⟨go10, 0, none⟩) x3_1.length co10) y112 := (by rw [hw, Ny112.out]; exact HP12.1); clear HP12; have n0_ := qO (hp_); have n1_ := qO ((by rw [hw]; exact qbS (qbS (qbS (qbS (qbS (HB.out) GB10.out) GB10.out) GB10.out) GB10.out) GB10.out : Below w.heap.size w w13)); clear HO_3; clear HB; clear HO108; have HO_3 := n0_; have HB := n1_; clear n0_ n1_; clear hg hw hp_))
        go_roundg k1
        case measure => have := HK1.out; omega
        case rel => exact ⟨(y112), (wrap64 (x4_1 + 1)), qa11, H', ⟨qa87⟩, ⟨qa92⟩, ⟨qa8⟩⟩
       ·rw [if_neg c9] at H
        exact absurd H qa91
      ·rw [if_neg c7] at H
       exact absurd H qa91
     ·rw [if_neg c6] at H
      have c6b0 : decide (x4_1 < (l0.length : Int)) = false := decide_eq_false c6; clear c6; obtain rfl := Option.some.inj H; go_wp2
      go_ret
      exact ⟨_, qa3, qa92, qa8⟩
  ·rw [if_neg c3] at H
   exact absurd H qa91
 ·rw [if_neg c2] at H
  exact absurd H qa91


def laws_toTypeDef.f (k : Nat) (a0_0 : ByteArray) (l0_1 : List (S101)) : Option (ByteArray × (List (S38))) := (laws_toFieldDefS.f k l0_1).bind fun t104 => (some (a0_0, t104))
set_option maxHeartbeats 8000000 in
set_option maxRecDepth 100000 in
theorem laws_toTypeDef.calls (k : Nat) (a0_0 : ByteArray) (A0_1 : Option Addr) (c0_1 : Nat) (l0_1 : List (S101)) (r1 : ByteArray) (r2 : List (S38)) (w : World) (hr0_1 : Kd.C k101 w A0_1 l0_1.length l0_1) (hc0_1 : l0_1.length ≤ c0_1) (h : laws_toTypeDef.f k a0_0 l0_1 = some (r1, r2)) :
  Calls Try.prog 56 #[.agg #[.string a0_0, .slice A0_1 l0_1.length c0_1]] w fun e w' => ∃ v1_ : Value, e = .returned (.agg #[.string r1, v1_]) ∧ Kd.S k38 38 w' w.heap.size (fun _ => True) v1_ r2 ∧ Below w.heap.size w w' := by
 have hu77 := Try.underlying77; have hu53 := Try.underlying53; have HR0_1 := qO hr0_1; have HC0_1 := qO hc0_1; clear hr0_1 hc0_1; have HB := qO (Below.refl w.heap.size w); have H : ((laws_toFieldDefS.f k l0_1).bind fun t104 => (some (a0_0, t104))) = some (r1, r2) := h; clear h; replace H := Option.bind_eq_some_iff.mp H; obtain ⟨t104, A20, H⟩ := H; replace H : (some (a0_0, t104)) = some (r1, r2) := H; have A2 := qO A20; clear A20; simp only [Option.some.injEq, Prod.mk.injEq] at H; obtain ⟨rfl, rfl⟩ := H
 go_enter Try.func56, Try.ntmps56
 go_wp2_with (first | ((with_reducible refine gate_dst (N := 1) rfl ?_); refine box_event ?hg (N := 1) ?hd (cs := #[.string a0_0, .slice A0_1 l0_1.length c0_1]) (t := 77) ?hr ?_; (case hd => rfl); (case hg => rfl); (case hr => exact qa18); intro gb101 hg w3 hbox hb; have hx_ := qHX HB hb qa0; have n0_ := qO (below_step (below_step HB.out hx_) hb); have n1_ := qO (hbox); have n2_ := qO ((qa15 : w.heap.size ≤ gb101)); have n3_ := n2_; clear HB; have HB := n0_; have BK101 := n1_; have GW101 := n2_; have GE101 := n3_; clear n0_ n1_ n2_ n3_; clear hx_; clear hb hbox hg) | ((with_reducible refine gate_dst (N := 2) rfl ?_); refine box_event ?hg (N := 2) ?hd (cs := #[.string (⟨#[]⟩ : ByteArray), .slice none 0 0]) (t := 53) ?hr ?_; (case hd => rfl); (case hg => rfl); (case hr => exact qa18); intro gb102 hg w4 hbox hb; have hx_ := qHX HB hb qa0; have n0_ := qO (qB BK101.out hx_ hb); have n1_ := qO (below_step (below_step HB.out hx_) hb); have n2_ := qO (hbox); have n3_ := qO ((qa15 : w.heap.size ≤ gb102)); have n4_ := n3_; have n5_ := qO ((qa78 : gb101 ≠ gb102)); have n6_ := qO (Ne.symm n5_.out); clear BK101; clear HB; have BK101 := n0_; have HB := n1_; have BK102 := n2_; have GW102 := n3_; have GE102 := n4_; have NB101_102 := n5_; have NB102_101 := n6_; clear n0_ n1_ n2_ n3_ n4_ n5_ n6_; clear hx_; clear hb hbox hg) | ((with_reducible refine gate_dst (N := 3) rfl ?_); refine box_event ?hg (N := 3) ?hd (cs := #[.string (⟨#[]⟩ : ByteArray), .slice none 0 0]) (t := 53) ?hr ?_; (case hd => rfl); (case hg => rfl); (case hr => exact qa18); intro gb103 hg w5 hbox hb; have hx_ := qHX HB hb qa0; have n0_ := qO (qB BK101.out hx_ hb); have n1_ := qO (qB BK102.out hx_ hb); have n2_ := qO (below_step (below_step HB.out hx_) hb); have n3_ := qO (hbox); have n4_ := qO ((qa15 : w.heap.size ≤ gb103)); have n5_ := n4_; have n6_ := qO ((qa78 : gb101 ≠ gb103)); have n7_ := qO (Ne.symm n6_.out); have n8_ := qO ((by rw [hg]; exact Nat.ne_of_lt (blk_lt (g := gb102) (o := .cells #[.string (⟨#[]⟩ : ByteArray), .slice none 0 0] 53 (0, 0)) (by (with_reducible repeat (first | refine qkN ?_ _ | refine qkD ?_ | refine qkA ?_ _)); exact BK102.out)) : gb102 ≠ gb103)); have n9_ := qO (Ne.symm n8_.out); clear BK101; clear BK102; clear HB; have BK101 := n0_; have BK102 := n1_; have HB := n2_; have BK103 := n3_; have GW103 := n4_; have GE103 := n5_; have NB101_103 := n6_; have NB103_101 := n7_; have NB102_103 := n8_; have NB103_102 := n9_; clear n0_ n1_ n2_ n3_ n4_ n5_ n6_ n7_ n8_ n9_; clear hx_; clear hb hbox hg; have hnb6 := NB101_102.out; have hnc6 := NB102_101.out; have hnb7 := NB101_103.out; have hnc7 := NB103_101.out; have hcz8_0 : w5.cell? ⟨gb101, 0, none⟩ = some (.string a0_0) := (blk_cell BK101.out 0).trans rfl; have hcz8_1 : w5.cell? ⟨gb101, 1, none⟩ = some (.slice A0_1 l0_1.length c0_1) := (blk_cell BK101.out 1).trans rfl; have hfz8_0 := blk_frozen BK101.out 0; have hfz8_1 := blk_frozen BK101.out 1; have hnb9 := NB103_102.out; have hnc9 := NB102_103.out; have hcz10_0 : w5.cell? ⟨gb103, 0, none⟩ = some (.string (⟨#[]⟩ : ByteArray)) := (blk_cell BK103.out 0).trans rfl; have hcz10_1 : w5.cell? ⟨gb103, 1, none⟩ = some (.slice none 0 0) := (blk_cell BK103.out 1).trans rfl; have hfz10_0 := blk_frozen BK103.out 0; have hfz10_1 := blk_frozen BK103.out 1) | ((with_reducible refine gate_callee (f := 77) rfl ?_); refine goesL_ (some 9) rfl rfl Try.func77 qa17 rfl #[.slice A0_1 l0_1.length c0_1] rfl qa1 ?_; (with_reducible refine (laws_toFieldDefS.calls k _ _ l0_1 t104 _ ?side1 ?side2 A2.out).mono ?_); (case side1 => exact qa85); (case side2 => exact HC0_1.out); rintro e w11 ⟨v105, rfl, ho0, hb⟩; refine ⟨_, rfl, ?_⟩; have n0_ := qO (Kd.S_lower ho0 (below_size qa35)); have n1_ := qO (blk_below (g := gb101) (o := .cells #[.string a0_0, .slice A0_1 l0_1.length c0_1] 77 (0, 0)) qa79 hb); have n2_ := qO (blk_below (g := gb102) (o := .cells #[.string (⟨#[]⟩ : ByteArray), .slice none 0 0] 53 (0, 0)) qa80 hb); have n3_ := qO (blk_below (g := gb103) (o := .cells #[.string a0_0, .slice none 0 0] 53 (0, 0)) (by (with_reducible repeat (first | refine qkN ?_ _ | refine qkD ?_ | refine qkA ?_ _)); refine blk_put (cs := #[.string (⟨#[]⟩ : ByteArray), .slice none 0 0]) ?_ 0 _ rfl; (with_reducible repeat (first | refine qkN ?_ _ | refine qkD ?_ | refine qkA ?_ _)); exact BK103.out) hb); have n4_ := qO (below_step qa35 hb); clear BK101; clear BK102; clear BK103; clear HB; have HO106 := n0_; have BK101 := n1_; have BK102 := n2_; have BK103 := n3_; have HB := n4_; clear n0_ n1_ n2_ n3_ n4_; (try clear hb); (try clear hb2); (try clear hk); (try clear hi); (try clear ho0); obtain ⟨Ao12, co12, eo12⟩ := Kd.S_slice HO106.out; subst eo12; have hcz13_0 : w11.cell? ⟨gb103, 0, none⟩ = some (.string a0_0) := (blk_cell BK103.out 0).trans rfl; have hcz13_1 : w11.cell? ⟨gb103, 1, none⟩ = some (.slice none 0 0) := (blk_cell BK103.out 1).trans rfl; have hfz13_0 := blk_frozen BK103.out 0; have hfz13_1 := blk_frozen BK103.out 1; have hcz14_0 : w11.cell? ⟨gb102, 0, none⟩ = some (.string (⟨#[]⟩ : ByteArray)) := (blk_cell BK102.out 0).trans rfl; have hcz14_1 : w11.cell? ⟨gb102, 1, none⟩ = some (.slice none 0 0) := (blk_cell BK102.out 1).trans rfl; have hfz14_0 := blk_frozen BK102.out 0; have hfz14_1 := blk_frozen BK102.out 1))
 refine bodyPost_ret (results_cell_row rfl _ _ gb102 53 #[.string a0_0, .slice Ao12 t104.length co12] (0, 0) _ rfl (by (with_reducible repeat (first | refine qkN ?_ _ | refine qkD ?_ | refine qkA ?_ _)); refine blk_put (cs := #[.string a0_0, .slice none 0 0]) ?_ 1 _ rfl; (with_reducible repeat (first | refine qkN ?_ _ | refine qkD ?_ | refine qkA ?_ _)); refine blk_put (cs := #[.string (⟨#[]⟩ : ByteArray), .slice none 0 0]) ?_ 0 _ rfl; (with_reducible repeat (first | refine qkN ?_ _ | refine qkD ?_ | refine qkA ?_ _)); refine blk_far ?_ NB102_103.out _; (with_reducible repeat (first | refine qkN ?_ _ | refine qkD ?_ | refine qkA ?_ _)); exact BK102.out) Try.underlying53 rfl qa17) rfl ?_
 exact ⟨_, qa3, by (with_reducible repeat (first | apply Kd.S_alloc | apply Kd.S_drewN | apply Kd.S_drew)); exact Kd.S_mono (Kd.S_far (p := ⟨gb102, 1, none⟩) (Kd.S_far (p := ⟨gb102, 0, none⟩) (Kd.S_far (p := ⟨gb103, 1, none⟩) (Kd.S_types (Kd.S_types HO106.out BK103.out (by decide)) BK102.out (by decide)) (fun _ hk => hk.1.2) (.slice Ao12 t104.length co12)) (fun _ hk => hk.2) (.string a0_0)) (fun _ hk => hk.2) (.slice Ao12 t104.length co12)) (fun _ hk => trivial), qa35⟩


def laws_toTypeDefS.l0 : Nat → List (S77) → List (S53) → Int → Option ((List (S53)))
 | 0, _, _, _ => none
 | k + 1, x0, x3, x4 => if x4 < (x0.length : Int) then (if 0 ≤ x4 then ((laws_toTypeDef.f k ((rd_T77 x0 x4).f0) ((rd_T77 x0 x4).f1)).bind fun bt105 => (if x4 < (x3.length : Int) then (laws_toTypeDefS.l0 k x0 (x3.set (x4 : Int).toNat (⟨bt105.1, bt105.2⟩ : S53)) (wrap64 (x4 + 1))) else (none))) else (none)) else (some x3)
def laws_toTypeDefS.f (k : Nat) (l0 : List (S77)) : Option ((List (S53))) := if 0 ≤ (l0.length : Int) then (if ((l0.length : Int) : Int).toNat ≤ 7036874417766 then (laws_toTypeDefS.l0 k l0 (List.replicate ((l0.length : Int) : Int).toNat z53) 0) else (none)) else (none)
set_option maxHeartbeats 8000000 in
set_option maxRecDepth 100000 in
theorem laws_toTypeDefS.calls (k : Nat) (A0 : Option Addr) (c0 : Nat) (l0 : List (S77)) (r : List (S53)) (w : World) (hr0 : Kd.C k77 w A0 l0.length l0) (hc0 : l0.length ≤ c0) (h : laws_toTypeDefS.f k l0 = some r) :
  Calls Try.prog 32 #[.slice A0 l0.length c0] w fun e w' => ∃ v0_ : Value, e = .returned (v0_) ∧ Kd.R k53 53 w' w.heap.size (fun _ => True) v0_ r ∧ Below w.heap.size w w' := by
 have hu77 := Try.underlying77; have hu53 := Try.underlying53; have HR0 := qO hr0; have HC0 := qO hc0; clear hr0 hc0; have HB := qO (Below.refl w.heap.size w); have H : (if 0 ≤ (l0.length : Int) then (if ((l0.length : Int) : Int).toNat ≤ 7036874417766 then (laws_toTypeDefS.l0 k l0 (List.replicate ((l0.length : Int) : Int).toNat z53) 0) else (none)) else (none)) = some r := h; clear h
 by_cases c2 : 0 ≤ (l0.length : Int)
 ·rw [if_pos c2] at H
  have c2b0 := eq_true c2; have c2b1 : decide (0 ≤ (l0.length : Int)) = true := decide_eq_true c2; clear c2
  by_cases c3 : ((l0.length : Int) : Int).toNat ≤ 7036874417766
  ·rw [if_pos c3] at H
   have c3b0 := eq_true c3; have c3b1 : decide (((l0.length : Int) : Int).toNat ≤ 7036874417766) = true := decide_eq_true c3; clear c3; obtain ⟨y101, hy101⟩ : ∃ y_ : List (S53), y_ = (List.replicate ((l0.length : Int) : Int).toNat z53) := ⟨_, rfl⟩; replace H : (laws_toTypeDefS.l0 k l0 y101 0) = some r := by first | (rw [hy101]; with_reducible exact H) | (have H2_ := (Option.bind_some _ _).symm.trans H; rw [hy101]; with_reducible exact H2_) | (have H2_ := (Option.bind_some _ _).symm.trans H; with_reducible exact H2_) | with_reducible exact H | (rw [hy101]; exact H) | exact H
   have Ny101 := qO hy101; clear hy101; have H' := qO H; clear H
   go_enter Try.func32, Try.ntmps32
   go_wp2_with (first | ((with_reducible refine gate_dst (N := 7) rfl ?_); refine Kd.R_make k53 _ 53 rfl (N := 7) rfl 27 _ _ rfl (l0.length : Int) rfl rfl Try.underlying27 (.agg #[(.string ⟨#[]⟩), (.slice none 0 0)]) 40 info53 rfl qa108 qa27 z53 (ok := fun _ => True) (okp := fun _ => True) (k53_mkM _ _ _ z53 (Kd.R_nil _ _ _ _ _)) (fun _ hk => hk) trivial (qT qa5) (Nat.le_trans (Nat.mul_le_mul_right _ (qT qa5 : (l0.length : Int).toNat ≤ 7036874417766)) qa27) (Below.refl _ _) (Nat.le_refl _) ?_; intro v102 w4 ho5 hb hg_ hnew_; clear hg_ hnew_; (first | rw [← Ny101.out] at ho5 | (simp only [Int.reduceToNat] at ho5; rw [← Ny101.out] at ho5)); have n0_ := qO (Kd.R_lower ho5 (below_size qa8)); have n1_ := qO (below_step qa8 hb); clear HB; have HO103 := n0_; have HB := n1_; clear n0_ n1_; clear hb ho5))
   go_loopg [4] k (fun kq v4 w' => ∃ (x3_1 : List (S53)) (x4_1 : Int), v4 = .int .i64 x4_1 ∧ Aside0 (laws_toTypeDefS.l0 kq l0 x3_1 x4_1 = some r) ∧ Aside0 (kq ≤ k) ∧ Aside0 (Kd.R k53 53 w' w.heap.size (fun _ => True) v102 x3_1) ∧ Aside0 (Below w.heap.size w w'))
   case atStart => exact ⟨(y101), (0), qa11, H', ⟨Nat.le_refl _⟩, ⟨qa104⟩, ⟨qa8⟩⟩
   case round =>
    clear H'
    try clear c2
    try clear c2b0
    try clear c2b1
    try clear p2
    try clear c3
    try clear c3b0
    try clear c3b1
    obtain ⟨x3_1, x4_1, rfl, HA, HK1, HO_3, HB⟩ := hrel
    cases gk with
    | zero => exact absurd HA.out (by simp [laws_toTypeDefS.l0])
    | succ k1 =>
     have H := HA.out; clear HA; simp only [laws_toTypeDefS.l0] at H
     by_cases c6 : x4_1 < (l0.length : Int)
     ·rw [if_pos c6] at H
      have c6b0 : decide (x4_1 < (l0.length : Int)) = true := decide_eq_true c6; clear c6
      by_cases c7 : 0 ≤ x4_1
      ·rw [if_pos c7] at H
       have c7b0 : decide (0 ≤ x4_1) = true := decide_eq_true c7; clear c7; replace H := Option.bind_eq_some_iff.mp H; obtain ⟨⟨t105, t106⟩, A80, H⟩ := H; replace H : (if x4_1 < (x3_1.length : Int) then (laws_toTypeDefS.l0 k1 l0 (x3_1.set (x4_1 : Int).toNat (⟨t105, t106⟩ : S53)) (wrap64 (x4_1 + 1))) else (none)) = some r := H; have A8 := qO A80; clear A80
       by_cases c9 : x4_1 < (x3_1.length : Int)
       ·rw [if_pos c9] at H
        have c9b0 : decide (x4_1 < (x3_1.length : Int)) = true := decide_eq_true c9; clear c9; obtain ⟨y109, hy109⟩ : ∃ y_ : List (S53), y_ = (x3_1.set (x4_1 : Int).toNat (⟨t105, t106⟩ : S53)) := ⟨_, rfl⟩; replace H : (laws_toTypeDefS.l0 k1 l0 y109 (wrap64 (x4_1 + 1))) = some r := by first | (rw [hy109]; with_reducible exact H) | (have H2_ := (Option.bind_some _ _).symm.trans H; rw [hy109]; with_reducible exact H2_) | (have H2_ := (Option.bind_some _ _).symm.trans H; with_reducible exact H2_) | with_reducible exact H | (rw [hy109]; exact H) | exact H
        have Ny109 := qO hy109; clear hy109; have H' := qO H; clear H; have p104 : 0 ≤ (x4_1 : Int) := qT qa5; have q104 : x4_1 < (l0.length : Int) := qT qa5; obtain ⟨ad104, A104_1, c104_1, e104, hx104_0, hx104_1, hl104_1, hi104_1⟩ := at_T77 HR0.out x4_1 p104 q104
        cases e104
        replace hx104_0 := (HB.out.cell (qL w _ hx104_0)).trans hx104_0; replace hx104_1 := (HB.out.cell (qL w _ hx104_1)).trans hx104_1; have HR104_1 := qO hi104_1; have HC104_1 := qO hl104_1; clear hi104_1 hl104_1; replace p104 := eq_true p104; replace q104 := eq_true q104
        go_wp2_with (first | ((with_reducible refine gate_callee (f := 56) rfl ?_); refine goesL_ (some 20) rfl rfl Try.func56 qa17 rfl #[.agg #[.string ((rd_T77 l0 x4_1).f0), .slice A104_1 ((rd_T77 l0 x4_1).f1).length c104_1]] rfl qa1 ?_; (with_reducible refine (laws_toTypeDef.calls k1 ((rd_T77 l0 x4_1).f0) _ _ ((rd_T77 l0 x4_1).f1) t105 t106 _ ?side1 ?side2 A8.out).mono ?_); (case side1 => exact qa66); (case side2 => exact HC104_1.out); rintro e w11 ⟨v107, rfl, ho0, hb⟩; have hx_ := qHX HB hb qa0; refine ⟨_, rfl, ?_⟩; have n0_ := qO (Kd.R_elder' qa53 (Kd.S_base ho0) hb); have n1_ := qO (Kd.S_lower ho0 (below_size (below_step HB.out hx_))); have n2_ := qO (below_step (below_step HB.out hx_) hb); clear HO_3; clear HB; have HO_3 := n0_; have HO108 := n1_; have HB := n2_; clear n0_ n1_ n2_; clear hx_; (try clear hb); (try clear hb2); (try clear hk); (try clear hi); (try clear ho0); have p10 : 0 ≤ (x4_1 : Int) := qT qa5; have q10 : (x4_1 : Int) < ((x3_1.length : Int) : Int) := qT qa5; obtain ⟨go10, co10, eo10, gb10, gl10, cl10, HG10⟩ := Kd.R_form HO_3.out qa27; (first | cases eo10 | (injection eo10 with ea_ en_ ec_; (first | subst ea_ | (injection ea_ with ea_; subst ea_)); subst ec_; clear en_)); have GB10 := qO gb10; have GG10 := qO HG10; clear gb10 gl10 HG10; obtain ⟨ce10, hcl10, hM10, hcc10, hfr10⟩ := Kd.R_elem HO_3.out z53 (x4_1 : Int) p10 q10; obtain ⟨ve10_1, rfl, ge10_1⟩ := k53_openM hM10; have hx10_0 : w11.cell? ⟨go10, (x4_1 : Int).toNat * 2, none⟩ = some (.string ((rd_T53 x3_1 x4_1).f0)) := hcc10 0 _ rfl; have hx10_1 : w11.cell? ⟨go10, (x4_1 : Int).toNat * 2 + 1, none⟩ = some (ve10_1) := hcc10 1 _ rfl; have hf10_0 : w11.frozen? ⟨go10, (x4_1 : Int).toNat * 2, none⟩ = false := hfr10 0; have hf10_1 : w11.frozen? ⟨go10, (x4_1 : Int).toNat * 2 + 1, none⟩ = false := hfr10 1; clear hcl10 hcc10 hfr10; (try clear hM10); replace p10 := eq_true p10; replace q10 := eq_true q10; have n_ := qO (Kd.R_mono (ok' := (fun k_ => some k_ ≠ (v107 : Value).ownBlock)) HO_3.out (fun k_ hk => hk.2)); clear HO_3; have HO_3 := n_; clear n_; have HX12 := qO (show Kd.R k53 53 w11 w.heap.size (fun _ => True) (.slice (some ⟨go10, 0, none⟩) x3_1.length co10) x3_1 from (by (with_reducible repeat (first | apply Kd.R_alloc | apply Kd.R_drewN | apply Kd.R_drew)); exact Kd.R_mono HO_3.out (fun _ hk => trivial))); obtain ⟨ce12, hcl12, hM12, hcc12, hfr12⟩ := Kd.R_elem HX12.out z53 (x4_1 : Int) (qT qa5) (by have h_ : (x4_1 : Int) < ((x3_1.length : Int) : Int) := qT qa5; first | exact h_ | (have e_ := (Kd.R_reads' HO_3.out).1; omega) | simpa using h_); obtain ⟨ve12_1, rfl, ge12_1⟩ := k53_openM hM12; have HP12 := Kd.R_seg HX12.out (x4_1 : Int) (qT qa5) (by have h_ : (x4_1 : Int) < ((x3_1.length : Int) : Int) := qT qa5; first | exact h_ | (have e_ := (Kd.R_reads' HO_3.out).1; omega) | simpa using h_) (seg := [.string t105, v107]) (j := 0) hcl12 hcc12 (show 2 ≤ 2 from by decide) (x' := (⟨t105, t106⟩ : S53)) (k53_mkM _ _ _ (⟨t105, t106⟩ : S53) (Kd.R_mono (Kd.R_apart' ((Kd.S_R HO108.out)) (Kd.R_typed HO_3.out) qa108) (fun k_ hk => ⟨trivial, fun e_ => (hk.2) (by rw [e_]; rfl)⟩))) (fun _ hk => hk); have hx12_0 := hcc12 0 _ rfl; (try simp only [show (k53).sz = 2 from rfl, Nat.mul_one, Nat.add_zero] at hx12_0); have hf12_0 := hfr12 0; (try simp only [show (k53).sz = 2 from rfl, Nat.mul_one, Nat.add_zero] at hf12_0); have hx12_1 := hcc12 1 _ rfl; (try simp only [show (k53).sz = 2 from rfl, Nat.mul_one, Nat.add_zero] at hx12_1); have hf12_1 := hfr12 1; (try simp only [show (k53).sz = 2 from rfl, Nat.mul_one, Nat.add_zero] at hf12_1); clear hcl12 hcc12 hfr12; (try clear hM12)) | ((with_reducible refine gate_store (t := 53) (p := 21) rfl ?_); refine store_event (t := 53) (p := 21) (v := ?vo_w13) (w1 := ((w11.setCell ⟨go10, (x4_1 : Int).toNat * 2, none⟩ (.string t105)).setCell ⟨go10, (x4_1 : Int).toNat * 2 + 1, none⟩ (v107))) ?hg ?ho ?hn ?hr ?_; (case ho => rfl); (case hg => rfl); (case hn => rfl); (case hr => obtain ⟨Av0_, cv0_, ev0_⟩ := Kd.R_slice (Kd.S_R HO108.out); rw [ev0_]; first | (go_simp; done) | (go_simp; rfl)); intro w13 hw; have hg : w11.grownBy w13 (some go10) := qa116; have hp_ : Kd.R k53 53 w13 w.heap.size (fun _ => True) (.slice (some ⟨go10, 0, none⟩) x3_1.length co10) y109 := (by rw [hw, Ny109.out]; exact HP12.1); clear HP12; have n0_ := qO (hp_); have n1_ := qO ((by rw [hw]; exact qbS (qbS (HB.out) GB10.out) GB10.out : Below w.heap.size w w13)); clear HO_3; clear HB; clear HO108; have HO_3 := n0_; have HB := n1_; clear n0_ n1_; clear hg hw hp_))
        go_roundg k1
        case measure => have := HK1.out; omega
        case rel => exact ⟨(y109), (wrap64 (x4_1 + 1)), qa11, H', ⟨qa87⟩, ⟨qa53⟩, ⟨qa8⟩⟩
       ·rw [if_neg c9] at H
        exact absurd H qa91
      ·rw [if_neg c7] at H
       exact absurd H qa91
     ·rw [if_neg c6] at H
      have c6b0 : decide (x4_1 < (l0.length : Int)) = false := decide_eq_false c6; clear c6; obtain rfl := Option.some.inj H; go_wp2
      go_ret
      exact ⟨_, qa3, qa53, qa8⟩
  ·rw [if_neg c3] at H
   exact absurd H qa91
 ·rw [if_neg c2] at H
  exact absurd H qa91


def laws_toSchema.f (k : Nat) (l0_0 : List (S77)) : Option ((List (S53))) := (laws_toTypeDefS.f k l0_0).bind fun t104 => (some t104)
set_option maxHeartbeats 8000000 in
set_option maxRecDepth 100000 in
theorem laws_toSchema.calls (k : Nat) (A0_0 : Option Addr) (c0_0 : Nat) (l0_0 : List (S77)) (r : List (S53)) (w : World) (hr0_0 : Kd.C k77 w A0_0 l0_0.length l0_0) (hc0_0 : l0_0.length ≤ c0_0) (h : laws_toSchema.f k l0_0 = some r) :
  Calls Try.prog 10 #[.agg #[.slice A0_0 l0_0.length c0_0]] w fun e w' => ∃ v0_ : Value, e = .returned (.agg #[v0_]) ∧ Kd.R k53 53 w' w.heap.size (fun _ => True) v0_ r ∧ Below w.heap.size w w' := by
 have hu24 := Try.underlying24; have hu29 := Try.underlying29; have HR0_0 := qO hr0_0; have HC0_0 := qO hc0_0; clear hr0_0 hc0_0; have HB := qO (Below.refl w.heap.size w); have H : ((laws_toTypeDefS.f k l0_0).bind fun t104 => (some t104)) = some r := h; clear h; replace H := Option.bind_eq_some_iff.mp H; obtain ⟨t104, A20, H⟩ := H; replace H : (some t104) = some r := H; have A2 := qO A20; clear A20; obtain rfl := Option.some.inj H
 go_enter Try.func10, Try.ntmps10
 go_wp2_with (first | ((with_reducible refine gate_dst (N := 1) rfl ?_); refine box_event ?hg (N := 1) ?hd (cs := #[.slice A0_0 l0_0.length c0_0]) (t := 24) ?hr ?_; (case hd => rfl); (case hg => rfl); (case hr => exact qa18); intro gb101 hg w3 hbox hb; have hx_ := qHX HB hb qa0; have n0_ := qO (below_step (below_step HB.out hx_) hb); have n1_ := qO (hbox); have n2_ := qO ((qa15 : w.heap.size ≤ gb101)); have n3_ := n2_; clear HB; have HB := n0_; have BK101 := n1_; have GW101 := n2_; have GE101 := n3_; clear n0_ n1_ n2_ n3_; clear hx_; clear hb hbox hg) | ((with_reducible refine gate_dst (N := 2) rfl ?_); refine box_event ?hg (N := 2) ?hd (cs := #[.slice none 0 0]) (t := 29) ?hr ?_; (case hd => rfl); (case hg => rfl); (case hr => exact qa18); intro gb102 hg w4 hbox hb; have hx_ := qHX HB hb qa0; have n0_ := qO (qB BK101.out hx_ hb); have n1_ := qO (below_step (below_step HB.out hx_) hb); have n2_ := qO (hbox); have n3_ := qO ((qa15 : w.heap.size ≤ gb102)); have n4_ := n3_; have n5_ := qO ((qa82 : gb101 ≠ gb102)); have n6_ := qO (Ne.symm n5_.out); clear BK101; clear HB; have BK101 := n0_; have HB := n1_; have BK102 := n2_; have GW102 := n3_; have GE102 := n4_; have NB101_102 := n5_; have NB102_101 := n6_; clear n0_ n1_ n2_ n3_ n4_ n5_ n6_; clear hx_; clear hb hbox hg) | ((with_reducible refine gate_dst (N := 3) rfl ?_); refine box_event ?hg (N := 3) ?hd (cs := #[.slice none 0 0]) (t := 29) ?hr ?_; (case hd => rfl); (case hg => rfl); (case hr => exact qa18); intro gb103 hg w5 hbox hb; have hx_ := qHX HB hb qa0; have n0_ := qO (qB BK101.out hx_ hb); have n1_ := qO (qB BK102.out hx_ hb); have n2_ := qO (below_step (below_step HB.out hx_) hb); have n3_ := qO (hbox); have n4_ := qO ((qa15 : w.heap.size ≤ gb103)); have n5_ := n4_; have n6_ := qO ((qa82 : gb101 ≠ gb103)); have n7_ := qO (Ne.symm n6_.out); have n8_ := qO ((by rw [hg]; exact Nat.ne_of_lt (blk_lt (g := gb102) (o := .cells #[.slice none 0 0] 29 (0, 0)) (by (with_reducible repeat (first | refine qkN ?_ _ | refine qkD ?_ | refine qkA ?_ _)); exact BK102.out)) : gb102 ≠ gb103)); have n9_ := qO (Ne.symm n8_.out); clear BK101; clear BK102; clear HB; have BK101 := n0_; have BK102 := n1_; have HB := n2_; have BK103 := n3_; have GW103 := n4_; have GE103 := n5_; have NB101_103 := n6_; have NB103_101 := n7_; have NB102_103 := n8_; have NB103_102 := n9_; clear n0_ n1_ n2_ n3_ n4_ n5_ n6_ n7_ n8_ n9_; clear hx_; clear hb hbox hg; have hnb6 := NB101_102.out; have hnc6 := NB102_101.out; have hnb7 := NB101_103.out; have hnc7 := NB103_101.out; have hcz8_0 : w5.cell? ⟨gb101, 0, none⟩ = some (.slice A0_0 l0_0.length c0_0) := (blk_cell BK101.out 0).trans rfl; have hfz8_0 := blk_frozen BK101.out 0) | ((with_reducible refine gate_callee (f := 32) rfl ?_); refine goesL_ (some 6) rfl rfl Try.func32 qa17 rfl #[.slice A0_0 l0_0.length c0_0] rfl qa1 ?_; (with_reducible refine (laws_toTypeDefS.calls k _ _ l0_0 t104 _ ?side1 ?side2 A2.out).mono ?_); (case side1 => exact qa19); (case side2 => exact HC0_0.out); rintro e w9 ⟨v105, rfl, ho0, hb⟩; have hx_ := qHX HB hb qa0; refine ⟨_, rfl, ?_⟩; have n0_ := qO (Kd.R_lower ho0 (below_size (below_step HB.out hx_))); have n1_ := qO (qB BK101.out hx_ hb); have n2_ := qO (qB BK102.out hx_ hb); have n3_ := qO (qB BK103.out hx_ hb); have n4_ := qO (below_step (below_step HB.out hx_) hb); clear BK101; clear BK102; clear BK103; clear HB; have HO106 := n0_; have BK101 := n1_; have BK102 := n2_; have BK103 := n3_; have HB := n4_; clear n0_ n1_ n2_ n3_ n4_; clear hx_; (try clear hb); (try clear hb2); (try clear hk); (try clear hi); (try clear ho0); obtain ⟨Ao10, co10, eo10⟩ := Kd.R_slice HO106.out; subst eo10; have hnb11 := NB103_102.out; have hnc11 := NB102_103.out; have hcz12_0 : w9.cell? ⟨gb103, 0, none⟩ = some (.slice none 0 0) := (blk_cell BK103.out 0).trans rfl; have hfz12_0 := blk_frozen BK103.out 0; have hcz13_0 : w9.cell? ⟨gb102, 0, none⟩ = some (.slice none 0 0) := (blk_cell BK102.out 0).trans rfl; have hfz13_0 := blk_frozen BK102.out 0))
 refine bodyPost_ret (results_cell_row rfl _ _ gb102 29 #[.slice Ao10 t104.length co10] (0, 0) _ rfl (by (with_reducible repeat (first | refine qkN ?_ _ | refine qkD ?_ | refine qkA ?_ _)); refine blk_put (cs := #[.slice none 0 0]) ?_ 0 _ rfl; (with_reducible repeat (first | refine qkN ?_ _ | refine qkD ?_ | refine qkA ?_ _)); refine blk_far ?_ NB102_103.out _; (with_reducible repeat (first | refine qkN ?_ _ | refine qkD ?_ | refine qkA ?_ _)); exact BK102.out) Try.underlying29 rfl qa17) rfl ?_
 exact ⟨_, qa3, by (with_reducible repeat (first | apply Kd.R_alloc | apply Kd.R_drewN | apply Kd.R_drew)); exact Kd.R_mono (Kd.R_far (p := ⟨gb102, 0, none⟩) (Kd.R_far (p := ⟨gb103, 0, none⟩) (Kd.R_types (Kd.R_types HO106.out BK103.out (by decide)) BK102.out (by decide)) (fun _ hk => hk.1.2) (.slice Ao10 t104.length co10)) (fun _ hk => hk.2) (.slice Ao10 t104.length co10)) (fun _ hk => trivial), qa35⟩


def laws_eqArgDef.f (a0_0 : ByteArray) (a0_1 : Bool) (a1_0 : ByteArray) (a1_1 : Bool) : Option (Bool) := if a0_0.toList = a1_0.toList then (if (a0_1 != a1_1) = true then (some false) else (some true)) else (some false)
set_option maxHeartbeats 8000000 in
set_option maxRecDepth 100000 in
theorem laws_eqArgDef.calls (a0_0 : ByteArray) (a0_1 : Bool) (a1_0 : ByteArray) (a1_1 : Bool) (r : Bool) (w : World) (h : laws_eqArgDef.f a0_0 a0_1 a1_0 a1_1 = some r) :
  Calls Try.prog 67 #[.agg #[.string a0_0, .bool a0_1], .agg #[.string a1_0, .bool a1_1]] w fun e w' => e = .returned (.bool r) ∧ Below w.heap.size w w' := by
 have hu57 := Try.underlying57; have HB := qO (Below.refl w.heap.size w); have H : (if a0_0.toList = a1_0.toList then (if (a0_1 != a1_1) = true then (some false) else (some true)) else (some false)) = some r := h; clear h
 by_cases c3 : a0_0.toList = a1_0.toList
 ·rw [if_pos c3] at H
  have c3b0 : (a0_0.toList == a1_0.toList) = true := beq_iff_eq.mpr c3; have c3b1 : (a0_0.toList != a1_0.toList) = false := bne_eq_false_iff_eq.mpr c3; clear c3
  by_cases c4 : (a0_1 != a1_1) = true
  ·rw [if_pos c4] at H
   have c4b0 : (a0_1 != a1_1) = true := c4; (try (have c4b1 : decide (a0_1 = a1_1) = false := by simpa using c4)); (try (have c4b2 : (a0_1 == a1_1) = false := by simpa using c4)); (try (have c4b3 : ¬ (a0_1 = a1_1) := by simpa using c4)); clear c4; obtain rfl := Option.some.inj H
   go_enter Try.func67, Try.ntmps67
   go_wp2_with (first | ((with_reducible refine gate_dst (N := 2) rfl ?_); refine box_event ?hg (N := 2) ?hd (cs := #[.string a0_0, .bool a0_1]) (t := 57) ?hr ?_; (case hd => rfl); (case hg => rfl); (case hr => exact qa18); intro gb101 hg w5 hbox hb; have hx_ := qHX HB hb qa0; have n0_ := qO (below_step (below_step HB.out hx_) hb); have n1_ := qO (hbox); have n2_ := qO ((qa15 : w.heap.size ≤ gb101)); have n3_ := n2_; clear HB; have HB := n0_; have BK101 := n1_; have GW101 := n2_; have GE101 := n3_; clear n0_ n1_ n2_ n3_; clear hx_; clear hb hbox hg) | ((with_reducible refine gate_dst (N := 3) rfl ?_); refine box_event ?hg (N := 3) ?hd (cs := #[.string a1_0, .bool a1_1]) (t := 57) ?hr ?_; (case hd => rfl); (case hg => rfl); (case hr => exact qa18); intro gb102 hg w6 hbox hb; have hx_ := qHX HB hb qa0; have n0_ := qO (qB BK101.out hx_ hb); have n1_ := qO (below_step (below_step HB.out hx_) hb); have n2_ := qO (hbox); have n3_ := qO ((qa15 : w.heap.size ≤ gb102)); have n4_ := n3_; have n5_ := qO ((qa61 : gb101 ≠ gb102)); have n6_ := qO (Ne.symm n5_.out); clear BK101; clear HB; have BK101 := n0_; have HB := n1_; have BK102 := n2_; have GW102 := n3_; have GE102 := n4_; have NB101_102 := n5_; have NB102_101 := n6_; clear n0_ n1_ n2_ n3_ n4_ n5_ n6_; clear hx_; clear hb hbox hg; have hnb7 := NB101_102.out; have hnc7 := NB102_101.out; have hcz8_0 : w6.cell? ⟨gb101, 0, none⟩ = some (.string a0_0) := (blk_cell BK101.out 0).trans rfl; have hcz8_1 : w6.cell? ⟨gb101, 1, none⟩ = some (.bool a0_1) := (blk_cell BK101.out 1).trans rfl; have hfz8_0 := blk_frozen BK101.out 0; have hfz8_1 := blk_frozen BK101.out 1; have hcz9_0 : w6.cell? ⟨gb102, 0, none⟩ = some (.string a1_0) := (blk_cell BK102.out 0).trans rfl; have hcz9_1 : w6.cell? ⟨gb102, 1, none⟩ = some (.bool a1_1) := (blk_cell BK102.out 1).trans rfl; have hfz9_0 := blk_frozen BK102.out 0; have hfz9_1 := blk_frozen BK102.out 1))
   go_ret
   exact ⟨qa3, qa7⟩
  ·rw [if_neg c4] at H
   have c4b0 : (a0_1 != a1_1) = false := by simpa using c4
   (try (have c4b1 : decide (a0_1 = a1_1) = true := by simpa using c4)); (try (have c4b2 : (a0_1 == a1_1) = true := by simpa using c4)); clear c4; obtain rfl := Option.some.inj H
   go_enter Try.func67, Try.ntmps67
   go_wp2_with (first | ((with_reducible refine gate_dst (N := 2) rfl ?_); refine box_event ?hg (N := 2) ?hd (cs := #[.string a0_0, .bool a0_1]) (t := 57) ?hr ?_; (case hd => rfl); (case hg => rfl); (case hr => exact qa18); intro gb101 hg w10 hbox hb; have hx_ := qHX HB hb qa0; have n0_ := qO (below_step (below_step HB.out hx_) hb); have n1_ := qO (hbox); have n2_ := qO ((qa15 : w.heap.size ≤ gb101)); have n3_ := n2_; clear HB; have HB := n0_; have BK101 := n1_; have GW101 := n2_; have GE101 := n3_; clear n0_ n1_ n2_ n3_; clear hx_; clear hb hbox hg) | ((with_reducible refine gate_dst (N := 3) rfl ?_); refine box_event ?hg (N := 3) ?hd (cs := #[.string a1_0, .bool a1_1]) (t := 57) ?hr ?_; (case hd => rfl); (case hg => rfl); (case hr => exact qa18); intro gb102 hg w11 hbox hb; have hx_ := qHX HB hb qa0; have n0_ := qO (qB BK101.out hx_ hb); have n1_ := qO (below_step (below_step HB.out hx_) hb); have n2_ := qO (hbox); have n3_ := qO ((qa15 : w.heap.size ≤ gb102)); have n4_ := n3_; have n5_ := qO ((qa61 : gb101 ≠ gb102)); have n6_ := qO (Ne.symm n5_.out); clear BK101; clear HB; have BK101 := n0_; have HB := n1_; have BK102 := n2_; have GW102 := n3_; have GE102 := n4_; have NB101_102 := n5_; have NB102_101 := n6_; clear n0_ n1_ n2_ n3_ n4_ n5_ n6_; clear hx_; clear hb hbox hg; have hnb12 := NB101_102.out; have hnc12 := NB102_101.out; have hcz13_0 : w11.cell? ⟨gb101, 0, none⟩ = some (.string a0_0) := (blk_cell BK101.out 0).trans rfl; have hcz13_1 : w11.cell? ⟨gb101, 1, none⟩ = some (.bool a0_1) := (blk_cell BK101.out 1).trans rfl; have hfz13_0 := blk_frozen BK101.out 0; have hfz13_1 := blk_frozen BK101.out 1; have hcz14_0 : w11.cell? ⟨gb102, 0, none⟩ = some (.string a1_0) := (blk_cell BK102.out 0).trans rfl; have hcz14_1 : w11.cell? ⟨gb102, 1, none⟩ = some (.bool a1_1) := (blk_cell BK102.out 1).trans rfl; have hfz14_0 := blk_frozen BK102.out 0; have hfz14_1 := blk_frozen BK102.out 1))
   go_ret
   exact ⟨qa3, qa7⟩
 ·rw [if_neg c3] at H
  have c3b0 : (a0_0.toList == a1_0.toList) = false := beq_eq_false_iff_ne.mpr c3; have c3b1 : (a0_0.toList != a1_0.toList) = true := bne_iff_ne.mpr c3; obtain rfl := Option.some.inj H
  go_enter Try.func67, Try.ntmps67
  go_wp2_with (first | ((with_reducible refine gate_dst (N := 2) rfl ?_); refine box_event ?hg (N := 2) ?hd (cs := #[.string a0_0, .bool a0_1]) (t := 57) ?hr ?_; (case hd => rfl); (case hg => rfl); (case hr => exact qa18); intro gb101 hg w15 hbox hb; have hx_ := qHX HB hb qa0; have n0_ := qO (below_step (below_step HB.out hx_) hb); have n1_ := qO (hbox); have n2_ := qO ((qa15 : w.heap.size ≤ gb101)); have n3_ := n2_; clear HB; have HB := n0_; have BK101 := n1_; have GW101 := n2_; have GE101 := n3_; clear n0_ n1_ n2_ n3_; clear hx_; clear hb hbox hg) | ((with_reducible refine gate_dst (N := 3) rfl ?_); refine box_event ?hg (N := 3) ?hd (cs := #[.string a1_0, .bool a1_1]) (t := 57) ?hr ?_; (case hd => rfl); (case hg => rfl); (case hr => exact qa18); intro gb102 hg w16 hbox hb; have hx_ := qHX HB hb qa0; have n0_ := qO (qB BK101.out hx_ hb); have n1_ := qO (below_step (below_step HB.out hx_) hb); have n2_ := qO (hbox); have n3_ := qO ((qa15 : w.heap.size ≤ gb102)); have n4_ := n3_; have n5_ := qO ((qa61 : gb101 ≠ gb102)); have n6_ := qO (Ne.symm n5_.out); clear BK101; clear HB; have BK101 := n0_; have HB := n1_; have BK102 := n2_; have GW102 := n3_; have GE102 := n4_; have NB101_102 := n5_; have NB102_101 := n6_; clear n0_ n1_ n2_ n3_ n4_ n5_ n6_; clear hx_; clear hb hbox hg; have hnb17 := NB101_102.out; have hnc17 := NB102_101.out; have hcz18_0 : w16.cell? ⟨gb101, 0, none⟩ = some (.string a0_0) := (blk_cell BK101.out 0).trans rfl; have hcz18_1 : w16.cell? ⟨gb101, 1, none⟩ = some (.bool a0_1) := (blk_cell BK101.out 1).trans rfl; have hfz18_0 := blk_frozen BK101.out 0; have hfz18_1 := blk_frozen BK101.out 1; have hcz19_0 : w16.cell? ⟨gb102, 0, none⟩ = some (.string a1_0) := (blk_cell BK102.out 0).trans rfl; have hcz19_1 : w16.cell? ⟨gb102, 1, none⟩ = some (.bool a1_1) := (blk_cell BK102.out 1).trans rfl; have hfz19_0 := blk_frozen BK102.out 0; have hfz19_1 := blk_frozen BK102.out 1))
  go_ret
  exact ⟨qa3, qa7⟩


def laws_eqArgDefS.l0 : Nat → List (S57) → List (S57) → Int → Option (Bool)
 | 0, _, _, _ => none
 | k + 1, x0, x1, x5 => if x5 < (x0.length : Int) then (if 0 ≤ x5 then (if x5 < (x1.length : Int) then ((laws_eqArgDef.f ((rd_T57 x0 x5).f0) ((rd_T57 x0 x5).f1) ((rd_T57 x1 x5).f0) ((rd_T57 x1 x5).f1)).bind fun t103 => (if t103 = true then (laws_eqArgDefS.l0 k x0 x1 (wrap64 (x5 + 1))) else (some false))) else (none)) else (none)) else (some true)
def laws_eqArgDefS.f (k : Nat) (l0 : List (S57)) (l1 : List (S57)) : Option (Bool) := if (l0.length : Int) = (l1.length : Int) then (laws_eqArgDefS.l0 k l0 l1 0) else (some false)
def laws_eqArgDefS.T6 : Bool × List (List Nat × List Nat) := (true, [([], []), ([], []), ([0, 1], [0, 1]), ([2], [2]), ([], []), ([], []), ([4, 5], [4, 5]), ([6], [6]), ([3, 7], [3, 7]), ([8], [8])])
def laws_eqArgDefS.B6 : List Nat := [0, 0, 3, 7, 0, 0, 48, 112, 255, 511]
theorem laws_eqArgDefS.tab6 : rtab .any (opsOf Try.f41 6) = laws_eqArgDefS.T6 := by kernel_rfl
theorem laws_eqArgDefS.bits6 : waitsOk laws_eqArgDefS.T6.2 laws_eqArgDefS.B6 = true := by kernel_rfl
def laws_eqArgDefS.y0 : Array Bool := #[false, false, false, false, false, false, false, false, false, false]
def laws_eqArgDefS.y1 : Array Bool := #[true, false, false, false, false, false, false, false, false, false]
def laws_eqArgDefS.y2 : Array Bool := #[true, true, false, false, false, false, false, false, false, false]
def laws_eqArgDefS.y3 : Array Bool := #[true, true, true, false, false, false, false, false, false, false]
def laws_eqArgDefS.y4 : Array Bool := #[true, true, true, false, true, false, false, false, false, false]
def laws_eqArgDefS.y5 : Array Bool := #[true, true, true, false, true, true, false, false, false, false]
def laws_eqArgDefS.y6 : Array Bool := #[true, true, true, false, true, true, true, false, false, false]
def laws_eqArgDefS.y7 : Array Bool := #[true, true, true, true, true, true, true, false, false, false]
def laws_eqArgDefS.y8 : Array Bool := #[true, true, true, true, true, true, true, true, false, false]
def laws_eqArgDefS.y9 : Array Bool := #[true, true, true, true, true, true, true, true, true, false]
def laws_eqArgDefS.y10 : Array Bool := #[true, true, true, true, true, true, true, true, true, true]
set_option maxHeartbeats 8000000 in
set_option maxRecDepth 100000 in
theorem laws_eqArgDefS.calls (k : Nat) (A0 : Option Addr) (c0 : Nat) (l0 : List (S57)) (A1 : Option Addr) (c1 : Nat) (l1 : List (S57)) (r : Bool) (w : World) (hr0 : Kd.C k57 w A0 l0.length l0) (hc0 : l0.length ≤ c0) (hr1 : Kd.C k57 w A1 l1.length l1) (hc1 : l1.length ≤ c1) (h : laws_eqArgDefS.f k l0 l1 = some r) :
  Calls Try.prog 41 #[.slice A0 l0.length c0, .slice A1 l1.length c1] w fun e w' => e = .returned (.bool r) ∧ Below w.heap.size w w' := by
 have hu57 := Try.underlying57; have HR0 := qO hr0; have HC0 := qO hc0; clear hr0 hc0; have HR1 := qO hr1; have HC1 := qO hc1; clear hr1 hc1; have HB := qO (Below.refl w.heap.size w); have H : (if (l0.length : Int) = (l1.length : Int) then (laws_eqArgDefS.l0 k l0 l1 0) else (some false)) = some r := h; clear h
 by_cases c3 : (l0.length : Int) = (l1.length : Int)
 ·rw [if_pos c3] at H
  have c3b0 : ((l0.length : Int) == (l1.length : Int)) = true := beq_iff_eq.mpr c3; have c3b1 : ((l0.length : Int) != (l1.length : Int)) = false := bne_eq_false_iff_eq.mpr c3; have c3b2 : (l0.length == l1.length) = true := by first | simpa using c3 | (simp at c3 ⊢; omega)
  clear c3; have H' := qO H; clear H
  go_enter Try.func41, Try.ntmps41
  go_wp2
  go_loopg [5] k (fun kq v5 w' => ∃ (x5_1 : Int), v5 = .int .i64 x5_1 ∧ Aside0 (laws_eqArgDefS.l0 kq l0 l1 x5_1 = some r) ∧ Aside0 (kq ≤ k) ∧ Aside0 (Below w.heap.size w w'))
  case atStart => exact ⟨(0), qa11, H', ⟨Nat.le_refl _⟩, ⟨qa8⟩⟩
  case round =>
   clear H'
   try clear c1
   try clear p2
   try clear c3
   try clear c3b0
   try clear c3b1
   try clear c3b2
   obtain ⟨x5_1, rfl, HA, HK1, HB⟩ := hrel
   cases gk with
   | zero => exact absurd HA.out (by simp [laws_eqArgDefS.l0])
   | succ k1 =>
    have H := HA.out; clear HA; simp only [laws_eqArgDefS.l0] at H
    by_cases c4 : x5_1 < (l0.length : Int)
    ·rw [if_pos c4] at H
     have c4b0 : decide (x5_1 < (l0.length : Int)) = true := decide_eq_true c4; clear c4
     by_cases c5 : 0 ≤ x5_1
     ·rw [if_pos c5] at H
      have c5b0 : decide (0 ≤ x5_1) = true := decide_eq_true c5; clear c5
      by_cases c6 : x5_1 < (l1.length : Int)
      ·rw [if_pos c6] at H
       have c6b0 : decide (x5_1 < (l1.length : Int)) = true := decide_eq_true c6; clear c6; replace H := Option.bind_eq_some_iff.mp H; obtain ⟨t103, A70, H⟩ := H; replace H : (if t103 = true then (laws_eqArgDefS.l0 k1 l0 l1 (wrap64 (x5_1 + 1))) else (some false)) = some r := H; have A7 := qO A70; clear A70
       by_cases c8 : t103 = true
       ·subst c8
        have H1 : (laws_eqArgDefS.l0 k1 l0 l1 (wrap64 (x5_1 + 1))) = some r := by rw [if_pos rfl] at H; exact H
        clear H; have H := H1; clear H1; have H' := qO H; clear H
        try go_wp2
        have n0_ := qO (qbD HB.out); clear HB; have HB := n0_; clear n0_; have p101 : 0 ≤ (x5_1 : Int) := qT qa5; have q101 : x5_1 < (l0.length : Int) := qT qa5; obtain ⟨ad101, e101, hx101_0, hx101_1⟩ := at_T57 HR0.out x5_1 p101 q101; have hw101_1 := hx101_1; have hw101_0 := hx101_0
        cases e101
        replace hx101_0 := (HB.out.cell (qL w _ hx101_0)).trans hx101_0; replace hx101_1 := (HB.out.cell (qL w _ hx101_1)).trans hx101_1; replace p101 := eq_true p101; replace q101 := eq_true q101; have p102 : 0 ≤ (x5_1 : Int) := qT qa5; have q102 : x5_1 < (l1.length : Int) := qT qa5; obtain ⟨ad102, e102, hx102_0, hx102_1⟩ := at_T57 HR1.out x5_1 p102 q102; have hw102_1 := hx102_1; have hw102_0 := hx102_0
        cases e102
        replace hx102_0 := (HB.out.cell (qL w _ hx102_0)).trans hx102_0; replace hx102_1 := (HB.out.cell (qL w _ hx102_1)).trans hx102_1; replace p102 := eq_true p102; replace q102 := eq_true q102; refine start_ (n := 10) (S := fun w' => w'.cell? (ad101.add ((x5_1).toNat * 2)) = some (.string ((rd_T57 l0 x5_1).f0)) ∧ w'.cell? ⟨(ad101.add ((x5_1).toNat * 2)).block, (ad101.add ((x5_1).toNat * 2)).off + 1, none⟩ = some (.bool ((rd_T57 l0 x5_1).f1)) ∧ w'.cell? (ad102.add ((x5_1).toNat * 2)) = some (.string ((rd_T57 l1 x5_1).f0)) ∧ w'.cell? ⟨(ad102.add ((x5_1).toNat * 2)).block, (ad102.add ((x5_1).toNat * 2)).off + 1, none⟩ = some (.bool ((rd_T57 l1 x5_1).f1))) (ds := []) laws_eqArgDefS.y0 qa17 rfl rfl ⟨((HB.out.cell (qL w _ hw101_0)).trans hw101_0), ((HB.out.cell (qL w _ hw101_1)).trans hw101_1), ((HB.out.cell (qL w _ hw102_0)).trans hw102_0), ((HB.out.cell (qL w _ hw102_1)).trans hw102_1)⟩ (fun hHeld => ?_); refine with_tabW laws_eqArgDefS.tab6 laws_eqArgDefS.bits6 (fun HT_ HW_ => ?_); generalize wr.drew = w9 at HB hx101_0 hx101_1 hx102_0 hx102_1 hHeld ⊢; refine pure_ (i := 0) (N := some 17) (v := ?_) (a' := ?_) laws_eqArgDefS.y1 rfl rfl (any_of HT_.out qa17) (fun _ _ _ h => h) (Or.inl ⟨by rfl, ?_⟩) ?_ ?_; rotate_left; exact qa22; rotate_left; exact qa12; refine pure_ (i := 1) (N := some 18) (v := ?_) (a' := ?_) laws_eqArgDefS.y2 rfl rfl (any_of HT_.out qa17) (fun _ _ _ h => h) (Or.inl ⟨by rfl, ?_⟩) ?_ ?_; rotate_left; exact qa22; rotate_left; exact qa12; refine pure_ (i := 2) (N := some 19) (v := ?_) (a' := ?_) laws_eqArgDefS.y3 rfl rfl (any_of HT_.out qa17) (fun _ _ _ h => h) (Or.inl ⟨by rfl, ?_⟩) ?_ ?_; rotate_left; exact qa22; rotate_left; exact qa12; refine pure_ (i := 4) (N := some 21) (v := ?_) (a' := ?_) laws_eqArgDefS.y4 rfl rfl (any_of HT_.out qa17) (fun _ _ _ h => h) (Or.inl ⟨by rfl, ?_⟩) ?_ ?_; rotate_left; exact qa22; rotate_left; exact qa12; refine pure_ (i := 5) (N := some 22) (v := ?_) (a' := ?_) laws_eqArgDefS.y5 rfl rfl (any_of HT_.out qa17) (fun _ _ _ h => h) (Or.inl ⟨by rfl, ?_⟩) ?_ ?_; rotate_left; exact qa22; rotate_left; exact qa12; refine pure_ (i := 6) (N := some 23) (v := ?_) (a' := ?_) laws_eqArgDefS.y6 rfl rfl (any_of HT_.out qa17) (fun _ _ _ h => h) (Or.inl ⟨by rfl, ?_⟩) ?_ ?_; rotate_left; exact qa22; rotate_left; exact qa12; refine take_ (i := 3) (N := some 20) (v := ?_) (a' := ?_) laws_eqArgDefS.y7 rfl rfl (take_ofW HT_.out HW_.out qa17) (fun _ _ _ h => h) (Or.inl ⟨by rfl, ?_⟩) hHeld ?_ ?_; rotate_left; exact qa89; rotate_left; exact qa12; refine take_ (i := 7) (N := some 24) (v := ?_) (a' := ?_) laws_eqArgDefS.y8 rfl rfl (take_ofW HT_.out HW_.out qa17) (fun _ _ _ h => h) (Or.inl ⟨by rfl, ?_⟩) hHeld ?_ ?_; rotate_left; exact qa89; rotate_left; exact qa12; refine one_ (i := 8) (N := some 25) laws_eqArgDefS.y9 rfl rfl (one_of HT_.out qa17) qa108 (fun K hK => ?_); refine goes_ Try.func67 qa17 rfl #[.agg #[.string ((rd_T57 l0 x5_1).f0), .bool ((rd_T57 l0 x5_1).f1)], .agg #[.string ((rd_T57 l1 x5_1).f0), .bool ((rd_T57 l1 x5_1).f1)]] (by rfl) rfl rfl qa1 ?_; (with_reducible refine (laws_eqArgDef.calls ((rd_T57 l0 x5_1).f0) ((rd_T57 l0 x5_1).f1) ((rd_T57 l1 x5_1).f0) ((rd_T57 l1 x5_1).f1) true _ A7.out).mono ?_); rintro e w10 ⟨rfl, hb⟩; have hx_ := qHX HB hb qa0; refine ⟨_, rfl, ?_⟩; have n0_ := qO (below_step (below_step HB.out hx_) hb); clear HB; have HB := n0_; clear n0_; clear hx_; (try clear hb); (try clear hb2); (try clear hk); (try clear hi); refine hK.out _ _ ⟨((HB.out.cell (qL w _ hw101_0)).trans hw101_0), ((HB.out.cell (qL w _ hw101_1)).trans hw101_1), ((HB.out.cell (qL w _ hw102_0)).trans hw102_0), ((HB.out.cell (qL w _ hw102_1)).trans hw102_1)⟩ (fun hHeld => ?_); clear hK K; refine norm_ (a' := ?_) ?_ ?_; rotate_left
        ·exact qa33
        refine pure_ (i := 9) (N := some 26) (v := ?_) (a' := ?_) laws_eqArgDefS.y10 rfl rfl (any_of HT_.out qa17) (fun _ _ _ h => h) (Or.inl ⟨by rfl, ?_⟩) ?_ ?_; rotate_left; exact qa22; rotate_left; exact qa12; refine done_ (done_of HT_.out qa17) ?_
        try go_wp2
        go_roundg k1
        case measure => have := HK1.out; omega
        case rel => exact ⟨(wrap64 (x5_1 + 1)), qa11, H', ⟨qa87⟩, ⟨qa8⟩⟩
       ·replace c8 := Bool.eq_false_iff.mpr c8
        subst c8; have H1 : (some false) = some r := by rw [if_neg (show ¬ (false = true) by decide)] at H; exact H
        clear H; have H := H1; clear H1; obtain rfl := Option.some.inj H
        try go_wp2
        have n0_ := qO (qbD HB.out); clear HB; have HB := n0_; clear n0_; have p101 : 0 ≤ (x5_1 : Int) := qT qa5; have q101 : x5_1 < (l0.length : Int) := qT qa5; obtain ⟨ad101, e101, hx101_0, hx101_1⟩ := at_T57 HR0.out x5_1 p101 q101; have hw101_1 := hx101_1; have hw101_0 := hx101_0
        cases e101
        replace hx101_0 := (HB.out.cell (qL w _ hx101_0)).trans hx101_0; replace hx101_1 := (HB.out.cell (qL w _ hx101_1)).trans hx101_1; replace p101 := eq_true p101; replace q101 := eq_true q101; have p102 : 0 ≤ (x5_1 : Int) := qT qa5; have q102 : x5_1 < (l1.length : Int) := qT qa5; obtain ⟨ad102, e102, hx102_0, hx102_1⟩ := at_T57 HR1.out x5_1 p102 q102; have hw102_1 := hx102_1; have hw102_0 := hx102_0
        cases e102
        replace hx102_0 := (HB.out.cell (qL w _ hx102_0)).trans hx102_0; replace hx102_1 := (HB.out.cell (qL w _ hx102_1)).trans hx102_1; replace p102 := eq_true p102; replace q102 := eq_true q102; refine start_ (n := 10) (S := fun w' => w'.cell? (ad101.add ((x5_1).toNat * 2)) = some (.string ((rd_T57 l0 x5_1).f0)) ∧ w'.cell? ⟨(ad101.add ((x5_1).toNat * 2)).block, (ad101.add ((x5_1).toNat * 2)).off + 1, none⟩ = some (.bool ((rd_T57 l0 x5_1).f1)) ∧ w'.cell? (ad102.add ((x5_1).toNat * 2)) = some (.string ((rd_T57 l1 x5_1).f0)) ∧ w'.cell? ⟨(ad102.add ((x5_1).toNat * 2)).block, (ad102.add ((x5_1).toNat * 2)).off + 1, none⟩ = some (.bool ((rd_T57 l1 x5_1).f1))) (ds := []) laws_eqArgDefS.y0 qa17 rfl rfl ⟨((HB.out.cell (qL w _ hw101_0)).trans hw101_0), ((HB.out.cell (qL w _ hw101_1)).trans hw101_1), ((HB.out.cell (qL w _ hw102_0)).trans hw102_0), ((HB.out.cell (qL w _ hw102_1)).trans hw102_1)⟩ (fun hHeld => ?_); refine with_tabW laws_eqArgDefS.tab6 laws_eqArgDefS.bits6 (fun HT_ HW_ => ?_); generalize wr.drew = w11 at HB hx101_0 hx101_1 hx102_0 hx102_1 hHeld ⊢; refine pure_ (i := 0) (N := some 17) (v := ?_) (a' := ?_) laws_eqArgDefS.y1 rfl rfl (any_of HT_.out qa17) (fun _ _ _ h => h) (Or.inl ⟨by rfl, ?_⟩) ?_ ?_; rotate_left; exact qa22; rotate_left; exact qa12; refine pure_ (i := 1) (N := some 18) (v := ?_) (a' := ?_) laws_eqArgDefS.y2 rfl rfl (any_of HT_.out qa17) (fun _ _ _ h => h) (Or.inl ⟨by rfl, ?_⟩) ?_ ?_; rotate_left; exact qa22; rotate_left; exact qa12; refine pure_ (i := 2) (N := some 19) (v := ?_) (a' := ?_) laws_eqArgDefS.y3 rfl rfl (any_of HT_.out qa17) (fun _ _ _ h => h) (Or.inl ⟨by rfl, ?_⟩) ?_ ?_; rotate_left; exact qa22; rotate_left; exact qa12; refine pure_ (i := 4) (N := some 21) (v := ?_) (a' := ?_) laws_eqArgDefS.y4 rfl rfl (any_of HT_.out qa17) (fun _ _ _ h => h) (Or.inl ⟨by rfl, ?_⟩) ?_ ?_; rotate_left; exact qa22; rotate_left; exact qa12; refine pure_ (i := 5) (N := some 22) (v := ?_) (a' := ?_) laws_eqArgDefS.y5 rfl rfl (any_of HT_.out qa17) (fun _ _ _ h => h) (Or.inl ⟨by rfl, ?_⟩) ?_ ?_; rotate_left; exact qa22; rotate_left; exact qa12; refine pure_ (i := 6) (N := some 23) (v := ?_) (a' := ?_) laws_eqArgDefS.y6 rfl rfl (any_of HT_.out qa17) (fun _ _ _ h => h) (Or.inl ⟨by rfl, ?_⟩) ?_ ?_; rotate_left; exact qa22; rotate_left; exact qa12; refine take_ (i := 3) (N := some 20) (v := ?_) (a' := ?_) laws_eqArgDefS.y7 rfl rfl (take_ofW HT_.out HW_.out qa17) (fun _ _ _ h => h) (Or.inl ⟨by rfl, ?_⟩) hHeld ?_ ?_; rotate_left; exact qa89; rotate_left; exact qa12; refine take_ (i := 7) (N := some 24) (v := ?_) (a' := ?_) laws_eqArgDefS.y8 rfl rfl (take_ofW HT_.out HW_.out qa17) (fun _ _ _ h => h) (Or.inl ⟨by rfl, ?_⟩) hHeld ?_ ?_; rotate_left; exact qa89; rotate_left; exact qa12; refine one_ (i := 8) (N := some 25) laws_eqArgDefS.y9 rfl rfl (one_of HT_.out qa17) qa108 (fun K hK => ?_); refine goes_ Try.func67 qa17 rfl #[.agg #[.string ((rd_T57 l0 x5_1).f0), .bool ((rd_T57 l0 x5_1).f1)], .agg #[.string ((rd_T57 l1 x5_1).f0), .bool ((rd_T57 l1 x5_1).f1)]] (by rfl) rfl rfl qa1 ?_; (with_reducible refine (laws_eqArgDef.calls ((rd_T57 l0 x5_1).f0) ((rd_T57 l0 x5_1).f1) ((rd_T57 l1 x5_1).f0) ((rd_T57 l1 x5_1).f1) false _ A7.out).mono ?_); rintro e w12 ⟨rfl, hb⟩; have hx_ := qHX HB hb qa0; refine ⟨_, rfl, ?_⟩; have n0_ := qO (below_step (below_step HB.out hx_) hb); clear HB; have HB := n0_; clear n0_; clear hx_; (try clear hb); (try clear hb2); (try clear hk); (try clear hi); refine hK.out _ _ ⟨((HB.out.cell (qL w _ hw101_0)).trans hw101_0), ((HB.out.cell (qL w _ hw101_1)).trans hw101_1), ((HB.out.cell (qL w _ hw102_0)).trans hw102_0), ((HB.out.cell (qL w _ hw102_1)).trans hw102_1)⟩ (fun hHeld => ?_); clear hK K; refine norm_ (a' := ?_) ?_ ?_; rotate_left
        ·exact qa33
        refine pure_ (i := 9) (N := some 26) (v := ?_) (a' := ?_) laws_eqArgDefS.y10 rfl rfl (any_of HT_.out qa17) (fun _ _ _ h => h) (Or.inl ⟨by rfl, ?_⟩) ?_ ?_; rotate_left; exact qa22; rotate_left; exact qa12; refine done_ (done_of HT_.out qa17) ?_
        try go_wp2
        go_ret
        exact ⟨qa3, qa8⟩
      ·rw [if_neg c6] at H
       exact absurd H qa91
     ·rw [if_neg c5] at H
      exact absurd H qa91
    ·rw [if_neg c4] at H
     have c4b0 : decide (x5_1 < (l0.length : Int)) = false := decide_eq_false c4; clear c4; obtain rfl := Option.some.inj H; go_wp2
     go_ret
     exact ⟨qa3, qa8⟩
 ·rw [if_neg c3] at H
  have c3b0 : ((l0.length : Int) == (l1.length : Int)) = false := beq_eq_false_iff_ne.mpr c3; have c3b1 : ((l0.length : Int) != (l1.length : Int)) = true := bne_iff_ne.mpr c3; have c3b2 : (l0.length == l1.length) = false := by first | simpa using c3 | (simp at c3 ⊢; omega)
  obtain rfl := Option.some.inj H
  go_enter Try.func41, Try.ntmps41
  go_wp2
  go_ret
  exact ⟨qa3, qa8⟩


def laws_eqFieldDef.f (k : Nat) (a0_0 : ByteArray) (l0_1 : List (S57)) (a0_2 : ByteArray) (a0_3 : Bool) (a0_4 : Bool) (a1_0 : ByteArray) (l1_1 : List (S57)) (a1_2 : ByteArray) (a1_3 : Bool) (a1_4 : Bool) : Option (Bool) := if a0_0.toList = a1_0.toList then ((laws_eqArgDefS.f k l0_1 l1_1).bind fun t103 => (if t103 = true then (if a0_2.toList = a1_2.toList then (if (a0_3 != a1_3) = true then (some false) else (if (a0_4 != a1_4) = true then (some false) else (some true))) else (some false)) else (some false))) else (some false)
set_option maxHeartbeats 8000000 in
set_option maxRecDepth 100000 in
theorem laws_eqFieldDef.calls (k : Nat) (a0_0 : ByteArray) (A0_1 : Option Addr) (c0_1 : Nat) (l0_1 : List (S57)) (a0_2 : ByteArray) (a0_3 : Bool) (a0_4 : Bool) (a1_0 : ByteArray) (A1_1 : Option Addr) (c1_1 : Nat) (l1_1 : List (S57)) (a1_2 : ByteArray) (a1_3 : Bool) (a1_4 : Bool) (r : Bool) (w : World) (hr0_1 : Kd.C k57 w A0_1 l0_1.length l0_1) (hc0_1 : l0_1.length ≤ c0_1) (hr1_1 : Kd.C k57 w A1_1 l1_1.length l1_1) (hc1_1 : l1_1.length ≤ c1_1) (h : laws_eqFieldDef.f k a0_0 l0_1 a0_2 a0_3 a0_4 a1_0 l1_1 a1_2 a1_3 a1_4 = some r) :
  Calls Try.prog 17 #[.agg #[.string a0_0, .slice A0_1 l0_1.length c0_1, .string a0_2, .bool a0_3, .bool a0_4], .agg #[.string a1_0, .slice A1_1 l1_1.length c1_1, .string a1_2, .bool a1_3, .bool a1_4]] w fun e w' => e = .returned (.bool r) ∧ Below w.heap.size w w' := by
 have hu38 := Try.underlying38; have HR0_1 := qO hr0_1; have HC0_1 := qO hc0_1; clear hr0_1 hc0_1; have HR1_1 := qO hr1_1; have HC1_1 := qO hc1_1; clear hr1_1 hc1_1; have HB := qO (Below.refl w.heap.size w); have H : (if a0_0.toList = a1_0.toList then ((laws_eqArgDefS.f k l0_1 l1_1).bind fun t103 => (if t103 = true then (if a0_2.toList = a1_2.toList then (if (a0_3 != a1_3) = true then (some false) else (if (a0_4 != a1_4) = true then (some false) else (some true))) else (some false)) else (some false))) else (some false)) = some r := h; clear h
 by_cases c3 : a0_0.toList = a1_0.toList
 ·rw [if_pos c3] at H
  have c3b0 : (a0_0.toList == a1_0.toList) = true := beq_iff_eq.mpr c3; have c3b1 : (a0_0.toList != a1_0.toList) = false := bne_eq_false_iff_eq.mpr c3; clear c3; replace H := Option.bind_eq_some_iff.mp H; obtain ⟨t103, A40, H⟩ := H; replace H : (if t103 = true then (if a0_2.toList = a1_2.toList then (if (a0_3 != a1_3) = true then (some false) else (if (a0_4 != a1_4) = true then (some false) else (some true))) else (some false)) else (some false)) = some r := H; have A4 := qO A40; clear A40
  by_cases c5 : t103 = true
  ·subst c5
   have H1 : (if a0_2.toList = a1_2.toList then (if (a0_3 != a1_3) = true then (some false) else (if (a0_4 != a1_4) = true then (some false) else (some true))) else (some false)) = some r := by rw [if_pos rfl] at H; exact H
   clear H; have H := H1; clear H1
   by_cases c6 : a0_2.toList = a1_2.toList
   ·rw [if_pos c6] at H
    have c6b0 : (a0_2.toList == a1_2.toList) = true := beq_iff_eq.mpr c6; have c6b1 : (a0_2.toList != a1_2.toList) = false := bne_eq_false_iff_eq.mpr c6; clear c6
    by_cases c7 : (a0_3 != a1_3) = true
    ·rw [if_pos c7] at H
     have c7b0 : (a0_3 != a1_3) = true := c7; (try (have c7b1 : decide (a0_3 = a1_3) = false := by simpa using c7)); (try (have c7b2 : (a0_3 == a1_3) = false := by simpa using c7)); (try (have c7b3 : ¬ (a0_3 = a1_3) := by simpa using c7)); clear c7; obtain rfl := Option.some.inj H
     go_enter Try.func17, Try.ntmps17
     go_wp2_with (first | ((with_reducible refine gate_dst (N := 2) rfl ?_); refine box_event ?hg (N := 2) ?hd (cs := #[.string a0_0, .slice A0_1 l0_1.length c0_1, .string a0_2, .bool a0_3, .bool a0_4]) (t := 38) ?hr ?_; (case hd => rfl); (case hg => rfl); (case hr => exact qa18); intro gb101 hg w8 hbox hb; have hx_ := qHX HB hb qa0; have n0_ := qO (below_step (below_step HB.out hx_) hb); have n1_ := qO (hbox); have n2_ := qO ((qa15 : w.heap.size ≤ gb101)); have n3_ := n2_; clear HB; have HB := n0_; have BK101 := n1_; have GW101 := n2_; have GE101 := n3_; clear n0_ n1_ n2_ n3_; clear hx_; clear hb hbox hg) | ((with_reducible refine gate_dst (N := 3) rfl ?_); refine box_event ?hg (N := 3) ?hd (cs := #[.string a1_0, .slice A1_1 l1_1.length c1_1, .string a1_2, .bool a1_3, .bool a1_4]) (t := 38) ?hr ?_; (case hd => rfl); (case hg => rfl); (case hr => exact qa18); intro gb102 hg w9 hbox hb; have hx_ := qHX HB hb qa0; have n0_ := qO (qB BK101.out hx_ hb); have n1_ := qO (below_step (below_step HB.out hx_) hb); have n2_ := qO (hbox); have n3_ := qO ((qa15 : w.heap.size ≤ gb102)); have n4_ := n3_; have n5_ := qO ((qa28 : gb101 ≠ gb102)); have n6_ := qO (Ne.symm n5_.out); clear BK101; clear HB; have BK101 := n0_; have HB := n1_; have BK102 := n2_; have GW102 := n3_; have GE102 := n4_; have NB101_102 := n5_; have NB102_101 := n6_; clear n0_ n1_ n2_ n3_ n4_ n5_ n6_; clear hx_; clear hb hbox hg; have hnb10 := NB101_102.out; have hnc10 := NB102_101.out; have hcz11_0 : w9.cell? ⟨gb101, 0, none⟩ = some (.string a0_0) := (blk_cell BK101.out 0).trans rfl; have hcz11_1 : w9.cell? ⟨gb101, 1, none⟩ = some (.slice A0_1 l0_1.length c0_1) := (blk_cell BK101.out 1).trans rfl; have hcz11_2 : w9.cell? ⟨gb101, 2, none⟩ = some (.string a0_2) := (blk_cell BK101.out 2).trans rfl; have hcz11_3 : w9.cell? ⟨gb101, 3, none⟩ = some (.bool a0_3) := (blk_cell BK101.out 3).trans rfl; have hcz11_4 : w9.cell? ⟨gb101, 4, none⟩ = some (.bool a0_4) := (blk_cell BK101.out 4).trans rfl; have hfz11_0 := blk_frozen BK101.out 0; have hfz11_1 := blk_frozen BK101.out 1; have hfz11_2 := blk_frozen BK101.out 2; have hfz11_3 := blk_frozen BK101.out 3; have hfz11_4 := blk_frozen BK101.out 4; have hcz12_0 : w9.cell? ⟨gb102, 0, none⟩ = some (.string a1_0) := (blk_cell BK102.out 0).trans rfl; have hcz12_1 : w9.cell? ⟨gb102, 1, none⟩ = some (.slice A1_1 l1_1.length c1_1) := (blk_cell BK102.out 1).trans rfl; have hcz12_2 : w9.cell? ⟨gb102, 2, none⟩ = some (.string a1_2) := (blk_cell BK102.out 2).trans rfl; have hcz12_3 : w9.cell? ⟨gb102, 3, none⟩ = some (.bool a1_3) := (blk_cell BK102.out 3).trans rfl; have hcz12_4 : w9.cell? ⟨gb102, 4, none⟩ = some (.bool a1_4) := (blk_cell BK102.out 4).trans rfl; have hfz12_0 := blk_frozen BK102.out 0; have hfz12_1 := blk_frozen BK102.out 1; have hfz12_2 := blk_frozen BK102.out 2; have hfz12_3 := blk_frozen BK102.out 3; have hfz12_4 := blk_frozen BK102.out 4) | ((with_reducible refine gate_callee (f := 41) rfl ?_); refine goesL_ (some 14) rfl rfl Try.func41 qa17 rfl #[.slice A0_1 l0_1.length c0_1, .slice A1_1 l1_1.length c1_1] rfl qa1 ?_; (with_reducible refine (laws_eqArgDefS.calls k _ _ l0_1 _ _ l1_1 true _ ?side1 ?side2 ?side3 ?side4 A4.out).mono ?_); (case side1 => exact qa25); (case side2 => exact HC0_1.out); (case side3 => exact qa43); (case side4 => exact HC1_1.out); rintro e w13 ⟨rfl, hb⟩; have hx_ := qHX HB hb qa0; refine ⟨_, rfl, ?_⟩; have n0_ := qO (qB BK101.out hx_ hb); have n1_ := qO (qB BK102.out hx_ hb); have n2_ := qO (below_step (below_step HB.out hx_) hb); clear BK101; clear BK102; clear HB; have BK101 := n0_; have BK102 := n1_; have HB := n2_; clear n0_ n1_ n2_; clear hx_; (try clear hb); (try clear hb2); (try clear hk); (try clear hi); have hcz14_0 : w13.cell? ⟨gb101, 0, none⟩ = some (.string a0_0) := (blk_cell BK101.out 0).trans rfl; have hcz14_1 : w13.cell? ⟨gb101, 1, none⟩ = some (.slice A0_1 l0_1.length c0_1) := (blk_cell BK101.out 1).trans rfl; have hcz14_2 : w13.cell? ⟨gb101, 2, none⟩ = some (.string a0_2) := (blk_cell BK101.out 2).trans rfl; have hcz14_3 : w13.cell? ⟨gb101, 3, none⟩ = some (.bool a0_3) := (blk_cell BK101.out 3).trans rfl; have hcz14_4 : w13.cell? ⟨gb101, 4, none⟩ = some (.bool a0_4) := (blk_cell BK101.out 4).trans rfl; have hfz14_0 := blk_frozen BK101.out 0; have hfz14_1 := blk_frozen BK101.out 1; have hfz14_2 := blk_frozen BK101.out 2; have hfz14_3 := blk_frozen BK101.out 3; have hfz14_4 := blk_frozen BK101.out 4; have hcz15_0 : w13.cell? ⟨gb102, 0, none⟩ = some (.string a1_0) := (blk_cell BK102.out 0).trans rfl; have hcz15_1 : w13.cell? ⟨gb102, 1, none⟩ = some (.slice A1_1 l1_1.length c1_1) := (blk_cell BK102.out 1).trans rfl; have hcz15_2 : w13.cell? ⟨gb102, 2, none⟩ = some (.string a1_2) := (blk_cell BK102.out 2).trans rfl; have hcz15_3 : w13.cell? ⟨gb102, 3, none⟩ = some (.bool a1_3) := (blk_cell BK102.out 3).trans rfl; have hcz15_4 : w13.cell? ⟨gb102, 4, none⟩ = some (.bool a1_4) := (blk_cell BK102.out 4).trans rfl; have hfz15_0 := blk_frozen BK102.out 0; have hfz15_1 := blk_frozen BK102.out 1; have hfz15_2 := blk_frozen BK102.out 2; have hfz15_3 := blk_frozen BK102.out 3; have hfz15_4 := blk_frozen BK102.out 4))
     go_ret
     exact ⟨qa3, qa7⟩
    ·rw [if_neg c7] at H
     have c7b0 : (a0_3 != a1_3) = false := by simpa using c7
     (try (have c7b1 : decide (a0_3 = a1_3) = true := by simpa using c7)); (try (have c7b2 : (a0_3 == a1_3) = true := by simpa using c7)); clear c7
     by_cases c16 : (a0_4 != a1_4) = true
     ·rw [if_pos c16] at H
      have c16b0 : (a0_4 != a1_4) = true := c16; (try (have c16b1 : decide (a0_4 = a1_4) = false := by simpa using c16)); (try (have c16b2 : (a0_4 == a1_4) = false := by simpa using c16)); (try (have c16b3 : ¬ (a0_4 = a1_4) := by simpa using c16)); clear c16; obtain rfl := Option.some.inj H
      go_enter Try.func17, Try.ntmps17
      go_wp2_with (first | ((with_reducible refine gate_dst (N := 2) rfl ?_); refine box_event ?hg (N := 2) ?hd (cs := #[.string a0_0, .slice A0_1 l0_1.length c0_1, .string a0_2, .bool a0_3, .bool a0_4]) (t := 38) ?hr ?_; (case hd => rfl); (case hg => rfl); (case hr => exact qa18); intro gb101 hg w17 hbox hb; have hx_ := qHX HB hb qa0; have n0_ := qO (below_step (below_step HB.out hx_) hb); have n1_ := qO (hbox); have n2_ := qO ((qa15 : w.heap.size ≤ gb101)); have n3_ := n2_; clear HB; have HB := n0_; have BK101 := n1_; have GW101 := n2_; have GE101 := n3_; clear n0_ n1_ n2_ n3_; clear hx_; clear hb hbox hg) | ((with_reducible refine gate_dst (N := 3) rfl ?_); refine box_event ?hg (N := 3) ?hd (cs := #[.string a1_0, .slice A1_1 l1_1.length c1_1, .string a1_2, .bool a1_3, .bool a1_4]) (t := 38) ?hr ?_; (case hd => rfl); (case hg => rfl); (case hr => exact qa18); intro gb102 hg w18 hbox hb; have hx_ := qHX HB hb qa0; have n0_ := qO (qB BK101.out hx_ hb); have n1_ := qO (below_step (below_step HB.out hx_) hb); have n2_ := qO (hbox); have n3_ := qO ((qa15 : w.heap.size ≤ gb102)); have n4_ := n3_; have n5_ := qO ((qa28 : gb101 ≠ gb102)); have n6_ := qO (Ne.symm n5_.out); clear BK101; clear HB; have BK101 := n0_; have HB := n1_; have BK102 := n2_; have GW102 := n3_; have GE102 := n4_; have NB101_102 := n5_; have NB102_101 := n6_; clear n0_ n1_ n2_ n3_ n4_ n5_ n6_; clear hx_; clear hb hbox hg; have hnb19 := NB101_102.out; have hnc19 := NB102_101.out; have hcz20_0 : w18.cell? ⟨gb101, 0, none⟩ = some (.string a0_0) := (blk_cell BK101.out 0).trans rfl; have hcz20_1 : w18.cell? ⟨gb101, 1, none⟩ = some (.slice A0_1 l0_1.length c0_1) := (blk_cell BK101.out 1).trans rfl; have hcz20_2 : w18.cell? ⟨gb101, 2, none⟩ = some (.string a0_2) := (blk_cell BK101.out 2).trans rfl; have hcz20_3 : w18.cell? ⟨gb101, 3, none⟩ = some (.bool a0_3) := (blk_cell BK101.out 3).trans rfl; have hcz20_4 : w18.cell? ⟨gb101, 4, none⟩ = some (.bool a0_4) := (blk_cell BK101.out 4).trans rfl; have hfz20_0 := blk_frozen BK101.out 0; have hfz20_1 := blk_frozen BK101.out 1; have hfz20_2 := blk_frozen BK101.out 2; have hfz20_3 := blk_frozen BK101.out 3; have hfz20_4 := blk_frozen BK101.out 4; have hcz21_0 : w18.cell? ⟨gb102, 0, none⟩ = some (.string a1_0) := (blk_cell BK102.out 0).trans rfl; have hcz21_1 : w18.cell? ⟨gb102, 1, none⟩ = some (.slice A1_1 l1_1.length c1_1) := (blk_cell BK102.out 1).trans rfl; have hcz21_2 : w18.cell? ⟨gb102, 2, none⟩ = some (.string a1_2) := (blk_cell BK102.out 2).trans rfl; have hcz21_3 : w18.cell? ⟨gb102, 3, none⟩ = some (.bool a1_3) := (blk_cell BK102.out 3).trans rfl; have hcz21_4 : w18.cell? ⟨gb102, 4, none⟩ = some (.bool a1_4) := (blk_cell BK102.out 4).trans rfl; have hfz21_0 := blk_frozen BK102.out 0; have hfz21_1 := blk_frozen BK102.out 1; have hfz21_2 := blk_frozen BK102.out 2; have hfz21_3 := blk_frozen BK102.out 3; have hfz21_4 := blk_frozen BK102.out 4) | ((with_reducible refine gate_callee (f := 41) rfl ?_); refine goesL_ (some 14) rfl rfl Try.func41 qa17 rfl #[.slice A0_1 l0_1.length c0_1, .slice A1_1 l1_1.length c1_1] rfl qa1 ?_; (with_reducible refine (laws_eqArgDefS.calls k _ _ l0_1 _ _ l1_1 true _ ?side1 ?side2 ?side3 ?side4 A4.out).mono ?_); (case side1 => exact qa25); (case side2 => exact HC0_1.out); (case side3 => exact qa43); (case side4 => exact HC1_1.out); rintro e w22 ⟨rfl, hb⟩; have hx_ := qHX HB hb qa0; refine ⟨_, rfl, ?_⟩; have n0_ := qO (qB BK101.out hx_ hb); have n1_ := qO (qB BK102.out hx_ hb); have n2_ := qO (below_step (below_step HB.out hx_) hb); clear BK101; clear BK102; clear HB; have BK101 := n0_; have BK102 := n1_; have HB := n2_; clear n0_ n1_ n2_; clear hx_; (try clear hb); (try clear hb2); (try clear hk); (try clear hi); have hcz23_0 : w22.cell? ⟨gb101, 0, none⟩ = some (.string a0_0) := (blk_cell BK101.out 0).trans rfl; have hcz23_1 : w22.cell? ⟨gb101, 1, none⟩ = some (.slice A0_1 l0_1.length c0_1) := (blk_cell BK101.out 1).trans rfl; have hcz23_2 : w22.cell? ⟨gb101, 2, none⟩ = some (.string a0_2) := (blk_cell BK101.out 2).trans rfl; have hcz23_3 : w22.cell? ⟨gb101, 3, none⟩ = some (.bool a0_3) := (blk_cell BK101.out 3).trans rfl; have hcz23_4 : w22.cell? ⟨gb101, 4, none⟩ = some (.bool a0_4) := (blk_cell BK101.out 4).trans rfl; have hfz23_0 := blk_frozen BK101.out 0; have hfz23_1 := blk_frozen BK101.out 1; have hfz23_2 := blk_frozen BK101.out 2; have hfz23_3 := blk_frozen BK101.out 3; have hfz23_4 := blk_frozen BK101.out 4; have hcz24_0 : w22.cell? ⟨gb102, 0, none⟩ = some (.string a1_0) := (blk_cell BK102.out 0).trans rfl; have hcz24_1 : w22.cell? ⟨gb102, 1, none⟩ = some (.slice A1_1 l1_1.length c1_1) := (blk_cell BK102.out 1).trans rfl; have hcz24_2 : w22.cell? ⟨gb102, 2, none⟩ = some (.string a1_2) := (blk_cell BK102.out 2).trans rfl; have hcz24_3 : w22.cell? ⟨gb102, 3, none⟩ = some (.bool a1_3) := (blk_cell BK102.out 3).trans rfl; have hcz24_4 : w22.cell? ⟨gb102, 4, none⟩ = some (.bool a1_4) := (blk_cell BK102.out 4).trans rfl; have hfz24_0 := blk_frozen BK102.out 0; have hfz24_1 := blk_frozen BK102.out 1; have hfz24_2 := blk_frozen BK102.out 2; have hfz24_3 := blk_frozen BK102.out 3; have hfz24_4 := blk_frozen BK102.out 4))
      go_ret
      exact ⟨qa3, qa7⟩
     ·rw [if_neg c16] at H
      have c16b0 : (a0_4 != a1_4) = false := by simpa using c16
      (try (have c16b1 : decide (a0_4 = a1_4) = true := by simpa using c16)); (try (have c16b2 : (a0_4 == a1_4) = true := by simpa using c16)); clear c16; obtain rfl := Option.some.inj H
      go_enter Try.func17, Try.ntmps17
      go_wp2_with (first | ((with_reducible refine gate_dst (N := 2) rfl ?_); refine box_event ?hg (N := 2) ?hd (cs := #[.string a0_0, .slice A0_1 l0_1.length c0_1, .string a0_2, .bool a0_3, .bool a0_4]) (t := 38) ?hr ?_; (case hd => rfl); (case hg => rfl); (case hr => exact qa18); intro gb101 hg w25 hbox hb; have hx_ := qHX HB hb qa0; have n0_ := qO (below_step (below_step HB.out hx_) hb); have n1_ := qO (hbox); have n2_ := qO ((qa15 : w.heap.size ≤ gb101)); have n3_ := n2_; clear HB; have HB := n0_; have BK101 := n1_; have GW101 := n2_; have GE101 := n3_; clear n0_ n1_ n2_ n3_; clear hx_; clear hb hbox hg) | ((with_reducible refine gate_dst (N := 3) rfl ?_); refine box_event ?hg (N := 3) ?hd (cs := #[.string a1_0, .slice A1_1 l1_1.length c1_1, .string a1_2, .bool a1_3, .bool a1_4]) (t := 38) ?hr ?_; (case hd => rfl); (case hg => rfl); (case hr => exact qa18); intro gb102 hg w26 hbox hb; have hx_ := qHX HB hb qa0; have n0_ := qO (qB BK101.out hx_ hb); have n1_ := qO (below_step (below_step HB.out hx_) hb); have n2_ := qO (hbox); have n3_ := qO ((qa15 : w.heap.size ≤ gb102)); have n4_ := n3_; have n5_ := qO ((qa28 : gb101 ≠ gb102)); have n6_ := qO (Ne.symm n5_.out); clear BK101; clear HB; have BK101 := n0_; have HB := n1_; have BK102 := n2_; have GW102 := n3_; have GE102 := n4_; have NB101_102 := n5_; have NB102_101 := n6_; clear n0_ n1_ n2_ n3_ n4_ n5_ n6_; clear hx_; clear hb hbox hg; have hnb27 := NB101_102.out; have hnc27 := NB102_101.out; have hcz28_0 : w26.cell? ⟨gb101, 0, none⟩ = some (.string a0_0) := (blk_cell BK101.out 0).trans rfl; have hcz28_1 : w26.cell? ⟨gb101, 1, none⟩ = some (.slice A0_1 l0_1.length c0_1) := (blk_cell BK101.out 1).trans rfl; have hcz28_2 : w26.cell? ⟨gb101, 2, none⟩ = some (.string a0_2) := (blk_cell BK101.out 2).trans rfl; have hcz28_3 : w26.cell? ⟨gb101, 3, none⟩ = some (.bool a0_3) := (blk_cell BK101.out 3).trans rfl; have hcz28_4 : w26.cell? ⟨gb101, 4, none⟩ = some (.bool a0_4) := (blk_cell BK101.out 4).trans rfl; have hfz28_0 := blk_frozen BK101.out 0; have hfz28_1 := blk_frozen BK101.out 1; have hfz28_2 := blk_frozen BK101.out 2; have hfz28_3 := blk_frozen BK101.out 3; have hfz28_4 := blk_frozen BK101.out 4; have hcz29_0 : w26.cell? ⟨gb102, 0, none⟩ = some (.string a1_0) := (blk_cell BK102.out 0).trans rfl; have hcz29_1 : w26.cell? ⟨gb102, 1, none⟩ = some (.slice A1_1 l1_1.length c1_1) := (blk_cell BK102.out 1).trans rfl; have hcz29_2 : w26.cell? ⟨gb102, 2, none⟩ = some (.string a1_2) := (blk_cell BK102.out 2).trans rfl; have hcz29_3 : w26.cell? ⟨gb102, 3, none⟩ = some (.bool a1_3) := (blk_cell BK102.out 3).trans rfl; have hcz29_4 : w26.cell? ⟨gb102, 4, none⟩ = some (.bool a1_4) := (blk_cell BK102.out 4).trans rfl; have hfz29_0 := blk_frozen BK102.out 0; have hfz29_1 := blk_frozen BK102.out 1; have hfz29_2 := blk_frozen BK102.out 2; have hfz29_3 := blk_frozen BK102.out 3; have hfz29_4 := blk_frozen BK102.out 4) | ((with_reducible refine gate_callee (f := 41) rfl ?_); refine goesL_ (some 14) rfl rfl Try.func41 qa17 rfl #[.slice A0_1 l0_1.length c0_1, .slice A1_1 l1_1.length c1_1] rfl qa1 ?_; (with_reducible refine (laws_eqArgDefS.calls k _ _ l0_1 _ _ l1_1 true _ ?side1 ?side2 ?side3 ?side4 A4.out).mono ?_); (case side1 => exact qa25); (case side2 => exact HC0_1.out); (case side3 => exact qa43); (case side4 => exact HC1_1.out); rintro e w30 ⟨rfl, hb⟩; have hx_ := qHX HB hb qa0; refine ⟨_, rfl, ?_⟩; have n0_ := qO (qB BK101.out hx_ hb); have n1_ := qO (qB BK102.out hx_ hb); have n2_ := qO (below_step (below_step HB.out hx_) hb); clear BK101; clear BK102; clear HB; have BK101 := n0_; have BK102 := n1_; have HB := n2_; clear n0_ n1_ n2_; clear hx_; (try clear hb); (try clear hb2); (try clear hk); (try clear hi); have hcz31_0 : w30.cell? ⟨gb101, 0, none⟩ = some (.string a0_0) := (blk_cell BK101.out 0).trans rfl; have hcz31_1 : w30.cell? ⟨gb101, 1, none⟩ = some (.slice A0_1 l0_1.length c0_1) := (blk_cell BK101.out 1).trans rfl; have hcz31_2 : w30.cell? ⟨gb101, 2, none⟩ = some (.string a0_2) := (blk_cell BK101.out 2).trans rfl; have hcz31_3 : w30.cell? ⟨gb101, 3, none⟩ = some (.bool a0_3) := (blk_cell BK101.out 3).trans rfl; have hcz31_4 : w30.cell? ⟨gb101, 4, none⟩ = some (.bool a0_4) := (blk_cell BK101.out 4).trans rfl; have hfz31_0 := blk_frozen BK101.out 0; have hfz31_1 := blk_frozen BK101.out 1; have hfz31_2 := blk_frozen BK101.out 2; have hfz31_3 := blk_frozen BK101.out 3; have hfz31_4 := blk_frozen BK101.out 4; have hcz32_0 : w30.cell? ⟨gb102, 0, none⟩ = some (.string a1_0) := (blk_cell BK102.out 0).trans rfl; have hcz32_1 : w30.cell? ⟨gb102, 1, none⟩ = some (.slice A1_1 l1_1.length c1_1) := (blk_cell BK102.out 1).trans rfl; have hcz32_2 : w30.cell? ⟨gb102, 2, none⟩ = some (.string a1_2) := (blk_cell BK102.out 2).trans rfl; have hcz32_3 : w30.cell? ⟨gb102, 3, none⟩ = some (.bool a1_3) := (blk_cell BK102.out 3).trans rfl; have hcz32_4 : w30.cell? ⟨gb102, 4, none⟩ = some (.bool a1_4) := (blk_cell BK102.out 4).trans rfl; have hfz32_0 := blk_frozen BK102.out 0; have hfz32_1 := blk_frozen BK102.out 1; have hfz32_2 := blk_frozen BK102.out 2; have hfz32_3 := blk_frozen BK102.out 3; have hfz32_4 := blk_frozen BK102.out 4))
      go_ret
      exact ⟨qa3, qa7⟩
   ·rw [if_neg c6] at H
    have c6b0 : (a0_2.toList == a1_2.toList) = false := beq_eq_false_iff_ne.mpr c6; have c6b1 : (a0_2.toList != a1_2.toList) = true := bne_iff_ne.mpr c6; obtain rfl := Option.some.inj H
    go_enter Try.func17, Try.ntmps17
    go_wp2_with (first | ((with_reducible refine gate_dst (N := 2) rfl ?_); refine box_event ?hg (N := 2) ?hd (cs := #[.string a0_0, .slice A0_1 l0_1.length c0_1, .string a0_2, .bool a0_3, .bool a0_4]) (t := 38) ?hr ?_; (case hd => rfl); (case hg => rfl); (case hr => exact qa18); intro gb101 hg w33 hbox hb; have hx_ := qHX HB hb qa0; have n0_ := qO (below_step (below_step HB.out hx_) hb); have n1_ := qO (hbox); have n2_ := qO ((qa15 : w.heap.size ≤ gb101)); have n3_ := n2_; clear HB; have HB := n0_; have BK101 := n1_; have GW101 := n2_; have GE101 := n3_; clear n0_ n1_ n2_ n3_; clear hx_; clear hb hbox hg) | ((with_reducible refine gate_dst (N := 3) rfl ?_); refine box_event ?hg (N := 3) ?hd (cs := #[.string a1_0, .slice A1_1 l1_1.length c1_1, .string a1_2, .bool a1_3, .bool a1_4]) (t := 38) ?hr ?_; (case hd => rfl); (case hg => rfl); (case hr => exact qa18); intro gb102 hg w34 hbox hb; have hx_ := qHX HB hb qa0; have n0_ := qO (qB BK101.out hx_ hb); have n1_ := qO (below_step (below_step HB.out hx_) hb); have n2_ := qO (hbox); have n3_ := qO ((qa15 : w.heap.size ≤ gb102)); have n4_ := n3_; have n5_ := qO ((qa28 : gb101 ≠ gb102)); have n6_ := qO (Ne.symm n5_.out); clear BK101; clear HB; have BK101 := n0_; have HB := n1_; have BK102 := n2_; have GW102 := n3_; have GE102 := n4_; have NB101_102 := n5_; have NB102_101 := n6_; clear n0_ n1_ n2_ n3_ n4_ n5_ n6_; clear hx_; clear hb hbox hg; have hnb35 := NB101_102.out; have hnc35 := NB102_101.out; have hcz36_0 : w34.cell? ⟨gb101, 0, none⟩ = some (.string a0_0) := (blk_cell BK101.out 0).trans rfl; have hcz36_1 : w34.cell? ⟨gb101, 1, none⟩ = some (.slice A0_1 l0_1.length c0_1) := (blk_cell BK101.out 1).trans rfl; have hcz36_2 : w34.cell? ⟨gb101, 2, none⟩ = some (.string a0_2) := (blk_cell BK101.out 2).trans rfl; have hcz36_3 : w34.cell? ⟨gb101, 3, none⟩ = some (.bool a0_3) := (blk_cell BK101.out 3).trans rfl; have hcz36_4 : w34.cell? ⟨gb101, 4, none⟩ = some (.bool a0_4) := (blk_cell BK101.out 4).trans rfl; have hfz36_0 := blk_frozen BK101.out 0; have hfz36_1 := blk_frozen BK101.out 1; have hfz36_2 := blk_frozen BK101.out 2; have hfz36_3 := blk_frozen BK101.out 3; have hfz36_4 := blk_frozen BK101.out 4; have hcz37_0 : w34.cell? ⟨gb102, 0, none⟩ = some (.string a1_0) := (blk_cell BK102.out 0).trans rfl; have hcz37_1 : w34.cell? ⟨gb102, 1, none⟩ = some (.slice A1_1 l1_1.length c1_1) := (blk_cell BK102.out 1).trans rfl; have hcz37_2 : w34.cell? ⟨gb102, 2, none⟩ = some (.string a1_2) := (blk_cell BK102.out 2).trans rfl; have hcz37_3 : w34.cell? ⟨gb102, 3, none⟩ = some (.bool a1_3) := (blk_cell BK102.out 3).trans rfl; have hcz37_4 : w34.cell? ⟨gb102, 4, none⟩ = some (.bool a1_4) := (blk_cell BK102.out 4).trans rfl; have hfz37_0 := blk_frozen BK102.out 0; have hfz37_1 := blk_frozen BK102.out 1; have hfz37_2 := blk_frozen BK102.out 2; have hfz37_3 := blk_frozen BK102.out 3; have hfz37_4 := blk_frozen BK102.out 4) | ((with_reducible refine gate_callee (f := 41) rfl ?_); refine goesL_ (some 14) rfl rfl Try.func41 qa17 rfl #[.slice A0_1 l0_1.length c0_1, .slice A1_1 l1_1.length c1_1] rfl qa1 ?_; (with_reducible refine (laws_eqArgDefS.calls k _ _ l0_1 _ _ l1_1 true _ ?side1 ?side2 ?side3 ?side4 A4.out).mono ?_); (case side1 => exact qa25); (case side2 => exact HC0_1.out); (case side3 => exact qa43); (case side4 => exact HC1_1.out); rintro e w38 ⟨rfl, hb⟩; have hx_ := qHX HB hb qa0; refine ⟨_, rfl, ?_⟩; have n0_ := qO (qB BK101.out hx_ hb); have n1_ := qO (qB BK102.out hx_ hb); have n2_ := qO (below_step (below_step HB.out hx_) hb); clear BK101; clear BK102; clear HB; have BK101 := n0_; have BK102 := n1_; have HB := n2_; clear n0_ n1_ n2_; clear hx_; (try clear hb); (try clear hb2); (try clear hk); (try clear hi); have hcz39_0 : w38.cell? ⟨gb101, 0, none⟩ = some (.string a0_0) := (blk_cell BK101.out 0).trans rfl; have hcz39_1 : w38.cell? ⟨gb101, 1, none⟩ = some (.slice A0_1 l0_1.length c0_1) := (blk_cell BK101.out 1).trans rfl; have hcz39_2 : w38.cell? ⟨gb101, 2, none⟩ = some (.string a0_2) := (blk_cell BK101.out 2).trans rfl; have hcz39_3 : w38.cell? ⟨gb101, 3, none⟩ = some (.bool a0_3) := (blk_cell BK101.out 3).trans rfl; have hcz39_4 : w38.cell? ⟨gb101, 4, none⟩ = some (.bool a0_4) := (blk_cell BK101.out 4).trans rfl; have hfz39_0 := blk_frozen BK101.out 0; have hfz39_1 := blk_frozen BK101.out 1; have hfz39_2 := blk_frozen BK101.out 2; have hfz39_3 := blk_frozen BK101.out 3; have hfz39_4 := blk_frozen BK101.out 4; have hcz40_0 : w38.cell? ⟨gb102, 0, none⟩ = some (.string a1_0) := (blk_cell BK102.out 0).trans rfl; have hcz40_1 : w38.cell? ⟨gb102, 1, none⟩ = some (.slice A1_1 l1_1.length c1_1) := (blk_cell BK102.out 1).trans rfl; have hcz40_2 : w38.cell? ⟨gb102, 2, none⟩ = some (.string a1_2) := (blk_cell BK102.out 2).trans rfl; have hcz40_3 : w38.cell? ⟨gb102, 3, none⟩ = some (.bool a1_3) := (blk_cell BK102.out 3).trans rfl; have hcz40_4 : w38.cell? ⟨gb102, 4, none⟩ = some (.bool a1_4) := (blk_cell BK102.out 4).trans rfl; have hfz40_0 := blk_frozen BK102.out 0; have hfz40_1 := blk_frozen BK102.out 1; have hfz40_2 := blk_frozen BK102.out 2; have hfz40_3 := blk_frozen BK102.out 3; have hfz40_4 := blk_frozen BK102.out 4))
    go_ret
    exact ⟨qa3, qa7⟩
  ·replace c5 := Bool.eq_false_iff.mpr c5
   subst c5; have H1 : (some false) = some r := by rw [if_neg (show ¬ (false = true) by decide)] at H; exact H
   clear H; have H := H1; clear H1; obtain rfl := Option.some.inj H
   go_enter Try.func17, Try.ntmps17
   go_wp2_with (first | ((with_reducible refine gate_dst (N := 2) rfl ?_); refine box_event ?hg (N := 2) ?hd (cs := #[.string a0_0, .slice A0_1 l0_1.length c0_1, .string a0_2, .bool a0_3, .bool a0_4]) (t := 38) ?hr ?_; (case hd => rfl); (case hg => rfl); (case hr => exact qa18); intro gb101 hg w41 hbox hb; have hx_ := qHX HB hb qa0; have n0_ := qO (below_step (below_step HB.out hx_) hb); have n1_ := qO (hbox); have n2_ := qO ((qa15 : w.heap.size ≤ gb101)); have n3_ := n2_; clear HB; have HB := n0_; have BK101 := n1_; have GW101 := n2_; have GE101 := n3_; clear n0_ n1_ n2_ n3_; clear hx_; clear hb hbox hg) | ((with_reducible refine gate_dst (N := 3) rfl ?_); refine box_event ?hg (N := 3) ?hd (cs := #[.string a1_0, .slice A1_1 l1_1.length c1_1, .string a1_2, .bool a1_3, .bool a1_4]) (t := 38) ?hr ?_; (case hd => rfl); (case hg => rfl); (case hr => exact qa18); intro gb102 hg w42 hbox hb; have hx_ := qHX HB hb qa0; have n0_ := qO (qB BK101.out hx_ hb); have n1_ := qO (below_step (below_step HB.out hx_) hb); have n2_ := qO (hbox); have n3_ := qO ((qa15 : w.heap.size ≤ gb102)); have n4_ := n3_; have n5_ := qO ((qa28 : gb101 ≠ gb102)); have n6_ := qO (Ne.symm n5_.out); clear BK101; clear HB; have BK101 := n0_; have HB := n1_; have BK102 := n2_; have GW102 := n3_; have GE102 := n4_; have NB101_102 := n5_; have NB102_101 := n6_; clear n0_ n1_ n2_ n3_ n4_ n5_ n6_; clear hx_; clear hb hbox hg; have hnb43 := NB101_102.out; have hnc43 := NB102_101.out; have hcz44_0 : w42.cell? ⟨gb101, 0, none⟩ = some (.string a0_0) := (blk_cell BK101.out 0).trans rfl; have hcz44_1 : w42.cell? ⟨gb101, 1, none⟩ = some (.slice A0_1 l0_1.length c0_1) := (blk_cell BK101.out 1).trans rfl; have hcz44_2 : w42.cell? ⟨gb101, 2, none⟩ = some (.string a0_2) := (blk_cell BK101.out 2).trans rfl; have hcz44_3 : w42.cell? ⟨gb101, 3, none⟩ = some (.bool a0_3) := (blk_cell BK101.out 3).trans rfl; have hcz44_4 : w42.cell? ⟨gb101, 4, none⟩ = some (.bool a0_4) := (blk_cell BK101.out 4).trans rfl; have hfz44_0 := blk_frozen BK101.out 0; have hfz44_1 := blk_frozen BK101.out 1; have hfz44_2 := blk_frozen BK101.out 2; have hfz44_3 := blk_frozen BK101.out 3; have hfz44_4 := blk_frozen BK101.out 4; have hcz45_0 : w42.cell? ⟨gb102, 0, none⟩ = some (.string a1_0) := (blk_cell BK102.out 0).trans rfl; have hcz45_1 : w42.cell? ⟨gb102, 1, none⟩ = some (.slice A1_1 l1_1.length c1_1) := (blk_cell BK102.out 1).trans rfl; have hcz45_2 : w42.cell? ⟨gb102, 2, none⟩ = some (.string a1_2) := (blk_cell BK102.out 2).trans rfl; have hcz45_3 : w42.cell? ⟨gb102, 3, none⟩ = some (.bool a1_3) := (blk_cell BK102.out 3).trans rfl; have hcz45_4 : w42.cell? ⟨gb102, 4, none⟩ = some (.bool a1_4) := (blk_cell BK102.out 4).trans rfl; have hfz45_0 := blk_frozen BK102.out 0; have hfz45_1 := blk_frozen BK102.out 1; have hfz45_2 := blk_frozen BK102.out 2; have hfz45_3 := blk_frozen BK102.out 3; have hfz45_4 := blk_frozen BK102.out 4) | ((with_reducible refine gate_callee (f := 41) rfl ?_); refine goesL_ (some 14) rfl rfl Try.func41 qa17 rfl #[.slice A0_1 l0_1.length c0_1, .slice A1_1 l1_1.length c1_1] rfl qa1 ?_; (with_reducible refine (laws_eqArgDefS.calls k _ _ l0_1 _ _ l1_1 false _ ?side1 ?side2 ?side3 ?side4 A4.out).mono ?_); (case side1 => exact qa25); (case side2 => exact HC0_1.out); (case side3 => exact qa43); (case side4 => exact HC1_1.out); rintro e w46 ⟨rfl, hb⟩; have hx_ := qHX HB hb qa0; refine ⟨_, rfl, ?_⟩; have n0_ := qO (qB BK101.out hx_ hb); have n1_ := qO (qB BK102.out hx_ hb); have n2_ := qO (below_step (below_step HB.out hx_) hb); clear BK101; clear BK102; clear HB; have BK101 := n0_; have BK102 := n1_; have HB := n2_; clear n0_ n1_ n2_; clear hx_; (try clear hb); (try clear hb2); (try clear hk); (try clear hi)))
   go_ret
   exact ⟨qa3, qa7⟩
 ·rw [if_neg c3] at H
  have c3b0 : (a0_0.toList == a1_0.toList) = false := beq_eq_false_iff_ne.mpr c3; have c3b1 : (a0_0.toList != a1_0.toList) = true := bne_iff_ne.mpr c3; obtain rfl := Option.some.inj H
  go_enter Try.func17, Try.ntmps17
  go_wp2_with (first | ((with_reducible refine gate_dst (N := 2) rfl ?_); refine box_event ?hg (N := 2) ?hd (cs := #[.string a0_0, .slice A0_1 l0_1.length c0_1, .string a0_2, .bool a0_3, .bool a0_4]) (t := 38) ?hr ?_; (case hd => rfl); (case hg => rfl); (case hr => exact qa18); intro gb101 hg w47 hbox hb; have hx_ := qHX HB hb qa0; have n0_ := qO (below_step (below_step HB.out hx_) hb); have n1_ := qO (hbox); have n2_ := qO ((qa15 : w.heap.size ≤ gb101)); have n3_ := n2_; clear HB; have HB := n0_; have BK101 := n1_; have GW101 := n2_; have GE101 := n3_; clear n0_ n1_ n2_ n3_; clear hx_; clear hb hbox hg) | ((with_reducible refine gate_dst (N := 3) rfl ?_); refine box_event ?hg (N := 3) ?hd (cs := #[.string a1_0, .slice A1_1 l1_1.length c1_1, .string a1_2, .bool a1_3, .bool a1_4]) (t := 38) ?hr ?_; (case hd => rfl); (case hg => rfl); (case hr => exact qa18); intro gb102 hg w48 hbox hb; have hx_ := qHX HB hb qa0; have n0_ := qO (qB BK101.out hx_ hb); have n1_ := qO (below_step (below_step HB.out hx_) hb); have n2_ := qO (hbox); have n3_ := qO ((qa15 : w.heap.size ≤ gb102)); have n4_ := n3_; have n5_ := qO ((qa28 : gb101 ≠ gb102)); have n6_ := qO (Ne.symm n5_.out); clear BK101; clear HB; have BK101 := n0_; have HB := n1_; have BK102 := n2_; have GW102 := n3_; have GE102 := n4_; have NB101_102 := n5_; have NB102_101 := n6_; clear n0_ n1_ n2_ n3_ n4_ n5_ n6_; clear hx_; clear hb hbox hg; have hnb49 := NB101_102.out; have hnc49 := NB102_101.out; have hcz50_0 : w48.cell? ⟨gb101, 0, none⟩ = some (.string a0_0) := (blk_cell BK101.out 0).trans rfl; have hcz50_1 : w48.cell? ⟨gb101, 1, none⟩ = some (.slice A0_1 l0_1.length c0_1) := (blk_cell BK101.out 1).trans rfl; have hcz50_2 : w48.cell? ⟨gb101, 2, none⟩ = some (.string a0_2) := (blk_cell BK101.out 2).trans rfl; have hcz50_3 : w48.cell? ⟨gb101, 3, none⟩ = some (.bool a0_3) := (blk_cell BK101.out 3).trans rfl; have hcz50_4 : w48.cell? ⟨gb101, 4, none⟩ = some (.bool a0_4) := (blk_cell BK101.out 4).trans rfl; have hfz50_0 := blk_frozen BK101.out 0; have hfz50_1 := blk_frozen BK101.out 1; have hfz50_2 := blk_frozen BK101.out 2; have hfz50_3 := blk_frozen BK101.out 3; have hfz50_4 := blk_frozen BK101.out 4; have hcz51_0 : w48.cell? ⟨gb102, 0, none⟩ = some (.string a1_0) := (blk_cell BK102.out 0).trans rfl; have hcz51_1 : w48.cell? ⟨gb102, 1, none⟩ = some (.slice A1_1 l1_1.length c1_1) := (blk_cell BK102.out 1).trans rfl; have hcz51_2 : w48.cell? ⟨gb102, 2, none⟩ = some (.string a1_2) := (blk_cell BK102.out 2).trans rfl; have hcz51_3 : w48.cell? ⟨gb102, 3, none⟩ = some (.bool a1_3) := (blk_cell BK102.out 3).trans rfl; have hcz51_4 : w48.cell? ⟨gb102, 4, none⟩ = some (.bool a1_4) := (blk_cell BK102.out 4).trans rfl; have hfz51_0 := blk_frozen BK102.out 0; have hfz51_1 := blk_frozen BK102.out 1; have hfz51_2 := blk_frozen BK102.out 2; have hfz51_3 := blk_frozen BK102.out 3; have hfz51_4 := blk_frozen BK102.out 4))
  go_ret
  exact ⟨qa3, qa7⟩


def laws_eqFieldDefS.l0 : Nat → List (S38) → List (S38) → Int → Option (Bool)
 | 0, _, _, _ => none
 | k + 1, x0, x1, x5 => if x5 < (x0.length : Int) then (if 0 ≤ x5 then (if x5 < (x1.length : Int) then ((laws_eqFieldDef.f k ((rd_T38 x0 x5).f0) ((rd_T38 x0 x5).f1) ((rd_T38 x0 x5).f2) ((rd_T38 x0 x5).f3) ((rd_T38 x0 x5).f4) ((rd_T38 x1 x5).f0) ((rd_T38 x1 x5).f1) ((rd_T38 x1 x5).f2) ((rd_T38 x1 x5).f3) ((rd_T38 x1 x5).f4)).bind fun t103 => (if t103 = true then (laws_eqFieldDefS.l0 k x0 x1 (wrap64 (x5 + 1))) else (some false))) else (none)) else (none)) else (some true)
def laws_eqFieldDefS.f (k : Nat) (l0 : List (S38)) (l1 : List (S38)) : Option (Bool) := if (l0.length : Int) = (l1.length : Int) then (laws_eqFieldDefS.l0 k l0 l1 0) else (some false)
def laws_eqFieldDefS.T6 : Bool × List (List Nat × List Nat) := (true, [([], []), ([], []), ([0, 1], [0, 1]), ([2], [2]), ([], []), ([], []), ([4, 5], [4, 5]), ([6], [6]), ([3, 7], [3, 7]), ([8], [8])])
def laws_eqFieldDefS.B6 : List Nat := [0, 0, 3, 7, 0, 0, 48, 112, 255, 511]
theorem laws_eqFieldDefS.tab6 : rtab .any (opsOf Try.f80 6) = laws_eqFieldDefS.T6 := by kernel_rfl
theorem laws_eqFieldDefS.bits6 : waitsOk laws_eqFieldDefS.T6.2 laws_eqFieldDefS.B6 = true := by kernel_rfl
def laws_eqFieldDefS.y0 : Array Bool := #[false, false, false, false, false, false, false, false, false, false]
def laws_eqFieldDefS.y1 : Array Bool := #[true, false, false, false, false, false, false, false, false, false]
def laws_eqFieldDefS.y2 : Array Bool := #[true, true, false, false, false, false, false, false, false, false]
def laws_eqFieldDefS.y3 : Array Bool := #[true, true, true, false, false, false, false, false, false, false]
def laws_eqFieldDefS.y4 : Array Bool := #[true, true, true, false, true, false, false, false, false, false]
def laws_eqFieldDefS.y5 : Array Bool := #[true, true, true, false, true, true, false, false, false, false]
def laws_eqFieldDefS.y6 : Array Bool := #[true, true, true, false, true, true, true, false, false, false]
def laws_eqFieldDefS.y7 : Array Bool := #[true, true, true, true, true, true, true, false, false, false]
def laws_eqFieldDefS.y8 : Array Bool := #[true, true, true, true, true, true, true, true, false, false]
def laws_eqFieldDefS.y9 : Array Bool := #[true, true, true, true, true, true, true, true, true, false]
def laws_eqFieldDefS.y10 : Array Bool := #[true, true, true, true, true, true, true, true, true, true]
set_option maxHeartbeats 8000000 in
set_option maxRecDepth 100000 in
theorem laws_eqFieldDefS.calls (k : Nat) (A0 : Option Addr) (c0 : Nat) (l0 : List (S38)) (A1 : Option Addr) (c1 : Nat) (l1 : List (S38)) (r : Bool) (w : World) (hr0 : Kd.C k38 w A0 l0.length l0) (hc0 : l0.length ≤ c0) (hr1 : Kd.C k38 w A1 l1.length l1) (hc1 : l1.length ≤ c1) (h : laws_eqFieldDefS.f k l0 l1 = some r) :
  Calls Try.prog 80 #[.slice A0 l0.length c0, .slice A1 l1.length c1] w fun e w' => e = .returned (.bool r) ∧ Below w.heap.size w w' := by
 have hu38 := Try.underlying38; have HR0 := qO hr0; have HC0 := qO hc0; clear hr0 hc0; have HR1 := qO hr1; have HC1 := qO hc1; clear hr1 hc1; have HB := qO (Below.refl w.heap.size w); have H : (if (l0.length : Int) = (l1.length : Int) then (laws_eqFieldDefS.l0 k l0 l1 0) else (some false)) = some r := h; clear h
 by_cases c3 : (l0.length : Int) = (l1.length : Int)
 ·rw [if_pos c3] at H
  have c3b0 : ((l0.length : Int) == (l1.length : Int)) = true := beq_iff_eq.mpr c3; have c3b1 : ((l0.length : Int) != (l1.length : Int)) = false := bne_eq_false_iff_eq.mpr c3; have c3b2 : (l0.length == l1.length) = true := by first | simpa using c3 | (simp at c3 ⊢; omega)
  clear c3; have H' := qO H; clear H
  go_enter Try.func80, Try.ntmps80
  go_wp2
  go_loopg [5] k (fun kq v5 w' => ∃ (x5_1 : Int), v5 = .int .i64 x5_1 ∧ Aside0 (laws_eqFieldDefS.l0 kq l0 l1 x5_1 = some r) ∧ Aside0 (kq ≤ k) ∧ Aside0 (Below w.heap.size w w'))
  case atStart => exact ⟨(0), qa11, H', ⟨Nat.le_refl _⟩, ⟨qa8⟩⟩
  case round =>
   clear H'
   try clear c1
   try clear p2
   try clear c3
   try clear c3b0
   try clear c3b1
   try clear c3b2
   obtain ⟨x5_1, rfl, HA, HK1, HB⟩ := hrel
   cases gk with
   | zero => exact absurd HA.out (by simp [laws_eqFieldDefS.l0])
   | succ k1 =>
    have H := HA.out; clear HA; simp only [laws_eqFieldDefS.l0] at H
    by_cases c4 : x5_1 < (l0.length : Int)
    ·rw [if_pos c4] at H
     have c4b0 : decide (x5_1 < (l0.length : Int)) = true := decide_eq_true c4; clear c4
     by_cases c5 : 0 ≤ x5_1
     ·rw [if_pos c5] at H
      have c5b0 : decide (0 ≤ x5_1) = true := decide_eq_true c5; clear c5
      by_cases c6 : x5_1 < (l1.length : Int)
      ·rw [if_pos c6] at H
       have c6b0 : decide (x5_1 < (l1.length : Int)) = true := decide_eq_true c6; clear c6; replace H := Option.bind_eq_some_iff.mp H; obtain ⟨t103, A70, H⟩ := H; replace H : (if t103 = true then (laws_eqFieldDefS.l0 k1 l0 l1 (wrap64 (x5_1 + 1))) else (some false)) = some r := H; have A7 := qO A70; clear A70
       by_cases c8 : t103 = true
       ·subst c8
        have H1 : (laws_eqFieldDefS.l0 k1 l0 l1 (wrap64 (x5_1 + 1))) = some r := by rw [if_pos rfl] at H; exact H
        clear H; have H := H1; clear H1; have H' := qO H; clear H
        try go_wp2
        have n0_ := qO (qbD HB.out); clear HB; have HB := n0_; clear n0_; have p101 : 0 ≤ (x5_1 : Int) := qT qa5; have q101 : x5_1 < (l0.length : Int) := qT qa5; obtain ⟨ad101, A101_1, c101_1, e101, hx101_0, hx101_1, hx101_2, hx101_3, hx101_4, hl101_1, hi101_1⟩ := at_T38 HR0.out x5_1 p101 q101; have hw101_4 := hx101_4; have hw101_3 := hx101_3; have hw101_2 := hx101_2; have hw101_1 := hx101_1; have hw101_0 := hx101_0
        cases e101
        replace hx101_0 := (HB.out.cell (qL w _ hx101_0)).trans hx101_0; replace hx101_1 := (HB.out.cell (qL w _ hx101_1)).trans hx101_1; replace hx101_2 := (HB.out.cell (qL w _ hx101_2)).trans hx101_2; replace hx101_3 := (HB.out.cell (qL w _ hx101_3)).trans hx101_3; replace hx101_4 := (HB.out.cell (qL w _ hx101_4)).trans hx101_4; have HR101_1 := qO hi101_1; have HC101_1 := qO hl101_1; clear hi101_1 hl101_1; replace p101 := eq_true p101; replace q101 := eq_true q101; have p102 : 0 ≤ (x5_1 : Int) := qT qa5; have q102 : x5_1 < (l1.length : Int) := qT qa5; obtain ⟨ad102, A102_1, c102_1, e102, hx102_0, hx102_1, hx102_2, hx102_3, hx102_4, hl102_1, hi102_1⟩ := at_T38 HR1.out x5_1 p102 q102; have hw102_4 := hx102_4; have hw102_3 := hx102_3; have hw102_2 := hx102_2; have hw102_1 := hx102_1; have hw102_0 := hx102_0
        cases e102
        replace hx102_0 := (HB.out.cell (qL w _ hx102_0)).trans hx102_0; replace hx102_1 := (HB.out.cell (qL w _ hx102_1)).trans hx102_1; replace hx102_2 := (HB.out.cell (qL w _ hx102_2)).trans hx102_2; replace hx102_3 := (HB.out.cell (qL w _ hx102_3)).trans hx102_3; replace hx102_4 := (HB.out.cell (qL w _ hx102_4)).trans hx102_4; have HR102_1 := qO hi102_1; have HC102_1 := qO hl102_1; clear hi102_1 hl102_1; replace p102 := eq_true p102; replace q102 := eq_true q102; refine start_ (n := 10) (S := fun w' => w'.cell? (ad101.add ((x5_1).toNat * 5)) = some (.string ((rd_T38 l0 x5_1).f0)) ∧ w'.cell? ⟨(ad101.add ((x5_1).toNat * 5)).block, (ad101.add ((x5_1).toNat * 5)).off + 1, none⟩ = some (.slice A101_1 ((rd_T38 l0 x5_1).f1).length c101_1) ∧ w'.cell? ⟨(ad101.add ((x5_1).toNat * 5)).block, (ad101.add ((x5_1).toNat * 5)).off + 2, none⟩ = some (.string ((rd_T38 l0 x5_1).f2)) ∧ w'.cell? ⟨(ad101.add ((x5_1).toNat * 5)).block, (ad101.add ((x5_1).toNat * 5)).off + 3, none⟩ = some (.bool ((rd_T38 l0 x5_1).f3)) ∧ w'.cell? ⟨(ad101.add ((x5_1).toNat * 5)).block, (ad101.add ((x5_1).toNat * 5)).off + 4, none⟩ = some (.bool ((rd_T38 l0 x5_1).f4)) ∧ w'.cell? (ad102.add ((x5_1).toNat * 5)) = some (.string ((rd_T38 l1 x5_1).f0)) ∧ w'.cell? ⟨(ad102.add ((x5_1).toNat * 5)).block, (ad102.add ((x5_1).toNat * 5)).off + 1, none⟩ = some (.slice A102_1 ((rd_T38 l1 x5_1).f1).length c102_1) ∧ w'.cell? ⟨(ad102.add ((x5_1).toNat * 5)).block, (ad102.add ((x5_1).toNat * 5)).off + 2, none⟩ = some (.string ((rd_T38 l1 x5_1).f2)) ∧ w'.cell? ⟨(ad102.add ((x5_1).toNat * 5)).block, (ad102.add ((x5_1).toNat * 5)).off + 3, none⟩ = some (.bool ((rd_T38 l1 x5_1).f3)) ∧ w'.cell? ⟨(ad102.add ((x5_1).toNat * 5)).block, (ad102.add ((x5_1).toNat * 5)).off + 4, none⟩ = some (.bool ((rd_T38 l1 x5_1).f4))) (ds := []) laws_eqFieldDefS.y0 qa17 rfl rfl ⟨((HB.out.cell (qL w _ hw101_0)).trans hw101_0), ((HB.out.cell (qL w _ hw101_1)).trans hw101_1), ((HB.out.cell (qL w _ hw101_2)).trans hw101_2), ((HB.out.cell (qL w _ hw101_3)).trans hw101_3), ((HB.out.cell (qL w _ hw101_4)).trans hw101_4), ((HB.out.cell (qL w _ hw102_0)).trans hw102_0), ((HB.out.cell (qL w _ hw102_1)).trans hw102_1), ((HB.out.cell (qL w _ hw102_2)).trans hw102_2), ((HB.out.cell (qL w _ hw102_3)).trans hw102_3), ((HB.out.cell (qL w _ hw102_4)).trans hw102_4)⟩ (fun hHeld => ?_); refine with_tabW laws_eqFieldDefS.tab6 laws_eqFieldDefS.bits6 (fun HT_ HW_ => ?_); generalize wr.drew = w9 at HB HR101_1 HR102_1 hx101_0 hx101_1 hx101_2 hx101_3 hx101_4 hx102_0 hx102_1 hx102_2 hx102_3 hx102_4 hHeld ⊢; refine pure_ (i := 0) (N := some 17) (v := ?_) (a' := ?_) laws_eqFieldDefS.y1 rfl rfl (any_of HT_.out qa17) (fun _ _ _ h => h) (Or.inl ⟨by rfl, ?_⟩) ?_ ?_; rotate_left; exact qa22; rotate_left; exact qa12; refine pure_ (i := 1) (N := some 18) (v := ?_) (a' := ?_) laws_eqFieldDefS.y2 rfl rfl (any_of HT_.out qa17) (fun _ _ _ h => h) (Or.inl ⟨by rfl, ?_⟩) ?_ ?_; rotate_left; exact qa22; rotate_left; exact qa12; refine pure_ (i := 2) (N := some 19) (v := ?_) (a' := ?_) laws_eqFieldDefS.y3 rfl rfl (any_of HT_.out qa17) (fun _ _ _ h => h) (Or.inl ⟨by rfl, ?_⟩) ?_ ?_; rotate_left; exact qa22; rotate_left; exact qa12; refine pure_ (i := 4) (N := some 21) (v := ?_) (a' := ?_) laws_eqFieldDefS.y4 rfl rfl (any_of HT_.out qa17) (fun _ _ _ h => h) (Or.inl ⟨by rfl, ?_⟩) ?_ ?_; rotate_left; exact qa22; rotate_left; exact qa12; refine pure_ (i := 5) (N := some 22) (v := ?_) (a' := ?_) laws_eqFieldDefS.y5 rfl rfl (any_of HT_.out qa17) (fun _ _ _ h => h) (Or.inl ⟨by rfl, ?_⟩) ?_ ?_; rotate_left; exact qa22; rotate_left; exact qa12; refine pure_ (i := 6) (N := some 23) (v := ?_) (a' := ?_) laws_eqFieldDefS.y6 rfl rfl (any_of HT_.out qa17) (fun _ _ _ h => h) (Or.inl ⟨by rfl, ?_⟩) ?_ ?_; rotate_left; exact qa22; rotate_left; exact qa12; refine take_ (i := 3) (N := some 20) (v := ?_) (a' := ?_) laws_eqFieldDefS.y7 rfl rfl (take_ofW HT_.out HW_.out qa17) (fun _ _ _ h => h) (Or.inl ⟨by rfl, ?_⟩) hHeld ?_ ?_; rotate_left; exact qa95; rotate_left; exact qa12; refine take_ (i := 7) (N := some 24) (v := ?_) (a' := ?_) laws_eqFieldDefS.y8 rfl rfl (take_ofW HT_.out HW_.out qa17) (fun _ _ _ h => h) (Or.inl ⟨by rfl, ?_⟩) hHeld ?_ ?_; rotate_left; exact qa95; rotate_left; exact qa12; refine one_ (i := 8) (N := some 25) laws_eqFieldDefS.y9 rfl rfl (one_of HT_.out qa17) qa108 (fun K hK => ?_); refine goes_ Try.func17 qa17 rfl #[.agg #[.string ((rd_T38 l0 x5_1).f0), .slice A101_1 ((rd_T38 l0 x5_1).f1).length c101_1, .string ((rd_T38 l0 x5_1).f2), .bool ((rd_T38 l0 x5_1).f3), .bool ((rd_T38 l0 x5_1).f4)], .agg #[.string ((rd_T38 l1 x5_1).f0), .slice A102_1 ((rd_T38 l1 x5_1).f1).length c102_1, .string ((rd_T38 l1 x5_1).f2), .bool ((rd_T38 l1 x5_1).f3), .bool ((rd_T38 l1 x5_1).f4)]] (by rfl) rfl rfl qa1 ?_; (with_reducible refine (laws_eqFieldDef.calls k1 ((rd_T38 l0 x5_1).f0) _ _ ((rd_T38 l0 x5_1).f1) ((rd_T38 l0 x5_1).f2) ((rd_T38 l0 x5_1).f3) ((rd_T38 l0 x5_1).f4) ((rd_T38 l1 x5_1).f0) _ _ ((rd_T38 l1 x5_1).f1) ((rd_T38 l1 x5_1).f2) ((rd_T38 l1 x5_1).f3) ((rd_T38 l1 x5_1).f4) true _ ?side1 ?side2 ?side3 ?side4 A7.out).mono ?_); (case side1 => exact qa39); (case side2 => exact HC101_1.out); (case side3 => exact qa67); (case side4 => exact HC102_1.out); rintro e w10 ⟨rfl, hb⟩; have hx_ := qHX HB hb qa0; refine ⟨_, rfl, ?_⟩; have n0_ := qO (below_step (below_step HB.out hx_) hb); clear HB; have HB := n0_; clear n0_; clear hx_; (try clear hb); (try clear hb2); (try clear hk); (try clear hi); refine hK.out _ _ ⟨((HB.out.cell (qL w _ hw101_0)).trans hw101_0), ((HB.out.cell (qL w _ hw101_1)).trans hw101_1), ((HB.out.cell (qL w _ hw101_2)).trans hw101_2), ((HB.out.cell (qL w _ hw101_3)).trans hw101_3), ((HB.out.cell (qL w _ hw101_4)).trans hw101_4), ((HB.out.cell (qL w _ hw102_0)).trans hw102_0), ((HB.out.cell (qL w _ hw102_1)).trans hw102_1), ((HB.out.cell (qL w _ hw102_2)).trans hw102_2), ((HB.out.cell (qL w _ hw102_3)).trans hw102_3), ((HB.out.cell (qL w _ hw102_4)).trans hw102_4)⟩ (fun hHeld => ?_); clear hK K; refine norm_ (a' := ?_) ?_ ?_; rotate_left
        ·exact qa33
        refine pure_ (i := 9) (N := some 26) (v := ?_) (a' := ?_) laws_eqFieldDefS.y10 rfl rfl (any_of HT_.out qa17) (fun _ _ _ h => h) (Or.inl ⟨by rfl, ?_⟩) ?_ ?_; rotate_left; exact qa22; rotate_left; exact qa12; refine done_ (done_of HT_.out qa17) ?_
        try go_wp2
        go_roundg k1
        case measure => have := HK1.out; omega
        case rel => exact ⟨(wrap64 (x5_1 + 1)), qa11, H', ⟨qa87⟩, ⟨qa8⟩⟩
       ·replace c8 := Bool.eq_false_iff.mpr c8
        subst c8; have H1 : (some false) = some r := by rw [if_neg (show ¬ (false = true) by decide)] at H; exact H
        clear H; have H := H1; clear H1; obtain rfl := Option.some.inj H
        try go_wp2
        have n0_ := qO (qbD HB.out); clear HB; have HB := n0_; clear n0_; have p101 : 0 ≤ (x5_1 : Int) := qT qa5; have q101 : x5_1 < (l0.length : Int) := qT qa5; obtain ⟨ad101, A101_1, c101_1, e101, hx101_0, hx101_1, hx101_2, hx101_3, hx101_4, hl101_1, hi101_1⟩ := at_T38 HR0.out x5_1 p101 q101; have hw101_4 := hx101_4; have hw101_3 := hx101_3; have hw101_2 := hx101_2; have hw101_1 := hx101_1; have hw101_0 := hx101_0
        cases e101
        replace hx101_0 := (HB.out.cell (qL w _ hx101_0)).trans hx101_0; replace hx101_1 := (HB.out.cell (qL w _ hx101_1)).trans hx101_1; replace hx101_2 := (HB.out.cell (qL w _ hx101_2)).trans hx101_2; replace hx101_3 := (HB.out.cell (qL w _ hx101_3)).trans hx101_3; replace hx101_4 := (HB.out.cell (qL w _ hx101_4)).trans hx101_4; have HR101_1 := qO hi101_1; have HC101_1 := qO hl101_1; clear hi101_1 hl101_1; replace p101 := eq_true p101; replace q101 := eq_true q101; have p102 : 0 ≤ (x5_1 : Int) := qT qa5; have q102 : x5_1 < (l1.length : Int) := qT qa5; obtain ⟨ad102, A102_1, c102_1, e102, hx102_0, hx102_1, hx102_2, hx102_3, hx102_4, hl102_1, hi102_1⟩ := at_T38 HR1.out x5_1 p102 q102; have hw102_4 := hx102_4; have hw102_3 := hx102_3; have hw102_2 := hx102_2; have hw102_1 := hx102_1; have hw102_0 := hx102_0
        cases e102
        replace hx102_0 := (HB.out.cell (qL w _ hx102_0)).trans hx102_0; replace hx102_1 := (HB.out.cell (qL w _ hx102_1)).trans hx102_1; replace hx102_2 := (HB.out.cell (qL w _ hx102_2)).trans hx102_2; replace hx102_3 := (HB.out.cell (qL w _ hx102_3)).trans hx102_3; replace hx102_4 := (HB.out.cell (qL w _ hx102_4)).trans hx102_4; have HR102_1 := qO hi102_1; have HC102_1 := qO hl102_1; clear hi102_1 hl102_1; replace p102 := eq_true p102; replace q102 := eq_true q102; refine start_ (n := 10) (S := fun w' => w'.cell? (ad101.add ((x5_1).toNat * 5)) = some (.string ((rd_T38 l0 x5_1).f0)) ∧ w'.cell? ⟨(ad101.add ((x5_1).toNat * 5)).block, (ad101.add ((x5_1).toNat * 5)).off + 1, none⟩ = some (.slice A101_1 ((rd_T38 l0 x5_1).f1).length c101_1) ∧ w'.cell? ⟨(ad101.add ((x5_1).toNat * 5)).block, (ad101.add ((x5_1).toNat * 5)).off + 2, none⟩ = some (.string ((rd_T38 l0 x5_1).f2)) ∧ w'.cell? ⟨(ad101.add ((x5_1).toNat * 5)).block, (ad101.add ((x5_1).toNat * 5)).off + 3, none⟩ = some (.bool ((rd_T38 l0 x5_1).f3)) ∧ w'.cell? ⟨(ad101.add ((x5_1).toNat * 5)).block, (ad101.add ((x5_1).toNat * 5)).off + 4, none⟩ = some (.bool ((rd_T38 l0 x5_1).f4)) ∧ w'.cell? (ad102.add ((x5_1).toNat * 5)) = some (.string ((rd_T38 l1 x5_1).f0)) ∧ w'.cell? ⟨(ad102.add ((x5_1).toNat * 5)).block, (ad102.add ((x5_1).toNat * 5)).off + 1, none⟩ = some (.slice A102_1 ((rd_T38 l1 x5_1).f1).length c102_1) ∧ w'.cell? ⟨(ad102.add ((x5_1).toNat * 5)).block, (ad102.add ((x5_1).toNat * 5)).off + 2, none⟩ = some (.string ((rd_T38 l1 x5_1).f2)) ∧ w'.cell? ⟨(ad102.add ((x5_1).toNat * 5)).block, (ad102.add ((x5_1).toNat * 5)).off + 3, none⟩ = some (.bool ((rd_T38 l1 x5_1).f3)) ∧ w'.cell? ⟨(ad102.add ((x5_1).toNat * 5)).block, (ad102.add ((x5_1).toNat * 5)).off + 4, none⟩ = some (.bool ((rd_T38 l1 x5_1).f4))) (ds := []) laws_eqFieldDefS.y0 qa17 rfl rfl ⟨((HB.out.cell (qL w _ hw101_0)).trans hw101_0), ((HB.out.cell (qL w _ hw101_1)).trans hw101_1), ((HB.out.cell (qL w _ hw101_2)).trans hw101_2), ((HB.out.cell (qL w _ hw101_3)).trans hw101_3), ((HB.out.cell (qL w _ hw101_4)).trans hw101_4), ((HB.out.cell (qL w _ hw102_0)).trans hw102_0), ((HB.out.cell (qL w _ hw102_1)).trans hw102_1), ((HB.out.cell (qL w _ hw102_2)).trans hw102_2), ((HB.out.cell (qL w _ hw102_3)).trans hw102_3), ((HB.out.cell (qL w _ hw102_4)).trans hw102_4)⟩ (fun hHeld => ?_); refine with_tabW laws_eqFieldDefS.tab6 laws_eqFieldDefS.bits6 (fun HT_ HW_ => ?_); generalize wr.drew = w11 at HB HR101_1 HR102_1 hx101_0 hx101_1 hx101_2 hx101_3 hx101_4 hx102_0 hx102_1 hx102_2 hx102_3 hx102_4 hHeld ⊢; refine pure_ (i := 0) (N := some 17) (v := ?_) (a' := ?_) laws_eqFieldDefS.y1 rfl rfl (any_of HT_.out qa17) (fun _ _ _ h => h) (Or.inl ⟨by rfl, ?_⟩) ?_ ?_; rotate_left; exact qa22; rotate_left; exact qa12; refine pure_ (i := 1) (N := some 18) (v := ?_) (a' := ?_) laws_eqFieldDefS.y2 rfl rfl (any_of HT_.out qa17) (fun _ _ _ h => h) (Or.inl ⟨by rfl, ?_⟩) ?_ ?_; rotate_left; exact qa22; rotate_left; exact qa12; refine pure_ (i := 2) (N := some 19) (v := ?_) (a' := ?_) laws_eqFieldDefS.y3 rfl rfl (any_of HT_.out qa17) (fun _ _ _ h => h) (Or.inl ⟨by rfl, ?_⟩) ?_ ?_; rotate_left; exact qa22; rotate_left; exact qa12; refine pure_ (i := 4) (N := some 21) (v := ?_) (a' := ?_) laws_eqFieldDefS.y4 rfl rfl (any_of HT_.out qa17) (fun _ _ _ h => h) (Or.inl ⟨by rfl, ?_⟩) ?_ ?_; rotate_left; exact qa22; rotate_left; exact qa12; refine pure_ (i := 5) (N := some 22) (v := ?_) (a' := ?_) laws_eqFieldDefS.y5 rfl rfl (any_of HT_.out qa17) (fun _ _ _ h => h) (Or.inl ⟨by rfl, ?_⟩) ?_ ?_; rotate_left; exact qa22; rotate_left; exact qa12; refine pure_ (i := 6) (N := some 23) (v := ?_) (a' := ?_) laws_eqFieldDefS.y6 rfl rfl (any_of HT_.out qa17) (fun _ _ _ h => h) (Or.inl ⟨by rfl, ?_⟩) ?_ ?_; rotate_left; exact qa22; rotate_left; exact qa12; refine take_ (i := 3) (N := some 20) (v := ?_) (a' := ?_) laws_eqFieldDefS.y7 rfl rfl (take_ofW HT_.out HW_.out qa17) (fun _ _ _ h => h) (Or.inl ⟨by rfl, ?_⟩) hHeld ?_ ?_; rotate_left; exact qa95; rotate_left; exact qa12; refine take_ (i := 7) (N := some 24) (v := ?_) (a' := ?_) laws_eqFieldDefS.y8 rfl rfl (take_ofW HT_.out HW_.out qa17) (fun _ _ _ h => h) (Or.inl ⟨by rfl, ?_⟩) hHeld ?_ ?_; rotate_left; exact qa95; rotate_left; exact qa12; refine one_ (i := 8) (N := some 25) laws_eqFieldDefS.y9 rfl rfl (one_of HT_.out qa17) qa108 (fun K hK => ?_); refine goes_ Try.func17 qa17 rfl #[.agg #[.string ((rd_T38 l0 x5_1).f0), .slice A101_1 ((rd_T38 l0 x5_1).f1).length c101_1, .string ((rd_T38 l0 x5_1).f2), .bool ((rd_T38 l0 x5_1).f3), .bool ((rd_T38 l0 x5_1).f4)], .agg #[.string ((rd_T38 l1 x5_1).f0), .slice A102_1 ((rd_T38 l1 x5_1).f1).length c102_1, .string ((rd_T38 l1 x5_1).f2), .bool ((rd_T38 l1 x5_1).f3), .bool ((rd_T38 l1 x5_1).f4)]] (by rfl) rfl rfl qa1 ?_; (with_reducible refine (laws_eqFieldDef.calls k1 ((rd_T38 l0 x5_1).f0) _ _ ((rd_T38 l0 x5_1).f1) ((rd_T38 l0 x5_1).f2) ((rd_T38 l0 x5_1).f3) ((rd_T38 l0 x5_1).f4) ((rd_T38 l1 x5_1).f0) _ _ ((rd_T38 l1 x5_1).f1) ((rd_T38 l1 x5_1).f2) ((rd_T38 l1 x5_1).f3) ((rd_T38 l1 x5_1).f4) false _ ?side1 ?side2 ?side3 ?side4 A7.out).mono ?_); (case side1 => exact qa39); (case side2 => exact HC101_1.out); (case side3 => exact qa67); (case side4 => exact HC102_1.out); rintro e w12 ⟨rfl, hb⟩; have hx_ := qHX HB hb qa0; refine ⟨_, rfl, ?_⟩; have n0_ := qO (below_step (below_step HB.out hx_) hb); clear HB; have HB := n0_; clear n0_; clear hx_; (try clear hb); (try clear hb2); (try clear hk); (try clear hi); refine hK.out _ _ ⟨((HB.out.cell (qL w _ hw101_0)).trans hw101_0), ((HB.out.cell (qL w _ hw101_1)).trans hw101_1), ((HB.out.cell (qL w _ hw101_2)).trans hw101_2), ((HB.out.cell (qL w _ hw101_3)).trans hw101_3), ((HB.out.cell (qL w _ hw101_4)).trans hw101_4), ((HB.out.cell (qL w _ hw102_0)).trans hw102_0), ((HB.out.cell (qL w _ hw102_1)).trans hw102_1), ((HB.out.cell (qL w _ hw102_2)).trans hw102_2), ((HB.out.cell (qL w _ hw102_3)).trans hw102_3), ((HB.out.cell (qL w _ hw102_4)).trans hw102_4)⟩ (fun hHeld => ?_); clear hK K; refine norm_ (a' := ?_) ?_ ?_; rotate_left
        ·exact qa33
        refine pure_ (i := 9) (N := some 26) (v := ?_) (a' := ?_) laws_eqFieldDefS.y10 rfl rfl (any_of HT_.out qa17) (fun _ _ _ h => h) (Or.inl ⟨by rfl, ?_⟩) ?_ ?_; rotate_left; exact qa22; rotate_left; exact qa12; refine done_ (done_of HT_.out qa17) ?_
        try go_wp2
        go_ret
        exact ⟨qa3, qa8⟩
      ·rw [if_neg c6] at H
       exact absurd H qa91
     ·rw [if_neg c5] at H
      exact absurd H qa91
    ·rw [if_neg c4] at H
     have c4b0 : decide (x5_1 < (l0.length : Int)) = false := decide_eq_false c4; clear c4; obtain rfl := Option.some.inj H; go_wp2
     go_ret
     exact ⟨qa3, qa8⟩
 ·rw [if_neg c3] at H
  have c3b0 : ((l0.length : Int) == (l1.length : Int)) = false := beq_eq_false_iff_ne.mpr c3; have c3b1 : ((l0.length : Int) != (l1.length : Int)) = true := bne_iff_ne.mpr c3; have c3b2 : (l0.length == l1.length) = false := by first | simpa using c3 | (simp at c3 ⊢; omega)
  obtain rfl := Option.some.inj H
  go_enter Try.func80, Try.ntmps80
  go_wp2
  go_ret
  exact ⟨qa3, qa8⟩


def laws_eqTypeDef.f (k : Nat) (a0_0 : ByteArray) (l0_1 : List (S38)) (a1_0 : ByteArray) (l1_1 : List (S38)) : Option (Bool) := if a0_0.toList = a1_0.toList then ((laws_eqFieldDefS.f k l0_1 l1_1).bind fun t103 => (if t103 = true then (some true) else (some false))) else (some false)
set_option maxHeartbeats 8000000 in
set_option maxRecDepth 100000 in
theorem laws_eqTypeDef.calls (k : Nat) (a0_0 : ByteArray) (A0_1 : Option Addr) (c0_1 : Nat) (l0_1 : List (S38)) (a1_0 : ByteArray) (A1_1 : Option Addr) (c1_1 : Nat) (l1_1 : List (S38)) (r : Bool) (w : World) (hr0_1 : Kd.C k38 w A0_1 l0_1.length l0_1) (hc0_1 : l0_1.length ≤ c0_1) (hr1_1 : Kd.C k38 w A1_1 l1_1.length l1_1) (hc1_1 : l1_1.length ≤ c1_1) (h : laws_eqTypeDef.f k a0_0 l0_1 a1_0 l1_1 = some r) :
  Calls Try.prog 64 #[.agg #[.string a0_0, .slice A0_1 l0_1.length c0_1], .agg #[.string a1_0, .slice A1_1 l1_1.length c1_1]] w fun e w' => e = .returned (.bool r) ∧ Below w.heap.size w w' := by
 have hu53 := Try.underlying53; have HR0_1 := qO hr0_1; have HC0_1 := qO hc0_1; clear hr0_1 hc0_1; have HR1_1 := qO hr1_1; have HC1_1 := qO hc1_1; clear hr1_1 hc1_1; have HB := qO (Below.refl w.heap.size w); have H : (if a0_0.toList = a1_0.toList then ((laws_eqFieldDefS.f k l0_1 l1_1).bind fun t103 => (if t103 = true then (some true) else (some false))) else (some false)) = some r := h; clear h
 by_cases c3 : a0_0.toList = a1_0.toList
 ·rw [if_pos c3] at H
  have c3b0 : (a0_0.toList == a1_0.toList) = true := beq_iff_eq.mpr c3; have c3b1 : (a0_0.toList != a1_0.toList) = false := bne_eq_false_iff_eq.mpr c3; clear c3; replace H := Option.bind_eq_some_iff.mp H; obtain ⟨t103, A40, H⟩ := H; replace H : (if t103 = true then (some true) else (some false)) = some r := H; have A4 := qO A40; clear A40
  by_cases c5 : t103 = true
  ·subst c5
   have H1 : (some true) = some r := by rw [if_pos rfl] at H; exact H
   clear H; have H := H1; clear H1; obtain rfl := Option.some.inj H
   go_enter Try.func64, Try.ntmps64
   go_wp2_with (first | ((with_reducible refine gate_dst (N := 2) rfl ?_); refine box_event ?hg (N := 2) ?hd (cs := #[.string a0_0, .slice A0_1 l0_1.length c0_1]) (t := 53) ?hr ?_; (case hd => rfl); (case hg => rfl); (case hr => exact qa18); intro gb101 hg w6 hbox hb; have hx_ := qHX HB hb qa0; have n0_ := qO (below_step (below_step HB.out hx_) hb); have n1_ := qO (hbox); have n2_ := qO ((qa15 : w.heap.size ≤ gb101)); have n3_ := n2_; clear HB; have HB := n0_; have BK101 := n1_; have GW101 := n2_; have GE101 := n3_; clear n0_ n1_ n2_ n3_; clear hx_; clear hb hbox hg) | ((with_reducible refine gate_dst (N := 3) rfl ?_); refine box_event ?hg (N := 3) ?hd (cs := #[.string a1_0, .slice A1_1 l1_1.length c1_1]) (t := 53) ?hr ?_; (case hd => rfl); (case hg => rfl); (case hr => exact qa18); intro gb102 hg w7 hbox hb; have hx_ := qHX HB hb qa0; have n0_ := qO (qB BK101.out hx_ hb); have n1_ := qO (below_step (below_step HB.out hx_) hb); have n2_ := qO (hbox); have n3_ := qO ((qa15 : w.heap.size ≤ gb102)); have n4_ := n3_; have n5_ := qO ((qa46 : gb101 ≠ gb102)); have n6_ := qO (Ne.symm n5_.out); clear BK101; clear HB; have BK101 := n0_; have HB := n1_; have BK102 := n2_; have GW102 := n3_; have GE102 := n4_; have NB101_102 := n5_; have NB102_101 := n6_; clear n0_ n1_ n2_ n3_ n4_ n5_ n6_; clear hx_; clear hb hbox hg; have hnb8 := NB101_102.out; have hnc8 := NB102_101.out; have hcz9_0 : w7.cell? ⟨gb101, 0, none⟩ = some (.string a0_0) := (blk_cell BK101.out 0).trans rfl; have hcz9_1 : w7.cell? ⟨gb101, 1, none⟩ = some (.slice A0_1 l0_1.length c0_1) := (blk_cell BK101.out 1).trans rfl; have hfz9_0 := blk_frozen BK101.out 0; have hfz9_1 := blk_frozen BK101.out 1; have hcz10_0 : w7.cell? ⟨gb102, 0, none⟩ = some (.string a1_0) := (blk_cell BK102.out 0).trans rfl; have hcz10_1 : w7.cell? ⟨gb102, 1, none⟩ = some (.slice A1_1 l1_1.length c1_1) := (blk_cell BK102.out 1).trans rfl; have hfz10_0 := blk_frozen BK102.out 0; have hfz10_1 := blk_frozen BK102.out 1) | ((with_reducible refine gate_callee (f := 80) rfl ?_); refine goesL_ (some 14) rfl rfl Try.func80 qa17 rfl #[.slice A0_1 l0_1.length c0_1, .slice A1_1 l1_1.length c1_1] rfl qa1 ?_; (with_reducible refine (laws_eqFieldDefS.calls k _ _ l0_1 _ _ l1_1 true _ ?side1 ?side2 ?side3 ?side4 A4.out).mono ?_); (case side1 => exact qa25); (case side2 => exact HC0_1.out); (case side3 => exact qa43); (case side4 => exact HC1_1.out); rintro e w11 ⟨rfl, hb⟩; have hx_ := qHX HB hb qa0; refine ⟨_, rfl, ?_⟩; have n0_ := qO (qB BK101.out hx_ hb); have n1_ := qO (qB BK102.out hx_ hb); have n2_ := qO (below_step (below_step HB.out hx_) hb); clear BK101; clear BK102; clear HB; have BK101 := n0_; have BK102 := n1_; have HB := n2_; clear n0_ n1_ n2_; clear hx_; (try clear hb); (try clear hb2); (try clear hk); (try clear hi)))
   go_ret
   exact ⟨qa3, qa7⟩
  ·replace c5 := Bool.eq_false_iff.mpr c5
   subst c5; have H1 : (some false) = some r := by rw [if_neg (show ¬ (false = true) by decide)] at H; exact H
   clear H; have H := H1; clear H1; obtain rfl := Option.some.inj H
   go_enter Try.func64, Try.ntmps64
   go_wp2_with (first | ((with_reducible refine gate_dst (N := 2) rfl ?_); refine box_event ?hg (N := 2) ?hd (cs := #[.string a0_0, .slice A0_1 l0_1.length c0_1]) (t := 53) ?hr ?_; (case hd => rfl); (case hg => rfl); (case hr => exact qa18); intro gb101 hg w12 hbox hb; have hx_ := qHX HB hb qa0; have n0_ := qO (below_step (below_step HB.out hx_) hb); have n1_ := qO (hbox); have n2_ := qO ((qa15 : w.heap.size ≤ gb101)); have n3_ := n2_; clear HB; have HB := n0_; have BK101 := n1_; have GW101 := n2_; have GE101 := n3_; clear n0_ n1_ n2_ n3_; clear hx_; clear hb hbox hg) | ((with_reducible refine gate_dst (N := 3) rfl ?_); refine box_event ?hg (N := 3) ?hd (cs := #[.string a1_0, .slice A1_1 l1_1.length c1_1]) (t := 53) ?hr ?_; (case hd => rfl); (case hg => rfl); (case hr => exact qa18); intro gb102 hg w13 hbox hb; have hx_ := qHX HB hb qa0; have n0_ := qO (qB BK101.out hx_ hb); have n1_ := qO (below_step (below_step HB.out hx_) hb); have n2_ := qO (hbox); have n3_ := qO ((qa15 : w.heap.size ≤ gb102)); have n4_ := n3_; have n5_ := qO ((qa46 : gb101 ≠ gb102)); have n6_ := qO (Ne.symm n5_.out); clear BK101; clear HB; have BK101 := n0_; have HB := n1_; have BK102 := n2_; have GW102 := n3_; have GE102 := n4_; have NB101_102 := n5_; have NB102_101 := n6_; clear n0_ n1_ n2_ n3_ n4_ n5_ n6_; clear hx_; clear hb hbox hg; have hnb14 := NB101_102.out; have hnc14 := NB102_101.out; have hcz15_0 : w13.cell? ⟨gb101, 0, none⟩ = some (.string a0_0) := (blk_cell BK101.out 0).trans rfl; have hcz15_1 : w13.cell? ⟨gb101, 1, none⟩ = some (.slice A0_1 l0_1.length c0_1) := (blk_cell BK101.out 1).trans rfl; have hfz15_0 := blk_frozen BK101.out 0; have hfz15_1 := blk_frozen BK101.out 1; have hcz16_0 : w13.cell? ⟨gb102, 0, none⟩ = some (.string a1_0) := (blk_cell BK102.out 0).trans rfl; have hcz16_1 : w13.cell? ⟨gb102, 1, none⟩ = some (.slice A1_1 l1_1.length c1_1) := (blk_cell BK102.out 1).trans rfl; have hfz16_0 := blk_frozen BK102.out 0; have hfz16_1 := blk_frozen BK102.out 1) | ((with_reducible refine gate_callee (f := 80) rfl ?_); refine goesL_ (some 14) rfl rfl Try.func80 qa17 rfl #[.slice A0_1 l0_1.length c0_1, .slice A1_1 l1_1.length c1_1] rfl qa1 ?_; (with_reducible refine (laws_eqFieldDefS.calls k _ _ l0_1 _ _ l1_1 false _ ?side1 ?side2 ?side3 ?side4 A4.out).mono ?_); (case side1 => exact qa25); (case side2 => exact HC0_1.out); (case side3 => exact qa43); (case side4 => exact HC1_1.out); rintro e w17 ⟨rfl, hb⟩; have hx_ := qHX HB hb qa0; refine ⟨_, rfl, ?_⟩; have n0_ := qO (qB BK101.out hx_ hb); have n1_ := qO (qB BK102.out hx_ hb); have n2_ := qO (below_step (below_step HB.out hx_) hb); clear BK101; clear BK102; clear HB; have BK101 := n0_; have BK102 := n1_; have HB := n2_; clear n0_ n1_ n2_; clear hx_; (try clear hb); (try clear hb2); (try clear hk); (try clear hi)))
   go_ret
   exact ⟨qa3, qa7⟩
 ·rw [if_neg c3] at H
  have c3b0 : (a0_0.toList == a1_0.toList) = false := beq_eq_false_iff_ne.mpr c3; have c3b1 : (a0_0.toList != a1_0.toList) = true := bne_iff_ne.mpr c3; obtain rfl := Option.some.inj H
  go_enter Try.func64, Try.ntmps64
  go_wp2_with (first | ((with_reducible refine gate_dst (N := 2) rfl ?_); refine box_event ?hg (N := 2) ?hd (cs := #[.string a0_0, .slice A0_1 l0_1.length c0_1]) (t := 53) ?hr ?_; (case hd => rfl); (case hg => rfl); (case hr => exact qa18); intro gb101 hg w18 hbox hb; have hx_ := qHX HB hb qa0; have n0_ := qO (below_step (below_step HB.out hx_) hb); have n1_ := qO (hbox); have n2_ := qO ((qa15 : w.heap.size ≤ gb101)); have n3_ := n2_; clear HB; have HB := n0_; have BK101 := n1_; have GW101 := n2_; have GE101 := n3_; clear n0_ n1_ n2_ n3_; clear hx_; clear hb hbox hg) | ((with_reducible refine gate_dst (N := 3) rfl ?_); refine box_event ?hg (N := 3) ?hd (cs := #[.string a1_0, .slice A1_1 l1_1.length c1_1]) (t := 53) ?hr ?_; (case hd => rfl); (case hg => rfl); (case hr => exact qa18); intro gb102 hg w19 hbox hb; have hx_ := qHX HB hb qa0; have n0_ := qO (qB BK101.out hx_ hb); have n1_ := qO (below_step (below_step HB.out hx_) hb); have n2_ := qO (hbox); have n3_ := qO ((qa15 : w.heap.size ≤ gb102)); have n4_ := n3_; have n5_ := qO ((qa46 : gb101 ≠ gb102)); have n6_ := qO (Ne.symm n5_.out); clear BK101; clear HB; have BK101 := n0_; have HB := n1_; have BK102 := n2_; have GW102 := n3_; have GE102 := n4_; have NB101_102 := n5_; have NB102_101 := n6_; clear n0_ n1_ n2_ n3_ n4_ n5_ n6_; clear hx_; clear hb hbox hg; have hnb20 := NB101_102.out; have hnc20 := NB102_101.out; have hcz21_0 : w19.cell? ⟨gb101, 0, none⟩ = some (.string a0_0) := (blk_cell BK101.out 0).trans rfl; have hcz21_1 : w19.cell? ⟨gb101, 1, none⟩ = some (.slice A0_1 l0_1.length c0_1) := (blk_cell BK101.out 1).trans rfl; have hfz21_0 := blk_frozen BK101.out 0; have hfz21_1 := blk_frozen BK101.out 1; have hcz22_0 : w19.cell? ⟨gb102, 0, none⟩ = some (.string a1_0) := (blk_cell BK102.out 0).trans rfl; have hcz22_1 : w19.cell? ⟨gb102, 1, none⟩ = some (.slice A1_1 l1_1.length c1_1) := (blk_cell BK102.out 1).trans rfl; have hfz22_0 := blk_frozen BK102.out 0; have hfz22_1 := blk_frozen BK102.out 1))
  go_ret
  exact ⟨qa3, qa7⟩


def laws_eqTypeDefS.l0 : Nat → List (S53) → List (S53) → Int → Option (Bool)
 | 0, _, _, _ => none
 | k + 1, x0, x1, x5 => if x5 < (x0.length : Int) then (if 0 ≤ x5 then (if x5 < (x1.length : Int) then ((laws_eqTypeDef.f k ((rd_T53 x0 x5).f0) ((rd_T53 x0 x5).f1) ((rd_T53 x1 x5).f0) ((rd_T53 x1 x5).f1)).bind fun t103 => (if t103 = true then (laws_eqTypeDefS.l0 k x0 x1 (wrap64 (x5 + 1))) else (some false))) else (none)) else (none)) else (some true)
def laws_eqTypeDefS.f (k : Nat) (l0 : List (S53)) (l1 : List (S53)) : Option (Bool) := if (l0.length : Int) = (l1.length : Int) then (laws_eqTypeDefS.l0 k l0 l1 0) else (some false)
def laws_eqTypeDefS.T6 : Bool × List (List Nat × List Nat) := (true, [([], []), ([], []), ([0, 1], [0, 1]), ([2], [2]), ([], []), ([], []), ([4, 5], [4, 5]), ([6], [6]), ([3, 7], [3, 7]), ([8], [8])])
def laws_eqTypeDefS.B6 : List Nat := [0, 0, 3, 7, 0, 0, 48, 112, 255, 511]
theorem laws_eqTypeDefS.tab6 : rtab .any (opsOf Try.f38 6) = laws_eqTypeDefS.T6 := by kernel_rfl
theorem laws_eqTypeDefS.bits6 : waitsOk laws_eqTypeDefS.T6.2 laws_eqTypeDefS.B6 = true := by kernel_rfl
def laws_eqTypeDefS.y0 : Array Bool := #[false, false, false, false, false, false, false, false, false, false]
def laws_eqTypeDefS.y1 : Array Bool := #[true, false, false, false, false, false, false, false, false, false]
def laws_eqTypeDefS.y2 : Array Bool := #[true, true, false, false, false, false, false, false, false, false]
def laws_eqTypeDefS.y3 : Array Bool := #[true, true, true, false, false, false, false, false, false, false]
def laws_eqTypeDefS.y4 : Array Bool := #[true, true, true, false, true, false, false, false, false, false]
def laws_eqTypeDefS.y5 : Array Bool := #[true, true, true, false, true, true, false, false, false, false]
def laws_eqTypeDefS.y6 : Array Bool := #[true, true, true, false, true, true, true, false, false, false]
def laws_eqTypeDefS.y7 : Array Bool := #[true, true, true, true, true, true, true, false, false, false]
def laws_eqTypeDefS.y8 : Array Bool := #[true, true, true, true, true, true, true, true, false, false]
def laws_eqTypeDefS.y9 : Array Bool := #[true, true, true, true, true, true, true, true, true, false]
def laws_eqTypeDefS.y10 : Array Bool := #[true, true, true, true, true, true, true, true, true, true]
set_option maxHeartbeats 8000000 in
set_option maxRecDepth 100000 in
theorem laws_eqTypeDefS.calls (k : Nat) (A0 : Option Addr) (c0 : Nat) (l0 : List (S53)) (A1 : Option Addr) (c1 : Nat) (l1 : List (S53)) (r : Bool) (w : World) (hr0 : Kd.C k53 w A0 l0.length l0) (hc0 : l0.length ≤ c0) (hr1 : Kd.C k53 w A1 l1.length l1) (hc1 : l1.length ≤ c1) (h : laws_eqTypeDefS.f k l0 l1 = some r) :
  Calls Try.prog 38 #[.slice A0 l0.length c0, .slice A1 l1.length c1] w fun e w' => e = .returned (.bool r) ∧ Below w.heap.size w w' := by
 have hu53 := Try.underlying53; have HR0 := qO hr0; have HC0 := qO hc0; clear hr0 hc0; have HR1 := qO hr1; have HC1 := qO hc1; clear hr1 hc1; have HB := qO (Below.refl w.heap.size w); have H : (if (l0.length : Int) = (l1.length : Int) then (laws_eqTypeDefS.l0 k l0 l1 0) else (some false)) = some r := h; clear h
 by_cases c3 : (l0.length : Int) = (l1.length : Int)
 ·rw [if_pos c3] at H
  have c3b0 : ((l0.length : Int) == (l1.length : Int)) = true := beq_iff_eq.mpr c3; have c3b1 : ((l0.length : Int) != (l1.length : Int)) = false := bne_eq_false_iff_eq.mpr c3; have c3b2 : (l0.length == l1.length) = true := by first | simpa using c3 | (simp at c3 ⊢; omega)
  clear c3; have H' := qO H; clear H
  go_enter Try.func38, Try.ntmps38
  go_wp2
  go_loopg [5] k (fun kq v5 w' => ∃ (x5_1 : Int), v5 = .int .i64 x5_1 ∧ Aside0 (laws_eqTypeDefS.l0 kq l0 l1 x5_1 = some r) ∧ Aside0 (kq ≤ k) ∧ Aside0 (Below w.heap.size w w'))
  case atStart => exact ⟨(0), qa11, H', ⟨Nat.le_refl _⟩, ⟨qa8⟩⟩
  case round =>
   clear H'
   try clear c1
   try clear p2
   try clear c3
   try clear c3b0
   try clear c3b1
   try clear c3b2
   obtain ⟨x5_1, rfl, HA, HK1, HB⟩ := hrel
   cases gk with
   | zero => exact absurd HA.out (by simp [laws_eqTypeDefS.l0])
   | succ k1 =>
    have H := HA.out; clear HA; simp only [laws_eqTypeDefS.l0] at H
    by_cases c4 : x5_1 < (l0.length : Int)
    ·rw [if_pos c4] at H
     have c4b0 : decide (x5_1 < (l0.length : Int)) = true := decide_eq_true c4; clear c4
     by_cases c5 : 0 ≤ x5_1
     ·rw [if_pos c5] at H
      have c5b0 : decide (0 ≤ x5_1) = true := decide_eq_true c5; clear c5
      by_cases c6 : x5_1 < (l1.length : Int)
      ·rw [if_pos c6] at H
       have c6b0 : decide (x5_1 < (l1.length : Int)) = true := decide_eq_true c6; clear c6; replace H := Option.bind_eq_some_iff.mp H; obtain ⟨t103, A70, H⟩ := H; replace H : (if t103 = true then (laws_eqTypeDefS.l0 k1 l0 l1 (wrap64 (x5_1 + 1))) else (some false)) = some r := H; have A7 := qO A70; clear A70
       by_cases c8 : t103 = true
       ·subst c8
        have H1 : (laws_eqTypeDefS.l0 k1 l0 l1 (wrap64 (x5_1 + 1))) = some r := by rw [if_pos rfl] at H; exact H
        clear H; have H := H1; clear H1; have H' := qO H; clear H
        try go_wp2
        have n0_ := qO (qbD HB.out); clear HB; have HB := n0_; clear n0_; have p101 : 0 ≤ (x5_1 : Int) := qT qa5; have q101 : x5_1 < (l0.length : Int) := qT qa5; obtain ⟨ad101, A101_1, c101_1, e101, hx101_0, hx101_1, hl101_1, hi101_1⟩ := at_T53 HR0.out x5_1 p101 q101; have hw101_1 := hx101_1; have hw101_0 := hx101_0
        cases e101
        replace hx101_0 := (HB.out.cell (qL w _ hx101_0)).trans hx101_0; replace hx101_1 := (HB.out.cell (qL w _ hx101_1)).trans hx101_1; have HR101_1 := qO hi101_1; have HC101_1 := qO hl101_1; clear hi101_1 hl101_1; replace p101 := eq_true p101; replace q101 := eq_true q101; have p102 : 0 ≤ (x5_1 : Int) := qT qa5; have q102 : x5_1 < (l1.length : Int) := qT qa5; obtain ⟨ad102, A102_1, c102_1, e102, hx102_0, hx102_1, hl102_1, hi102_1⟩ := at_T53 HR1.out x5_1 p102 q102; have hw102_1 := hx102_1; have hw102_0 := hx102_0
        cases e102
        replace hx102_0 := (HB.out.cell (qL w _ hx102_0)).trans hx102_0; replace hx102_1 := (HB.out.cell (qL w _ hx102_1)).trans hx102_1; have HR102_1 := qO hi102_1; have HC102_1 := qO hl102_1; clear hi102_1 hl102_1; replace p102 := eq_true p102; replace q102 := eq_true q102; refine start_ (n := 10) (S := fun w' => w'.cell? (ad101.add ((x5_1).toNat * 2)) = some (.string ((rd_T53 l0 x5_1).f0)) ∧ w'.cell? ⟨(ad101.add ((x5_1).toNat * 2)).block, (ad101.add ((x5_1).toNat * 2)).off + 1, none⟩ = some (.slice A101_1 ((rd_T53 l0 x5_1).f1).length c101_1) ∧ w'.cell? (ad102.add ((x5_1).toNat * 2)) = some (.string ((rd_T53 l1 x5_1).f0)) ∧ w'.cell? ⟨(ad102.add ((x5_1).toNat * 2)).block, (ad102.add ((x5_1).toNat * 2)).off + 1, none⟩ = some (.slice A102_1 ((rd_T53 l1 x5_1).f1).length c102_1)) (ds := []) laws_eqTypeDefS.y0 qa17 rfl rfl ⟨((HB.out.cell (qL w _ hw101_0)).trans hw101_0), ((HB.out.cell (qL w _ hw101_1)).trans hw101_1), ((HB.out.cell (qL w _ hw102_0)).trans hw102_0), ((HB.out.cell (qL w _ hw102_1)).trans hw102_1)⟩ (fun hHeld => ?_); refine with_tabW laws_eqTypeDefS.tab6 laws_eqTypeDefS.bits6 (fun HT_ HW_ => ?_); generalize wr.drew = w9 at HB HR101_1 HR102_1 hx101_0 hx101_1 hx102_0 hx102_1 hHeld ⊢; refine pure_ (i := 0) (N := some 17) (v := ?_) (a' := ?_) laws_eqTypeDefS.y1 rfl rfl (any_of HT_.out qa17) (fun _ _ _ h => h) (Or.inl ⟨by rfl, ?_⟩) ?_ ?_; rotate_left; exact qa22; rotate_left; exact qa12; refine pure_ (i := 1) (N := some 18) (v := ?_) (a' := ?_) laws_eqTypeDefS.y2 rfl rfl (any_of HT_.out qa17) (fun _ _ _ h => h) (Or.inl ⟨by rfl, ?_⟩) ?_ ?_; rotate_left; exact qa22; rotate_left; exact qa12; refine pure_ (i := 2) (N := some 19) (v := ?_) (a' := ?_) laws_eqTypeDefS.y3 rfl rfl (any_of HT_.out qa17) (fun _ _ _ h => h) (Or.inl ⟨by rfl, ?_⟩) ?_ ?_; rotate_left; exact qa22; rotate_left; exact qa12; refine pure_ (i := 4) (N := some 21) (v := ?_) (a' := ?_) laws_eqTypeDefS.y4 rfl rfl (any_of HT_.out qa17) (fun _ _ _ h => h) (Or.inl ⟨by rfl, ?_⟩) ?_ ?_; rotate_left; exact qa22; rotate_left; exact qa12; refine pure_ (i := 5) (N := some 22) (v := ?_) (a' := ?_) laws_eqTypeDefS.y5 rfl rfl (any_of HT_.out qa17) (fun _ _ _ h => h) (Or.inl ⟨by rfl, ?_⟩) ?_ ?_; rotate_left; exact qa22; rotate_left; exact qa12; refine pure_ (i := 6) (N := some 23) (v := ?_) (a' := ?_) laws_eqTypeDefS.y6 rfl rfl (any_of HT_.out qa17) (fun _ _ _ h => h) (Or.inl ⟨by rfl, ?_⟩) ?_ ?_; rotate_left; exact qa22; rotate_left; exact qa12; refine take_ (i := 3) (N := some 20) (v := ?_) (a' := ?_) laws_eqTypeDefS.y7 rfl rfl (take_ofW HT_.out HW_.out qa17) (fun _ _ _ h => h) (Or.inl ⟨by rfl, ?_⟩) hHeld ?_ ?_; rotate_left; exact qa89; rotate_left; exact qa12; refine take_ (i := 7) (N := some 24) (v := ?_) (a' := ?_) laws_eqTypeDefS.y8 rfl rfl (take_ofW HT_.out HW_.out qa17) (fun _ _ _ h => h) (Or.inl ⟨by rfl, ?_⟩) hHeld ?_ ?_; rotate_left; exact qa89; rotate_left; exact qa12; refine one_ (i := 8) (N := some 25) laws_eqTypeDefS.y9 rfl rfl (one_of HT_.out qa17) qa108 (fun K hK => ?_); refine goes_ Try.func64 qa17 rfl #[.agg #[.string ((rd_T53 l0 x5_1).f0), .slice A101_1 ((rd_T53 l0 x5_1).f1).length c101_1], .agg #[.string ((rd_T53 l1 x5_1).f0), .slice A102_1 ((rd_T53 l1 x5_1).f1).length c102_1]] (by rfl) rfl rfl qa1 ?_; (with_reducible refine (laws_eqTypeDef.calls k1 ((rd_T53 l0 x5_1).f0) _ _ ((rd_T53 l0 x5_1).f1) ((rd_T53 l1 x5_1).f0) _ _ ((rd_T53 l1 x5_1).f1) true _ ?side1 ?side2 ?side3 ?side4 A7.out).mono ?_); (case side1 => exact qa39); (case side2 => exact HC101_1.out); (case side3 => exact qa67); (case side4 => exact HC102_1.out); rintro e w10 ⟨rfl, hb⟩; have hx_ := qHX HB hb qa0; refine ⟨_, rfl, ?_⟩; have n0_ := qO (below_step (below_step HB.out hx_) hb); clear HB; have HB := n0_; clear n0_; clear hx_; (try clear hb); (try clear hb2); (try clear hk); (try clear hi); refine hK.out _ _ ⟨((HB.out.cell (qL w _ hw101_0)).trans hw101_0), ((HB.out.cell (qL w _ hw101_1)).trans hw101_1), ((HB.out.cell (qL w _ hw102_0)).trans hw102_0), ((HB.out.cell (qL w _ hw102_1)).trans hw102_1)⟩ (fun hHeld => ?_); clear hK K; refine norm_ (a' := ?_) ?_ ?_; rotate_left
        ·exact qa33
        refine pure_ (i := 9) (N := some 26) (v := ?_) (a' := ?_) laws_eqTypeDefS.y10 rfl rfl (any_of HT_.out qa17) (fun _ _ _ h => h) (Or.inl ⟨by rfl, ?_⟩) ?_ ?_; rotate_left; exact qa22; rotate_left; exact qa12; refine done_ (done_of HT_.out qa17) ?_
        try go_wp2
        go_roundg k1
        case measure => have := HK1.out; omega
        case rel => exact ⟨(wrap64 (x5_1 + 1)), qa11, H', ⟨qa87⟩, ⟨qa8⟩⟩
       ·replace c8 := Bool.eq_false_iff.mpr c8
        subst c8; have H1 : (some false) = some r := by rw [if_neg (show ¬ (false = true) by decide)] at H; exact H
        clear H; have H := H1; clear H1; obtain rfl := Option.some.inj H
        try go_wp2
        have n0_ := qO (qbD HB.out); clear HB; have HB := n0_; clear n0_; have p101 : 0 ≤ (x5_1 : Int) := qT qa5; have q101 : x5_1 < (l0.length : Int) := qT qa5; obtain ⟨ad101, A101_1, c101_1, e101, hx101_0, hx101_1, hl101_1, hi101_1⟩ := at_T53 HR0.out x5_1 p101 q101; have hw101_1 := hx101_1; have hw101_0 := hx101_0
        cases e101
        replace hx101_0 := (HB.out.cell (qL w _ hx101_0)).trans hx101_0; replace hx101_1 := (HB.out.cell (qL w _ hx101_1)).trans hx101_1; have HR101_1 := qO hi101_1; have HC101_1 := qO hl101_1; clear hi101_1 hl101_1; replace p101 := eq_true p101; replace q101 := eq_true q101; have p102 : 0 ≤ (x5_1 : Int) := qT qa5; have q102 : x5_1 < (l1.length : Int) := qT qa5; obtain ⟨ad102, A102_1, c102_1, e102, hx102_0, hx102_1, hl102_1, hi102_1⟩ := at_T53 HR1.out x5_1 p102 q102; have hw102_1 := hx102_1; have hw102_0 := hx102_0
        cases e102
        replace hx102_0 := (HB.out.cell (qL w _ hx102_0)).trans hx102_0; replace hx102_1 := (HB.out.cell (qL w _ hx102_1)).trans hx102_1; have HR102_1 := qO hi102_1; have HC102_1 := qO hl102_1; clear hi102_1 hl102_1; replace p102 := eq_true p102; replace q102 := eq_true q102; refine start_ (n := 10) (S := fun w' => w'.cell? (ad101.add ((x5_1).toNat * 2)) = some (.string ((rd_T53 l0 x5_1).f0)) ∧ w'.cell? ⟨(ad101.add ((x5_1).toNat * 2)).block, (ad101.add ((x5_1).toNat * 2)).off + 1, none⟩ = some (.slice A101_1 ((rd_T53 l0 x5_1).f1).length c101_1) ∧ w'.cell? (ad102.add ((x5_1).toNat * 2)) = some (.string ((rd_T53 l1 x5_1).f0)) ∧ w'.cell? ⟨(ad102.add ((x5_1).toNat * 2)).block, (ad102.add ((x5_1).toNat * 2)).off + 1, none⟩ = some (.slice A102_1 ((rd_T53 l1 x5_1).f1).length c102_1)) (ds := []) laws_eqTypeDefS.y0 qa17 rfl rfl ⟨((HB.out.cell (qL w _ hw101_0)).trans hw101_0), ((HB.out.cell (qL w _ hw101_1)).trans hw101_1), ((HB.out.cell (qL w _ hw102_0)).trans hw102_0), ((HB.out.cell (qL w _ hw102_1)).trans hw102_1)⟩ (fun hHeld => ?_); refine with_tabW laws_eqTypeDefS.tab6 laws_eqTypeDefS.bits6 (fun HT_ HW_ => ?_); generalize wr.drew = w11 at HB HR101_1 HR102_1 hx101_0 hx101_1 hx102_0 hx102_1 hHeld ⊢; refine pure_ (i := 0) (N := some 17) (v := ?_) (a' := ?_) laws_eqTypeDefS.y1 rfl rfl (any_of HT_.out qa17) (fun _ _ _ h => h) (Or.inl ⟨by rfl, ?_⟩) ?_ ?_; rotate_left; exact qa22; rotate_left; exact qa12; refine pure_ (i := 1) (N := some 18) (v := ?_) (a' := ?_) laws_eqTypeDefS.y2 rfl rfl (any_of HT_.out qa17) (fun _ _ _ h => h) (Or.inl ⟨by rfl, ?_⟩) ?_ ?_; rotate_left; exact qa22; rotate_left; exact qa12; refine pure_ (i := 2) (N := some 19) (v := ?_) (a' := ?_) laws_eqTypeDefS.y3 rfl rfl (any_of HT_.out qa17) (fun _ _ _ h => h) (Or.inl ⟨by rfl, ?_⟩) ?_ ?_; rotate_left; exact qa22; rotate_left; exact qa12; refine pure_ (i := 4) (N := some 21) (v := ?_) (a' := ?_) laws_eqTypeDefS.y4 rfl rfl (any_of HT_.out qa17) (fun _ _ _ h => h) (Or.inl ⟨by rfl, ?_⟩) ?_ ?_; rotate_left; exact qa22; rotate_left; exact qa12; refine pure_ (i := 5) (N := some 22) (v := ?_) (a' := ?_) laws_eqTypeDefS.y5 rfl rfl (any_of HT_.out qa17) (fun _ _ _ h => h) (Or.inl ⟨by rfl, ?_⟩) ?_ ?_; rotate_left; exact qa22; rotate_left; exact qa12; refine pure_ (i := 6) (N := some 23) (v := ?_) (a' := ?_) laws_eqTypeDefS.y6 rfl rfl (any_of HT_.out qa17) (fun _ _ _ h => h) (Or.inl ⟨by rfl, ?_⟩) ?_ ?_; rotate_left; exact qa22; rotate_left; exact qa12; refine take_ (i := 3) (N := some 20) (v := ?_) (a' := ?_) laws_eqTypeDefS.y7 rfl rfl (take_ofW HT_.out HW_.out qa17) (fun _ _ _ h => h) (Or.inl ⟨by rfl, ?_⟩) hHeld ?_ ?_; rotate_left; exact qa89; rotate_left; exact qa12; refine take_ (i := 7) (N := some 24) (v := ?_) (a' := ?_) laws_eqTypeDefS.y8 rfl rfl (take_ofW HT_.out HW_.out qa17) (fun _ _ _ h => h) (Or.inl ⟨by rfl, ?_⟩) hHeld ?_ ?_; rotate_left; exact qa89; rotate_left; exact qa12; refine one_ (i := 8) (N := some 25) laws_eqTypeDefS.y9 rfl rfl (one_of HT_.out qa17) qa108 (fun K hK => ?_); refine goes_ Try.func64 qa17 rfl #[.agg #[.string ((rd_T53 l0 x5_1).f0), .slice A101_1 ((rd_T53 l0 x5_1).f1).length c101_1], .agg #[.string ((rd_T53 l1 x5_1).f0), .slice A102_1 ((rd_T53 l1 x5_1).f1).length c102_1]] (by rfl) rfl rfl qa1 ?_; (with_reducible refine (laws_eqTypeDef.calls k1 ((rd_T53 l0 x5_1).f0) _ _ ((rd_T53 l0 x5_1).f1) ((rd_T53 l1 x5_1).f0) _ _ ((rd_T53 l1 x5_1).f1) false _ ?side1 ?side2 ?side3 ?side4 A7.out).mono ?_); (case side1 => exact qa39); (case side2 => exact HC101_1.out); (case side3 => exact qa67); (case side4 => exact HC102_1.out); rintro e w12 ⟨rfl, hb⟩; have hx_ := qHX HB hb qa0; refine ⟨_, rfl, ?_⟩; have n0_ := qO (below_step (below_step HB.out hx_) hb); clear HB; have HB := n0_; clear n0_; clear hx_; (try clear hb); (try clear hb2); (try clear hk); (try clear hi); refine hK.out _ _ ⟨((HB.out.cell (qL w _ hw101_0)).trans hw101_0), ((HB.out.cell (qL w _ hw101_1)).trans hw101_1), ((HB.out.cell (qL w _ hw102_0)).trans hw102_0), ((HB.out.cell (qL w _ hw102_1)).trans hw102_1)⟩ (fun hHeld => ?_); clear hK K; refine norm_ (a' := ?_) ?_ ?_; rotate_left
        ·exact qa33
        refine pure_ (i := 9) (N := some 26) (v := ?_) (a' := ?_) laws_eqTypeDefS.y10 rfl rfl (any_of HT_.out qa17) (fun _ _ _ h => h) (Or.inl ⟨by rfl, ?_⟩) ?_ ?_; rotate_left; exact qa22; rotate_left; exact qa12; refine done_ (done_of HT_.out qa17) ?_
        try go_wp2
        go_ret
        exact ⟨qa3, qa8⟩
      ·rw [if_neg c6] at H
       exact absurd H qa91
     ·rw [if_neg c5] at H
      exact absurd H qa91
    ·rw [if_neg c4] at H
     have c4b0 : decide (x5_1 < (l0.length : Int)) = false := decide_eq_false c4; clear c4; obtain rfl := Option.some.inj H; go_wp2
     go_ret
     exact ⟨qa3, qa8⟩
 ·rw [if_neg c3] at H
  have c3b0 : ((l0.length : Int) == (l1.length : Int)) = false := beq_eq_false_iff_ne.mpr c3; have c3b1 : ((l0.length : Int) != (l1.length : Int)) = true := bne_iff_ne.mpr c3; have c3b2 : (l0.length == l1.length) = false := by first | simpa using c3 | (simp at c3 ⊢; omega)
  obtain rfl := Option.some.inj H
  go_enter Try.func38, Try.ntmps38
  go_wp2
  go_ret
  exact ⟨qa3, qa8⟩

end Go.Proofs.Ytoogmlghfljeiaa.Q
