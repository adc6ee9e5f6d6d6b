/- Texts of the claim on FnExactPrintSchema, gathered by a program of this session: what the program's functions compute (proved by walks), and the plain part. -/
import Derived.Test.YtoogmlghfljeiaaDoorProg
import Derived.Shelf.Abstract
import Derived.Lib.SliceRun
import Derived.Below
import Derived.Deep.Draws
import Derived.Deep.AppendLies
import Derived.Maps.AppendAt
import Derived.OwnWalk
import Derived.Laws.BytesArg
import Derived.Laws.MakeOwn
import Derived.Laws.OwnMore
import Derived.Deep.OwnRows
import Derived.Tactics
import Derived.Lib.ConvBytes
import Derived.Laws.Slices
import Derived.WalkKit
import Derived.KernelRfl
import Derived.RowKit3
import Derived.Deep.LoopGhost
import Derived.Deep.QuietTactic
import Derived.BigQuiet
import Derived.WideLaws
import Derived.Deep.DeepCutAuto
import Derived.Deep.CutBlock
import Derived.Deep.RegionHeld3
import Derived.Laws.Rows
import Derived.Lib.AppendStr
import Derived.ArgAppend
import Derived.Laws.IdiomCopy
import Derived.OrdersHeld
import Derived.Laws.BitsLemmas
import Derived.RowKit
import Derived.Test.YtoogmlghfljeiaaDoorKFnExactPrintSchemaWWords
import Derived.Test.YtoogmlghfljeiaaDoorKFnExactPrintSchemaWLast
import Derived.Test.YtoogmlghfljeiaaDoorKFnExactPrintSchemaWTab
import Derived.Test.YtoogmlghfljeiaaDoorKFnExactPrintSchemaWQPut
import Derived.Test.YtoogmlghfljeiaaDoorKFnExactPrintSchemaWApart
import Derived.Test.YtoogmlghfljeiaaDoorKFnExactPrintSchemaWArr
import Derived.Test.YtoogmlghfljeiaaDoorKFnExactPrintSchemaWZeros
import Derived.Test.YtoogmlghfljeiaaDoorKFnExactPrintSchemaWFoot
import Derived.Test.YtoogmlghfljeiaaDoorKFnExactPrintSchemaWKept
import Derived.Test.YtoogmlghfljeiaaDoorKFnExactPrintSchemaWShare
import Derived.Test.YtoogmlghfljeiaaDoorKFnExactPrintSchemaWN
import Derived.Test.YtoogmlghfljeiaaDoorKFnExactPrintSchemaWRepsOne
import Derived.Test.YtoogmlghfljeiaaDoorKFnExactPrintSchemaWGuard
import Derived.Test.YtoogmlghfljeiaaDoorKFnExactPrintSchemaWNEv
import Derived.Test.YtoogmlghfljeiaaDoorKFnExactPrintSchemaWMore
namespace Go.Proofs.YtoogmlghfljeiaaDoor.Q
open Go.RowKit Go.Proofs.YtoogmlghfljeiaaDoorW.PrintWords Go.Proofs.YtoogmlghfljeiaaDoorW.PrintLast Go.Proofs.YtoogmlghfljeiaaDoorW.PrintMore
attribute [local go_sem] max2_int min2_int max_two min_two max_three min_three max_four min_four
set_option linter.unusedVariables false
set_option linter.unusedSimpArgs false



def errW : Option Int → Value
 | none => .nilIface
 | some c => .iface 0 (.int .i64 c)
theorem errW_none : errW none = .nilIface := rfl
theorem errW_some (c : Int) : errW (some c) = .iface 0 (.int .i64 c) := rfl

theorem info9 : (Tryd.prog.info? 9).map (fun i => (i.zero, i.size, i.bytes)) = some (some (.string ⟨#[]⟩), 1, 16) := by kernel_rfl
theorem info41 : (Tryd.prog.info? 41).map (fun i => (i.zero, i.size, i.bytes)) = some (some (.agg #[(.string ⟨#[]⟩), (.slice none 0 0)]), 2, 40) := by kernel_rfl
theorem info43 : (Tryd.prog.info? 43).map (fun i => (i.zero, i.size, i.bytes)) = some (some (.agg #[(.int .i64 0), (.int .i64 0), (.string ⟨#[]⟩)]), 3, 32) := by kernel_rfl
theorem info47 : (Tryd.prog.info? 47).map (fun i => (i.zero, i.size, i.bytes)) = some (some (.agg #[(.string ⟨#[]⟩), (.slice none 0 0), (.string ⟨#[]⟩), (.bool false), (.bool false)]), 5, 64) := by kernel_rfl
theorem info60 : (Tryd.prog.info? 60).map (fun i => (i.zero, i.size, i.bytes)) = some (some (.agg #[(.string ⟨#[]⟩), (.bool false)]), 2, 24) := by kernel_rfl
-- the values' own types
/-! #### struct type 105 -/
structure S105 where
 f0 : ByteArray
 f1 : Bool
def z105 : S105 := ⟨(⟨#[]⟩ : ByteArray), false⟩
def k105 : Kd S105 := Kd.iso (Kd.pair Kd.string Kd.bool) (fun x : S105 => (x.f0, x.f1))
theorem k105_open {w : World} {x : S105} {cs : List Value} (h : k105.K w x cs) : cs = [.string x.f0, .bool x.f1] := by
 obtain ⟨_, _, rfl, rfl, rfl⟩ := h
 exact rfl
theorem k105_openM {w : World} {base : Nat} {ok : Nat → Prop} {x : S105} {cs : List Value} (h : k105.M w base ok x cs) : cs = [.string x.f0, .bool x.f1] := by
 obtain ⟨_, _, rfl, rfl, rfl⟩ := h
 exact rfl
theorem k105_mk (w : World) (x : S105)  : k105.K w x [.string x.f0, .bool x.f1] := ⟨[.string x.f0], [.bool x.f1], rfl, rfl, rfl⟩
theorem k105_mkM (w : World) (base : Nat) (ok : Nat → Prop) (x : S105)  : k105.M w base ok x [.string x.f0, .bool x.f1] := ⟨[.string x.f0], [.bool x.f1], rfl, rfl, rfl⟩
def rd_T105 (xs : List S105) (i : Int) : S105 := xs.getD i.toNat z105
theorem at_T105 {w : World} {A : Option Addr} {n : Nat} {xs : List S105} (h : Kd.C k105 w A n xs) (i : Int) (h0 : 0 ≤ i) (h1 : i < n) : ∃ ad , A = some ad ∧ w.cell? (ad.add (i.toNat * 2)) = some (.string (rd_T105 xs i).f0) ∧ w.cell? ⟨(ad.add (i.toNat * 2)).block, (ad.add (i.toNat * 2)).off + 1, none⟩ = some (.bool (rd_T105 xs i).f1) := by
 obtain ⟨ad, c, e, _, hK, hc0⟩ := Kd.C_get h z105 i h0 h1
 have hc : ∀ j u, c[j]? = some u → w.cell? (ad.add (i.toNat * 2 + j)) = some u := hc0
 obtain rfl := k105_open hK
 exact ⟨ad, e, hc 0 _ rfl, by rw [← add_field _ _ 1 (by omega)]; exact hc 1 _ rfl⟩

def rd_L3 (xs : List (List S105)) (i : Int) : (List S105) := xs.getD i.toNat ([] : List S105)
theorem at_L3 {w : World} {A : Option Addr} {n : Nat} {xs : List (List S105)} (h : Kd.C (Kd.slice 105 k105) w A n xs) (i : Int) (h0 : 0 ≤ i) (h1 : i < n) : ∃ ad A0 c0, A = some ad ∧ w.cell? (ad.add i.toNat) = some (.slice A0 (rd_L3 xs i).length c0) ∧ (rd_L3 xs i).length ≤ c0 ∧ k105.C w A0 (rd_L3 xs i).length (rd_L3 xs i) := by
 obtain ⟨ad, c, e, _, hK, hc0⟩ := Kd.C_get h ([] : List S105) i h0 h1
 have hc : ∀ j u, c[j]? = some u → w.cell? (ad.add (i.toNat * 1 + j)) = some u := hc0
 obtain ⟨A0, c0, rfl, l0, g0⟩ := hK
 exact ⟨ad, A0, c0, e, by have hq := hc 0 _ rfl; rwa [Nat.mul_one, Nat.add_zero] at hq, l0, g0⟩

/-! #### struct type 91 -/
structure S91 where
 f0 : ByteArray
 f1 : (List S105)
 f2 : ByteArray
 f3 : Bool
 f4 : Bool
def z91 : S91 := ⟨(⟨#[]⟩ : ByteArray), ([] : List S105), (⟨#[]⟩ : ByteArray), false, false⟩
def k91 : Kd S91 := Kd.iso (Kd.pair Kd.string (Kd.pair (Kd.slice 105 k105) (Kd.pair Kd.string (Kd.pair Kd.bool Kd.bool)))) (fun x : S91 => (x.f0, x.f1, x.f2, x.f3, x.f4))
theorem k91_open {w : World} {x : S91} {cs : List Value} (h : k91.K w x cs) : ∃ A1 c1, cs = [.string x.f0, .slice A1 x.f1.length c1, .string x.f2, .bool x.f3, .bool x.f4] ∧ x.f1.length ≤ c1 ∧ k105.C w A1 x.f1.length x.f1 := by
 obtain ⟨_, _, rfl, rfl, ⟨_, _, rfl, ⟨A1, c1, rfl, l1, g1⟩, ⟨_, _, rfl, rfl, ⟨_, _, rfl, rfl, rfl⟩⟩⟩⟩ := h
 exact ⟨A1, c1, rfl, l1, g1⟩
theorem k91_openM {w : World} {base : Nat} {ok : Nat → Prop} {x : S91} {cs : List Value} (h : k91.M w base ok x cs) : ∃ v1, cs = [.string x.f0, v1, .string x.f2, .bool x.f3, .bool x.f4] ∧ k105.R 105 w base ok v1 x.f1 := by
 obtain ⟨_, _, rfl, rfl, ⟨_, _, rfl, ⟨v1, rfl, g1⟩, ⟨_, _, rfl, rfl, ⟨_, _, rfl, rfl, rfl⟩⟩⟩⟩ := h
 exact ⟨v1, rfl, g1⟩
theorem k91_mk (w : World) (x : S91) {A1 : Option Addr} {c1 : Nat} (l1 : x.f1.length ≤ c1) (g1 : k105.C w A1 x.f1.length x.f1) : k91.K w x [.string x.f0, .slice A1 x.f1.length c1, .string x.f2, .bool x.f3, .bool x.f4] := ⟨[.string x.f0], [.slice A1 x.f1.length c1, .string x.f2, .bool x.f3, .bool x.f4], rfl, rfl, ⟨[.slice A1 x.f1.length c1], [.string x.f2, .bool x.f3, .bool x.f4], rfl, ⟨A1, c1, rfl, l1, g1⟩, ⟨[.string x.f2], [.bool x.f3, .bool x.f4], rfl, rfl, ⟨[.bool x.f3], [.bool x.f4], rfl, rfl, rfl⟩⟩⟩⟩
theorem k91_mkM (w : World) (base : Nat) (ok : Nat → Prop) (x : S91) {v1 : Value} (g1 : k105.R 105 w base ok v1 x.f1) : k91.M w base ok x [.string x.f0, v1, .string x.f2, .bool x.f3, .bool x.f4] := ⟨[.string x.f0], [v1, .string x.f2, .bool x.f3, .bool x.f4], rfl, rfl, ⟨[v1], [.string x.f2, .bool x.f3, .bool x.f4], rfl, ⟨v1, rfl, g1⟩, ⟨[.string x.f2], [.bool x.f3, .bool x.f4], rfl, rfl, ⟨[.bool x.f3], [.bool x.f4], rfl, rfl, rfl⟩⟩⟩⟩
def rd_T91 (xs : List S91) (i : Int) : S91 := xs.getD i.toNat z91
theorem at_T91 {w : World} {A : Option Addr} {n : Nat} {xs : List S91} (h : Kd.C k91 w A n xs) (i : Int) (h0 : 0 ≤ i) (h1 : i < n) : ∃ ad A1 c1, A = some ad ∧ w.cell? (ad.add (i.toNat * 5)) = some (.string (rd_T91 xs i).f0) ∧ w.cell? ⟨(ad.add (i.toNat * 5)).block, (ad.add (i.toNat * 5)).off + 1, none⟩ = some (.slice A1 (rd_T91 xs i).f1.length c1) ∧ w.cell? ⟨(ad.add (i.toNat * 5)).block, (ad.add (i.toNat * 5)).off + 2, none⟩ = some (.string (rd_T91 xs i).f2) ∧ w.cell? ⟨(ad.add (i.toNat * 5)).block, (ad.add (i.toNat * 5)).off + 3, none⟩ = some (.bool (rd_T91 xs i).f3) ∧ w.cell? ⟨(ad.add (i.toNat * 5)).block, (ad.add (i.toNat * 5)).off + 4, none⟩ = some (.bool (rd_T91 xs i).f4) ∧ (rd_T91 xs i).f1.length ≤ c1 ∧ k105.C w A1 (rd_T91 xs i).f1.length (rd_T91 xs i).f1 := by
 obtain ⟨ad, c, e, _, hK, hc0⟩ := Kd.C_get h z91 i h0 h1
 have hc : ∀ j u, c[j]? = some u → w.cell? (ad.add (i.toNat * 5 + j)) = some u := hc0
 obtain ⟨A1, c1, rfl, l1, g1⟩ := k91_open hK
 exact ⟨ad, A1, c1, e, hc 0 _ rfl, by rw [← add_field _ _ 1 (by omega)]; exact hc 1 _ rfl, by rw [← add_field _ _ 2 (by omega)]; exact hc 2 _ rfl, by rw [← add_field _ _ 3 (by omega)]; exact hc 3 _ rfl, by rw [← add_field _ _ 4 (by omega)]; exact hc 4 _ rfl, l1, g1⟩

def rd_L5 (xs : List (List S91)) (i : Int) : (List S91) := xs.getD i.toNat ([] : List S91)
theorem at_L5 {w : World} {A : Option Addr} {n : Nat} {xs : List (List S91)} (h : Kd.C (Kd.slice 91 k91) w A n xs) (i : Int) (h0 : 0 ≤ i) (h1 : i < n) : ∃ ad A0 c0, A = some ad ∧ w.cell? (ad.add i.toNat) = some (.slice A0 (rd_L5 xs i).length c0) ∧ (rd_L5 xs i).length ≤ c0 ∧ k91.C w A0 (rd_L5 xs i).length (rd_L5 xs i) := by
 obtain ⟨ad, c, e, _, hK, hc0⟩ := Kd.C_get h ([] : List S91) i h0 h1
 have hc : ∀ j u, c[j]? = some u → w.cell? (ad.add (i.toNat * 1 + j)) = some u := hc0
 obtain ⟨A0, c0, rfl, l0, g0⟩ := hK
 exact ⟨ad, A0, c0, e, by have hq := hc 0 _ rfl; rwa [Nat.mul_one, Nat.add_zero] at hq, l0, g0⟩

/-! #### struct type 54 -/
structure S54 where
 f0 : ByteArray
 f1 : (List S91)
def z54 : S54 := ⟨(⟨#[]⟩ : ByteArray), ([] : List S91)⟩
def k54 : Kd S54 := Kd.iso (Kd.pair Kd.string (Kd.slice 91 k91)) (fun x : S54 => (x.f0, x.f1))
theorem k54_open {w : World} {x : S54} {cs : List Value} (h : k54.K w x cs) : ∃ A1 c1, cs = [.string x.f0, .slice A1 x.f1.length c1] ∧ x.f1.length ≤ c1 ∧ k91.C w A1 x.f1.length x.f1 := by
 obtain ⟨_, _, rfl, rfl, ⟨A1, c1, rfl, l1, g1⟩⟩ := h
 exact ⟨A1, c1, rfl, l1, g1⟩
theorem k54_openM {w : World} {base : Nat} {ok : Nat → Prop} {x : S54} {cs : List Value} (h : k54.M w base ok x cs) : ∃ v1, cs = [.string x.f0, v1] ∧ k91.R 91 w base ok v1 x.f1 := by
 obtain ⟨_, _, rfl, rfl, ⟨v1, rfl, g1⟩⟩ := h
 exact ⟨v1, rfl, g1⟩
theorem k54_mk (w : World) (x : S54) {A1 : Option Addr} {c1 : Nat} (l1 : x.f1.length ≤ c1) (g1 : k91.C w A1 x.f1.length x.f1) : k54.K w x [.string x.f0, .slice A1 x.f1.length c1] := ⟨[.string x.f0], [.slice A1 x.f1.length c1], rfl, rfl, ⟨A1, c1, rfl, l1, g1⟩⟩
theorem k54_mkM (w : World) (base : Nat) (ok : Nat → Prop) (x : S54) {v1 : Value} (g1 : k91.R 91 w base ok v1 x.f1) : k54.M w base ok x [.string x.f0, v1] := ⟨[.string x.f0], [v1], rfl, rfl, ⟨v1, rfl, g1⟩⟩
def rd_T54 (xs : List S54) (i : Int) : S54 := xs.getD i.toNat z54
theorem at_T54 {w : World} {A : Option Addr} {n : Nat} {xs : List S54} (h : Kd.C k54 w A n xs) (i : Int) (h0 : 0 ≤ i) (h1 : i < n) : ∃ ad A1 c1, A = some ad ∧ w.cell? (ad.add (i.toNat * 2)) = some (.string (rd_T54 xs i).f0) ∧ w.cell? ⟨(ad.add (i.toNat * 2)).block, (ad.add (i.toNat * 2)).off + 1, none⟩ = some (.slice A1 (rd_T54 xs i).f1.length c1) ∧ (rd_T54 xs i).f1.length ≤ c1 ∧ k91.C w A1 (rd_T54 xs i).f1.length (rd_T54 xs i).f1 := by
 obtain ⟨ad, c, e, _, hK, hc0⟩ := Kd.C_get h z54 i h0 h1
 have hc : ∀ j u, c[j]? = some u → w.cell? (ad.add (i.toNat * 2 + j)) = some u := hc0
 obtain ⟨A1, c1, rfl, l1, g1⟩ := k54_open hK
 exact ⟨ad, A1, c1, e, hc 0 _ rfl, by rw [← add_field _ _ 1 (by omega)]; exact hc 1 _ rfl, l1, g1⟩

/-! #### struct type 60 -/
structure S60 where
 f0 : ByteArray
 f1 : Bool
def z60 : S60 := ⟨(⟨#[]⟩ : ByteArray), false⟩
def k60 : Kd S60 := Kd.iso (Kd.pair Kd.string Kd.bool) (fun x : S60 => (x.f0, x.f1))
theorem k60_open {w : World} {x : S60} {cs : List Value} (h : k60.K w x cs) : cs = [.string x.f0, .bool x.f1] := by
 obtain ⟨_, _, rfl, rfl, rfl⟩ := h
 exact rfl
theorem k60_openM {w : World} {base : Nat} {ok : Nat → Prop} {x : S60} {cs : List Value} (h : k60.M w base ok x cs) : cs = [.string x.f0, .bool x.f1] := by
 obtain ⟨_, _, rfl, rfl, rfl⟩ := h
 exact rfl
theorem k60_mk (w : World) (x : S60)  : k60.K w x [.string x.f0, .bool x.f1] := ⟨[.string x.f0], [.bool x.f1], rfl, rfl, rfl⟩
theorem k60_mkM (w : World) (base : Nat) (ok : Nat → Prop) (x : S60)  : k60.M w base ok x [.string x.f0, .bool x.f1] := ⟨[.string x.f0], [.bool x.f1], rfl, rfl, rfl⟩
def rd_T60 (xs : List S60) (i : Int) : S60 := xs.getD i.toNat z60
theorem at_T60 {w : World} {A : Option Addr} {n : Nat} {xs : List S60} (h : Kd.C k60 w A n xs) (i : Int) (h0 : 0 ≤ i) (h1 : i < n) : ∃ ad , A = some ad ∧ w.cell? (ad.add (i.toNat * 2)) = some (.string (rd_T60 xs i).f0) ∧ w.cell? ⟨(ad.add (i.toNat * 2)).block, (ad.add (i.toNat * 2)).off + 1, none⟩ = some (.bool (rd_T60 xs i).f1) := by
 obtain ⟨ad, c, e, _, hK, hc0⟩ := Kd.C_get h z60 i h0 h1
 have hc : ∀ j u, c[j]? = some u → w.cell? (ad.add (i.toNat * 2 + j)) = some u := hc0
 obtain rfl := k60_open hK
 exact ⟨ad, e, hc 0 _ rfl, by rw [← add_field _ _ 1 (by omega)]; exact hc 1 _ rfl⟩

def rd_L8 (xs : List (List S60)) (i : Int) : (List S60) := xs.getD i.toNat ([] : List S60)
theorem at_L8 {w : World} {A : Option Addr} {n : Nat} {xs : List (List S60)} (h : Kd.C (Kd.slice 60 k60) w A n xs) (i : Int) (h0 : 0 ≤ i) (h1 : i < n) : ∃ ad A0 c0, A = some ad ∧ w.cell? (ad.add i.toNat) = some (.slice A0 (rd_L8 xs i).length c0) ∧ (rd_L8 xs i).length ≤ c0 ∧ k60.C w A0 (rd_L8 xs i).length (rd_L8 xs i) := by
 obtain ⟨ad, c, e, _, hK, hc0⟩ := Kd.C_get h ([] : List S60) i h0 h1
 have hc : ∀ j u, c[j]? = some u → w.cell? (ad.add (i.toNat * 1 + j)) = some u := hc0
 obtain ⟨A0, c0, rfl, l0, g0⟩ := hK
 exact ⟨ad, A0, c0, e, by have hq := hc 0 _ rfl; rwa [Nat.mul_one, Nat.add_zero] at hq, l0, g0⟩

/-! #### struct type 47 -/
structure S47 where
 f0 : ByteArray
 f1 : (List S60)
 f2 : ByteArray
 f3 : Bool
 f4 : Bool
def z47 : S47 := ⟨(⟨#[]⟩ : ByteArray), ([] : List S60), (⟨#[]⟩ : ByteArray), false, false⟩
def k47 : Kd S47 := Kd.iso (Kd.pair Kd.string (Kd.pair (Kd.slice 60 k60) (Kd.pair Kd.string (Kd.pair Kd.bool Kd.bool)))) (fun x : S47 => (x.f0, x.f1, x.f2, x.f3, x.f4))
theorem k47_open {w : World} {x : S47} {cs : List Value} (h : k47.K w x cs) : ∃ A1 c1, cs = [.string x.f0, .slice A1 x.f1.length c1, .string x.f2, .bool x.f3, .bool x.f4] ∧ x.f1.length ≤ c1 ∧ k60.C w A1 x.f1.length x.f1 := by
 obtain ⟨_, _, rfl, rfl, ⟨_, _, rfl, ⟨A1, c1, rfl, l1, g1⟩, ⟨_, _, rfl, rfl, ⟨_, _, rfl, rfl, rfl⟩⟩⟩⟩ := h
 exact ⟨A1, c1, rfl, l1, g1⟩
theorem k47_openM {w : World} {base : Nat} {ok : Nat → Prop} {x : S47} {cs : List Value} (h : k47.M w base ok x cs) : ∃ v1, cs = [.string x.f0, v1, .string x.f2, .bool x.f3, .bool x.f4] ∧ k60.R 60 w base ok v1 x.f1 := by
 obtain ⟨_, _, rfl, rfl, ⟨_, _, rfl, ⟨v1, rfl, g1⟩, ⟨_, _, rfl, rfl, ⟨_, _, rfl, rfl, rfl⟩⟩⟩⟩ := h
 exact ⟨v1, rfl, g1⟩
theorem k47_mk (w : World) (x : S47) {A1 : Option Addr} {c1 : Nat} (l1 : x.f1.length ≤ c1) (g1 : k60.C w A1 x.f1.length x.f1) : k47.K w x [.string x.f0, .slice A1 x.f1.length c1, .string x.f2, .bool x.f3, .bool x.f4] := ⟨[.string x.f0], [.slice A1 x.f1.length c1, .string x.f2, .bool x.f3, .bool x.f4], rfl, rfl, ⟨[.slice A1 x.f1.length c1], [.string x.f2, .bool x.f3, .bool x.f4], rfl, ⟨A1, c1, rfl, l1, g1⟩, ⟨[.string x.f2], [.bool x.f3, .bool x.f4], rfl, rfl, ⟨[.bool x.f3], [.bool x.f4], rfl, rfl, rfl⟩⟩⟩⟩
theorem k47_mkM (w : World) (base : Nat) (ok : Nat → Prop) (x : S47) {v1 : Value} (g1 : k60.R 60 w base ok v1 x.f1) : k47.M w base ok x [.string x.f0, v1, .string x.f2, .bool x.f3, .bool x.f4] := ⟨[.string x.f0], [v1, .string x.f2, .bool x.f3, .bool x.f4], rfl, rfl, ⟨[v1], [.string x.f2, .bool x.f3, .bool x.f4], rfl, ⟨v1, rfl, g1⟩, ⟨[.string x.f2], [.bool x.f3, .bool x.f4], rfl, rfl, ⟨[.bool x.f3], [.bool x.f4], rfl, rfl, rfl⟩⟩⟩⟩
def rd_T47 (xs : List S47) (i : Int) : S47 := xs.getD i.toNat z47
theorem at_T47 {w : World} {A : Option Addr} {n : Nat} {xs : List S47} (h : Kd.C k47 w A n xs) (i : Int) (h0 : 0 ≤ i) (h1 : i < n) : ∃ ad A1 c1, A = some ad ∧ w.cell? (ad.add (i.toNat * 5)) = some (.string (rd_T47 xs i).f0) ∧ w.cell? ⟨(ad.add (i.toNat * 5)).block, (ad.add (i.toNat * 5)).off + 1, none⟩ = some (.slice A1 (rd_T47 xs i).f1.length c1) ∧ w.cell? ⟨(ad.add (i.toNat * 5)).block, (ad.add (i.toNat * 5)).off + 2, none⟩ = some (.string (rd_T47 xs i).f2) ∧ w.cell? ⟨(ad.add (i.toNat * 5)).block, (ad.add (i.toNat * 5)).off + 3, none⟩ = some (.bool (rd_T47 xs i).f3) ∧ w.cell? ⟨(ad.add (i.toNat * 5)).block, (ad.add (i.toNat * 5)).off + 4, none⟩ = some (.bool (rd_T47 xs i).f4) ∧ (rd_T47 xs i).f1.length ≤ c1 ∧ k60.C w A1 (rd_T47 xs i).f1.length (rd_T47 xs i).f1 := by
 obtain ⟨ad, c, e, _, hK, hc0⟩ := Kd.C_get h z47 i h0 h1
 have hc : ∀ j u, c[j]? = some u → w.cell? (ad.add (i.toNat * 5 + j)) = some u := hc0
 obtain ⟨A1, c1, rfl, l1, g1⟩ := k47_open hK
 exact ⟨ad, A1, c1, e, hc 0 _ rfl, by rw [← add_field _ _ 1 (by omega)]; exact hc 1 _ rfl, by rw [← add_field _ _ 2 (by omega)]; exact hc 2 _ rfl, by rw [← add_field _ _ 3 (by omega)]; exact hc 3 _ rfl, by rw [← add_field _ _ 4 (by omega)]; exact hc 4 _ rfl, l1, g1⟩

def rd_L10 (xs : List (List S47)) (i : Int) : (List S47) := xs.getD i.toNat ([] : List S47)
theorem at_L10 {w : World} {A : Option Addr} {n : Nat} {xs : List (List S47)} (h : Kd.C (Kd.slice 47 k47) w A n xs) (i : Int) (h0 : 0 ≤ i) (h1 : i < n) : ∃ ad A0 c0, A = some ad ∧ w.cell? (ad.add i.toNat) = some (.slice A0 (rd_L10 xs i).length c0) ∧ (rd_L10 xs i).length ≤ c0 ∧ k47.C w A0 (rd_L10 xs i).length (rd_L10 xs i) := by
 obtain ⟨ad, c, e, _, hK, hc0⟩ := Kd.C_get h ([] : List S47) i h0 h1
 have hc : ∀ j u, c[j]? = some u → w.cell? (ad.add (i.toNat * 1 + j)) = some u := hc0
 obtain ⟨A0, c0, rfl, l0, g0⟩ := hK
 exact ⟨ad, A0, c0, e, by have hq := hc 0 _ rfl; rwa [Nat.mul_one, Nat.add_zero] at hq, l0, g0⟩

/-! #### struct type 41 -/
structure S41 where
 f0 : ByteArray
 f1 : (List S47)
def z41 : S41 := ⟨(⟨#[]⟩ : ByteArray), ([] : List S47)⟩
def k41 : Kd S41 := Kd.iso (Kd.pair Kd.string (Kd.slice 47 k47)) (fun x : S41 => (x.f0, x.f1))
theorem k41_open {w : World} {x : S41} {cs : List Value} (h : k41.K w x cs) : ∃ A1 c1, cs = [.string x.f0, .slice A1 x.f1.length c1] ∧ x.f1.length ≤ c1 ∧ k47.C w A1 x.f1.length x.f1 := by
 obtain ⟨_, _, rfl, rfl, ⟨A1, c1, rfl, l1, g1⟩⟩ := h
 exact ⟨A1, c1, rfl, l1, g1⟩
theorem k41_openM {w : World} {base : Nat} {ok : Nat → Prop} {x : S41} {cs : List Value} (h : k41.M w base ok x cs) : ∃ v1, cs = [.string x.f0, v1] ∧ k47.R 47 w base ok v1 x.f1 := by
 obtain ⟨_, _, rfl, rfl, ⟨v1, rfl, g1⟩⟩ := h
 exact ⟨v1, rfl, g1⟩
theorem k41_mk (w : World) (x : S41) {A1 : Option Addr} {c1 : Nat} (l1 : x.f1.length ≤ c1) (g1 : k47.C w A1 x.f1.length x.f1) : k41.K w x [.string x.f0, .slice A1 x.f1.length c1] := ⟨[.string x.f0], [.slice A1 x.f1.length c1], rfl, rfl, ⟨A1, c1, rfl, l1, g1⟩⟩
theorem k41_mkM (w : World) (base : Nat) (ok : Nat → Prop) (x : S41) {v1 : Value} (g1 : k47.R 47 w base ok v1 x.f1) : k41.M w base ok x [.string x.f0, v1] := ⟨[.string x.f0], [v1], rfl, rfl, ⟨v1, rfl, g1⟩⟩
def rd_T41 (xs : List S41) (i : Int) : S41 := xs.getD i.toNat z41
theorem at_T41 {w : World} {A : Option Addr} {n : Nat} {xs : List S41} (h : Kd.C k41 w A n xs) (i : Int) (h0 : 0 ≤ i) (h1 : i < n) : ∃ ad A1 c1, A = some ad ∧ w.cell? (ad.add (i.toNat * 2)) = some (.string (rd_T41 xs i).f0) ∧ w.cell? ⟨(ad.add (i.toNat * 2)).block, (ad.add (i.toNat * 2)).off + 1, none⟩ = some (.slice A1 (rd_T41 xs i).f1.length c1) ∧ (rd_T41 xs i).f1.length ≤ c1 ∧ k47.C w A1 (rd_T41 xs i).f1.length (rd_T41 xs i).f1 := by
 obtain ⟨ad, c, e, _, hK, hc0⟩ := Kd.C_get h z41 i h0 h1
 have hc : ∀ j u, c[j]? = some u → w.cell? (ad.add (i.toNat * 2 + j)) = some u := hc0
 obtain ⟨A1, c1, rfl, l1, g1⟩ := k41_open hK
 exact ⟨ad, A1, c1, e, hc 0 _ rfl, by rw [← add_field _ _ 1 (by omega)]; exact hc 1 _ rfl, l1, g1⟩

def rd_L12 (xs : List (List S41)) (i : Int) : (List S41) := xs.getD i.toNat ([] : List S41)
theorem at_L12 {w : World} {A : Option Addr} {n : Nat} {xs : List (List S41)} (h : Kd.C (Kd.slice 41 k41) w A n xs) (i : Int) (h0 : 0 ≤ i) (h1 : i < n) : ∃ ad A0 c0, A = some ad ∧ w.cell? (ad.add i.toNat) = some (.slice A0 (rd_L12 xs i).length c0) ∧ (rd_L12 xs i).length ≤ c0 ∧ k41.C w A0 (rd_L12 xs i).length (rd_L12 xs i) := by
 obtain ⟨ad, c, e, _, hK, hc0⟩ := Kd.C_get h ([] : List S41) i h0 h1
 have hc : ∀ j u, c[j]? = some u → w.cell? (ad.add (i.toNat * 1 + j)) = some u := hc0
 obtain ⟨A0, c0, rfl, l0, g0⟩ := hK
 exact ⟨ad, A0, c0, e, by have hq := hc 0 _ rfl; rwa [Nat.mul_one, Nat.add_zero] at hq, l0, g0⟩

/-! #### struct type 43 -/
structure S43 where
 f0 : Int
 f1 : Int
 f2 : ByteArray
def z43 : S43 := ⟨(0 : Int), (0 : Int), (⟨#[]⟩ : ByteArray)⟩
def k43 : Kd S43 := Kd.iso (Kd.pair (Kd.int .i64) (Kd.pair (Kd.int .i64) Kd.string)) (fun x : S43 => (x.f0, x.f1, x.f2))
theorem k43_open {w : World} {x : S43} {cs : List Value} (h : k43.K w x cs) : cs = [.int .i64 x.f0, .int .i64 x.f1, .string x.f2] := by
 obtain ⟨_, _, rfl, rfl, ⟨_, _, rfl, rfl, rfl⟩⟩ := h
 exact rfl
theorem k43_openM {w : World} {base : Nat} {ok : Nat → Prop} {x : S43} {cs : List Value} (h : k43.M w base ok x cs) : cs = [.int .i64 x.f0, .int .i64 x.f1, .string x.f2] := by
 obtain ⟨_, _, rfl, rfl, ⟨_, _, rfl, rfl, rfl⟩⟩ := h
 exact rfl
theorem k43_mk (w : World) (x : S43)  : k43.K w x [.int .i64 x.f0, .int .i64 x.f1, .string x.f2] := ⟨[.int .i64 x.f0], [.int .i64 x.f1, .string x.f2], rfl, rfl, ⟨[.int .i64 x.f1], [.string x.f2], rfl, rfl, rfl⟩⟩
theorem k43_mkM (w : World) (base : Nat) (ok : Nat → Prop) (x : S43)  : k43.M w base ok x [.int .i64 x.f0, .int .i64 x.f1, .string x.f2] := ⟨[.int .i64 x.f0], [.int .i64 x.f1, .string x.f2], rfl, rfl, ⟨[.int .i64 x.f1], [.string x.f2], rfl, rfl, rfl⟩⟩
def rd_T43 (xs : List S43) (i : Int) : S43 := xs.getD i.toNat z43
theorem at_T43 {w : World} {A : Option Addr} {n : Nat} {xs : List S43} (h : Kd.C k43 w A n xs) (i : Int) (h0 : 0 ≤ i) (h1 : i < n) : ∃ ad , A = some ad ∧ w.cell? (ad.add (i.toNat * 3)) = some (.int .i64 (rd_T43 xs i).f0) ∧ w.cell? ⟨(ad.add (i.toNat * 3)).block, (ad.add (i.toNat * 3)).off + 1, none⟩ = some (.int .i64 (rd_T43 xs i).f1) ∧ w.cell? ⟨(ad.add (i.toNat * 3)).block, (ad.add (i.toNat * 3)).off + 2, none⟩ = some (.string (rd_T43 xs i).f2) := by
 obtain ⟨ad, c, e, _, hK, hc0⟩ := Kd.C_get h z43 i h0 h1
 have hc : ∀ j u, c[j]? = some u → w.cell? (ad.add (i.toNat * 3 + j)) = some u := hc0
 obtain rfl := k43_open hK
 exact ⟨ad, e, hc 0 _ rfl, by rw [← add_field _ _ 1 (by omega)]; exact hc 1 _ rfl, by rw [← add_field _ _ 2 (by omega)]; exact hc 2 _ rfl⟩

def rd_L15 (xs : List (List ByteArray)) (i : Int) : (List ByteArray) := xs.getD i.toNat ([] : List ByteArray)
theorem at_L15 {w : World} {A : Option Addr} {n : Nat} {xs : List (List ByteArray)} (h : Kd.C (Kd.slice 9 Kd.string) w A n xs) (i : Int) (h0 : 0 ≤ i) (h1 : i < n) : ∃ ad A0 c0, A = some ad ∧ w.cell? (ad.add i.toNat) = some (.slice A0 (rd_L15 xs i).length c0) ∧ (rd_L15 xs i).length ≤ c0 ∧ Kd.string.C w A0 (rd_L15 xs i).length (rd_L15 xs i) := by
 obtain ⟨ad, c, e, _, hK, hc0⟩ := Kd.C_get h ([] : List ByteArray) i h0 h1
 have hc : ∀ j u, c[j]? = some u → w.cell? (ad.add (i.toNat * 1 + j)) = some u := hc0
 obtain ⟨A0, c0, rfl, l0, g0⟩ := hK
 exact ⟨ad, A0, c0, e, by have hq := hc 0 _ rfl; rwa [Nat.mul_one, Nat.add_zero] at hq, l0, g0⟩

def rd_L16 (xs : List (List S54)) (i : Int) : (List S54) := xs.getD i.toNat ([] : List S54)
theorem at_L16 {w : World} {A : Option Addr} {n : Nat} {xs : List (List S54)} (h : Kd.C (Kd.slice 54 k54) w A n xs) (i : Int) (h0 : 0 ≤ i) (h1 : i < n) : ∃ ad A0 c0, A = some ad ∧ w.cell? (ad.add i.toNat) = some (.slice A0 (rd_L16 xs i).length c0) ∧ (rd_L16 xs i).length ≤ c0 ∧ k54.C w A0 (rd_L16 xs i).length (rd_L16 xs i) := by
 obtain ⟨ad, c, e, _, hK, hc0⟩ := Kd.C_get h ([] : List S54) i h0 h1
 have hc : ∀ j u, c[j]? = some u → w.cell? (ad.add (i.toNat * 1 + j)) = some u := hc0
 obtain ⟨A0, c0, rfl, l0, g0⟩ := hK
 exact ⟨ad, A0, c0, e, by have hq := hc 0 _ rfl; rwa [Nat.mul_one, Nat.add_zero] at hq, l0, g0⟩

/-! #### struct type 24 -/
structure S24 where
 f0 : (List S54)
def z24 : S24 := ⟨([] : List S54)⟩
def k24 : Kd S24 := Kd.iso (Kd.slice 54 k54) (fun x : S24 => x.f0)
theorem k24_open {w : World} {x : S24} {cs : List Value} (h : k24.K w x cs) : ∃ A0 c0, cs = [.slice A0 x.f0.length c0] ∧ x.f0.length ≤ c0 ∧ k54.C w A0 x.f0.length x.f0 := by
 obtain ⟨A0, c0, rfl, l0, g0⟩ := h
 exact ⟨A0, c0, rfl, l0, g0⟩
theorem k24_openM {w : World} {base : Nat} {ok : Nat → Prop} {x : S24} {cs : List Value} (h : k24.M w base ok x cs) : ∃ v0, cs = [v0] ∧ k54.R 54 w base ok v0 x.f0 := by
 obtain ⟨v0, rfl, g0⟩ := h
 exact ⟨v0, rfl, g0⟩
theorem k24_mk (w : World) (x : S24) {A0 : Option Addr} {c0 : Nat} (l0 : x.f0.length ≤ c0) (g0 : k54.C w A0 x.f0.length x.f0) : k24.K w x [.slice A0 x.f0.length c0] := ⟨A0, c0, rfl, l0, g0⟩
theorem k24_mkM (w : World) (base : Nat) (ok : Nat → Prop) (x : S24) {v0 : Value} (g0 : k54.R 54 w base ok v0 x.f0) : k24.M w base ok x [v0] := ⟨v0, rfl, g0⟩
def rd_T24 (xs : List S24) (i : Int) : S24 := xs.getD i.toNat z24
theorem at_T24 {w : World} {A : Option Addr} {n : Nat} {xs : List S24} (h : Kd.C k24 w A n xs) (i : Int) (h0 : 0 ≤ i) (h1 : i < n) : ∃ ad A0 c0, A = some ad ∧ w.cell? (ad.add i.toNat) = some (.slice A0 (rd_T24 xs i).f0.length c0) ∧ (rd_T24 xs i).f0.length ≤ c0 ∧ k54.C w A0 (rd_T24 xs i).f0.length (rd_T24 xs i).f0 := by
 obtain ⟨ad, c, e, _, hK, hc0⟩ := Kd.C_get h z24 i h0 h1
 have hc : ∀ j u, c[j]? = some u → w.cell? (ad.add (i.toNat * 1 + j)) = some u := hc0
 obtain ⟨A0, c0, rfl, l0, g0⟩ := k24_open hK
 exact ⟨ad, A0, c0, e, by have hq := hc 0 _ rfl; rwa [Nat.mul_one, Nat.add_zero] at hq, l0, g0⟩

end Go.Proofs.YtoogmlghfljeiaaDoor.Q
namespace Go.Proofs.YtoogmlghfljeiaaDoor.Q
open Go.RowKit Go.Proofs.YtoogmlghfljeiaaDoorW.PrintWords
theorem qzA {α : Type} (l : List α) (i : Nat) (a : α) : l.toArray.setIfInBounds i a = (l.set i a).toArray := List.setIfInBounds_toArray l i a
theorem qzB {α : Type} {a b : α} {t : List α} : (a :: t).set 0 b = b :: t := rfl
theorem qzC {α : Type} {a b : α} {t : List α} {n : Nat} : (a :: t).set (n + 1) b = a :: t.set n b := rfl
theorem qbN {B : Nat} {w W : World} (h : Below B w W) (n : Nat) : Below B w (W.drewN n) := pw_below_drewN h n
theorem qbA {w W : World} (h : Below w.heap.size w W) (o : Obj) : Below w.heap.size w (W.alloc o) := below_alloc h o
theorem qbD {base : Nat} {w W : World} (h : Below base w W) : Below base w W.drew := below_drew1 h
theorem qbS {w W : World} {g j : Nat} {v : Value} (h : Below w.heap.size w W) (hg : w.heap.size ≤ g) : Below w.heap.size w (W.setCell ⟨g, j, none⟩ v) := below_set h hg
theorem qO {p : Prop} (h : p) : Aside0 p := ⟨h⟩
theorem qT {p : Prop} [Decidable p] (h : decide p = true) : p := of_decide_eq_true h
theorem qL (w : World) (a : Addr) {v : Value} (h : w.cell? a = some v) : a.block < w.heap.size := World.block_lt_of_cell? w a h
theorem qkN {w : World} {g : Nat} {o : Obj} (h : w.heap[g]? = some o) (n : Nat) : (w.drewN n).heap[g]? = some o := h
theorem qkD {w : World} {g : Nat} {o : Obj} (h : w.heap[g]? = some o) : w.drew.heap[g]? = some o := h
theorem qkA {w : World} {g : Nat} {o : Obj} (h : w.heap[g]? = some o) (o' : Obj) : (w.alloc o').heap[g]? = some o := blk_alloc h o'
theorem qB {Wf W wn : World} {g : Nat} {o : Obj} (h : Wf.heap[g]? = some o) (hx : Below Wf.heap.size Wf W) (hb : Below W.heap.size W wn) : wn.heap[g]? = some o := blk_below (blk_below h hx) hb
theorem qHX {B : Nat} {v Wf W wn : World} (_h : Aside0 (Below B v Wf)) (_hb : Below W.heap.size W wn) (hx : Below Wf.heap.size Wf W) : Below Wf.heap.size Wf W := hx
theorem qa0 {P : Prop} (h : P := by (try simp only [List.map_toArray, List.map_cons, List.map_nil]); first | done | rfl | (simp only [List.length_drop, List.length_take]; rfl)) : P := h
theorem qa1 {P : Prop} (h : P := by with_reducible repeat (first | refine qbN ?_ _ | refine qbD ?_ | refine qbA ?_ _ | exact Below.refl _ _)) : P := h
theorem qa2 {P : Prop} (h : P := by repeat (first | (with_reducible first | exact HB.out | apply qbA | apply qbN | apply qbD | refine qbS ?_ GE101.out) | exact HB.out)) : P := h
theorem qa3 {P : Prop} (h : P := by (with_reducible repeat (first | refine qkN ?_ _ | refine qkD ?_ | refine qkA ?_ _)); refine blk_put (cs := #[.string ((rd_T47 ((rd_T41 l0_0 x3_2).f1) x5_4).f0), .slice A109_1 ((rd_T47 ((rd_T41 l0_0 x3_2).f1) x5_4).f1).length c109_1, .string ((rd_T47 ((rd_T41 l0_0 x3_2).f1) x5_4).f2), .bool ((rd_T47 ((rd_T41 l0_0 x3_2).f1) x5_4).f3), .bool false]) ?_ 4 _ rfl; (with_reducible repeat (first | refine qkN ?_ _ | refine qkD ?_ | refine qkA ?_ _)); refine blk_put (cs := #[.string ((rd_T47 ((rd_T41 l0_0 x3_2).f1) x5_4).f0), .slice A109_1 ((rd_T47 ((rd_T41 l0_0 x3_2).f1) x5_4).f1).length c109_1, .string ((rd_T47 ((rd_T41 l0_0 x3_2).f1) x5_4).f2), .bool false, .bool false]) ?_ 3 _ rfl; (with_reducible repeat (first | refine qkN ?_ _ | refine qkD ?_ | refine qkA ?_ _)); refine blk_put (cs := #[.string ((rd_T47 ((rd_T41 l0_0 x3_2).f1) x5_4).f0), .slice A109_1 ((rd_T47 ((rd_T41 l0_0 x3_2).f1) x5_4).f1).length c109_1, .string (⟨#[]⟩ : ByteArray), .bool false, .bool false]) ?_ 2 _ rfl; (with_reducible repeat (first | refine qkN ?_ _ | refine qkD ?_ | refine qkA ?_ _)); refine blk_put (cs := #[.string ((rd_T47 ((rd_T41 l0_0 x3_2).f1) x5_4).f0), .slice none 0 0, .string (⟨#[]⟩ : ByteArray), .bool false, .bool false]) ?_ 1 _ rfl; (with_reducible repeat (first | refine qkN ?_ _ | refine qkD ?_ | refine qkA ?_ _)); refine blk_put (cs := #[.string (⟨#[]⟩ : ByteArray), .slice none 0 0, .string (⟨#[]⟩ : ByteArray), .bool false, .bool false]) ?_ 0 _ rfl; (with_reducible repeat (first | refine qkN ?_ _ | refine qkD ?_ | refine qkA ?_ _)); exact BK110.out) : P := h
theorem qa4 {P : Prop} (h : P := by (with_reducible repeat (first | refine qkN ?_ _ | refine qkD ?_ | refine qkA ?_ _)); exact BK101.out) : P := h
theorem qa5 {P : Prop} (h : P := by first | rfl | (simp [errW_none, errW_some] <;> rfl) | (simp [*, errW_none, errW_some] <;> rfl)) : P := h
theorem qa6 {P : Prop} (h : P := by first | (with_reducible assumption) | assumption) : P := h
theorem qa7 {P : Prop} (h : P := by simp only [Act.put, qzA, qzB, qzC, i64_w, i32_w]; rfl) : P := h
theorem qa8 {P : Prop} (h : P := by (with_reducible repeat (first | refine qkN ?_ _ | refine qkD ?_ | refine qkA ?_ _)); refine blk_far ?_ NB101_110.out _; (with_reducible repeat (first | refine qkN ?_ _ | refine qkD ?_ | refine qkA ?_ _)); refine blk_far ?_ NB101_110.out _; (with_reducible repeat (first | refine qkN ?_ _ | refine qkD ?_ | refine qkA ?_ _)); refine blk_far ?_ NB101_110.out _; (with_reducible repeat (first | refine qkN ?_ _ | refine qkD ?_ | refine qkA ?_ _)); refine blk_far ?_ NB101_110.out _; (with_reducible repeat (first | refine qkN ?_ _ | refine qkD ?_ | refine qkA ?_ _)); refine blk_far ?_ NB101_110.out _; (with_reducible repeat (first | refine qkN ?_ _ | refine qkD ?_ | refine qkA ?_ _)); exact BK101.out) : P := h
theorem qa9 {P : Prop} (h : P := by (with_reducible repeat (first | refine qkN ?_ _ | refine qkD ?_ | refine qkA ?_ _)); refine blk_far ?_ NB105_110.out _; (with_reducible repeat (first | refine qkN ?_ _ | refine qkD ?_ | refine qkA ?_ _)); refine blk_far ?_ NB105_110.out _; (with_reducible repeat (first | refine qkN ?_ _ | refine qkD ?_ | refine qkA ?_ _)); refine blk_far ?_ NB105_110.out _; (with_reducible repeat (first | refine qkN ?_ _ | refine qkD ?_ | refine qkA ?_ _)); refine blk_far ?_ NB105_110.out _; (with_reducible repeat (first | refine qkN ?_ _ | refine qkD ?_ | refine qkA ?_ _)); refine blk_far ?_ NB105_110.out _; (with_reducible repeat (first | refine qkN ?_ _ | refine qkD ?_ | refine qkA ?_ _)); exact BK105.out) : P := h
theorem qa10 {P : Prop} (h : P := by first | rfl | (simp; done) | (simp [*]; done)) : P := h
theorem qa11 {P : Prop} (h : P := by repeat (first | (with_reducible first | exact HB.out | apply qbA | apply qbN | apply qbD) | exact HB.out)) : P := h
theorem qa12 {P : Prop} (h : P := by (with_reducible repeat (first | refine qkN ?_ _ | refine qkD ?_ | refine qkA ?_ _)); refine blk_put (cs := #[.string ((rd_T47 ((rd_T41 l0_0 x20_2).f1) x52_4).f0), .slice A109_1 ((rd_T47 ((rd_T41 l0_0 x20_2).f1) x52_4).f1).length c109_1, .string ((rd_T47 ((rd_T41 l0_0 x20_2).f1) x52_4).f2), .bool ((rd_T47 ((rd_T41 l0_0 x20_2).f1) x52_4).f3), .bool false]) ?_ 4 _ rfl; (with_reducible repeat (first | refine qkN ?_ _ | refine qkD ?_ | refine qkA ?_ _)); refine blk_put (cs := #[.string ((rd_T47 ((rd_T41 l0_0 x20_2).f1) x52_4).f0), .slice A109_1 ((rd_T47 ((rd_T41 l0_0 x20_2).f1) x52_4).f1).length c109_1, .string ((rd_T47 ((rd_T41 l0_0 x20_2).f1) x52_4).f2), .bool false, .bool false]) ?_ 3 _ rfl; (with_reducible repeat (first | refine qkN ?_ _ | refine qkD ?_ | refine qkA ?_ _)); refine blk_put (cs := #[.string ((rd_T47 ((rd_T41 l0_0 x20_2).f1) x52_4).f0), .slice A109_1 ((rd_T47 ((rd_T41 l0_0 x20_2).f1) x52_4).f1).length c109_1, .string (⟨#[]⟩ : ByteArray), .bool false, .bool false]) ?_ 2 _ rfl; (with_reducible repeat (first | refine qkN ?_ _ | refine qkD ?_ | refine qkA ?_ _)); refine blk_put (cs := #[.string ((rd_T47 ((rd_T41 l0_0 x20_2).f1) x52_4).f0), .slice none 0 0, .string (⟨#[]⟩ : ByteArray), .bool false, .bool false]) ?_ 1 _ rfl; (with_reducible repeat (first | refine qkN ?_ _ | refine qkD ?_ | refine qkA ?_ _)); refine blk_put (cs := #[.string (⟨#[]⟩ : ByteArray), .slice none 0 0, .string (⟨#[]⟩ : ByteArray), .bool false, .bool false]) ?_ 0 _ rfl; (with_reducible repeat (first | refine qkN ?_ _ | refine qkD ?_ | refine qkA ?_ _)); exact BK110.out) : P := h
theorem qa13 {P : Prop} (h : P := by show Act.put _ (some _) _ = _; simp only [Act.put, qzA, qzB, qzC, i64_w, i32_w]; rfl) : P := h
theorem qa14 {P : Prop} (h : P := by rw [hg]; exact (below_size (below_step HB.out hx_))) : P := h
theorem qa15 {P : Prop} (h : P := by repeat (first | (with_reducible first | exact HB.out | apply qbA | apply qbN | apply qbD | refine qbS ?_ GE101.out | refine qbS ?_ GE105.out | refine qbS ?_ GE110.out) | exact HB.out)) : P := h
theorem qa16 {P : Prop} (h : P := by kernel_rfl) : P := h
theorem qa17 {P : Prop} (h : P := by repeat (first | (with_reducible first | exact HB.out | apply qbA | apply qbN | apply qbD | refine qbS ?_ GE101.out | refine qbS ?_ GE102.out) | exact HB.out)) : P := h
theorem qa18 {P : Prop} (h : P := by first | (go_simp; done) | (go_simp; rfl)) : P := h
theorem qa19 {P : Prop} (h : P := by (with_reducible repeat (first | apply Kd.R_alloc | apply Kd.R_drewN | apply Kd.R_drew)); exact HO_3.out) : P := h
theorem qa20 {P : Prop} (h : P := by intro w'; go_simp; with_reducible rfl) : P := h
theorem qa21 {P : Prop} (h : P := by repeat (first | (with_reducible first | exact HB.out | apply qbA | apply qbN | apply qbD | refine qbS ?_ GE101.out | refine qbS ?_ GE105.out) | exact HB.out)) : P := h
theorem qa22 {P : Prop} (h : P := by (with_reducible repeat (first | refine qkN ?_ _ | refine qkD ?_ | refine qkA ?_ _)); refine blk_far ?_ NB101_105.out _; (with_reducible repeat (first | refine qkN ?_ _ | refine qkD ?_ | refine qkA ?_ _)); refine blk_far ?_ NB101_105.out _; (with_reducible repeat (first | refine qkN ?_ _ | refine qkD ?_ | refine qkA ?_ _)); exact BK101.out) : P := h
theorem qa23 {P : Prop} (h : P := by repeat (first | exact (Kd.C_below HR0_0.out HB.out) | with_reducible first | refine Kd.C_alloc ?_ _ | refine Kd.C_drewN ?_ _ | refine Kd.C_drew ?_)) : P := h
theorem qa24 {P : Prop} (h : P := by repeat (first | exact Drawn0.refl _ | apply Drawn0.step)) : P := h
theorem qa25 {P : Prop} (h : P := by omega) : P := h
theorem qa26 {P : Prop} (h : P := by repeat (first | exact (Kd.C_below HR0_1.out HB.out) | with_reducible first | refine Kd.C_alloc ?_ _ | refine Kd.C_drewN ?_ _ | refine Kd.C_drew ?_)) : P := h
theorem qa27 {P : Prop} (h : P := by repeat (first | (with_reducible first | exact HB.out | apply qbA | apply qbN | apply qbD | refine qbS ?_ GE101.out | refine qbS ?_ GE113.out) | exact HB.out)) : P := h
theorem qa28 {P : Prop} (h : P := by rw [hg]; exact Nat.ne_of_lt (blk_lt (g := gb101) (o := .cells #[.string a0_0, .slice A0_1 l0_1.length c0_1, .string a0_2, .bool a0_3, .bool a0_4] 47 (0, 0)) (by (with_reducible repeat (first | refine qkN ?_ _ | refine qkD ?_ | refine qkA ?_ _)); exact BK101.out))) : P := h
theorem qa29 {P : Prop} (h : P := by (with_reducible repeat (first | refine qkN ?_ _ | refine qkD ?_ | refine qkA ?_ _)); refine blk_put (cs := #[.string ((rd_T41 l0_0 x20_2).f0), .slice none 0 0]) ?_ 1 _ rfl; (with_reducible repeat (first | refine qkN ?_ _ | refine qkD ?_ | refine qkA ?_ _)); refine blk_put (cs := #[.string (⟨#[]⟩ : ByteArray), .slice none 0 0]) ?_ 0 _ rfl; (with_reducible repeat (first | refine qkN ?_ _ | refine qkD ?_ | refine qkA ?_ _)); exact BK105.out) : P := h
theorem qa30 {P : Prop} (h : P := by (with_reducible repeat (first | refine qkN ?_ _ | refine qkD ?_ | refine qkA ?_ _)); refine blk_put (cs := #[.string ((rd_T41 l0_0 x3_2).f0), .slice none 0 0]) ?_ 1 _ rfl; (with_reducible repeat (first | refine qkN ?_ _ | refine qkD ?_ | refine qkA ?_ _)); refine blk_put (cs := #[.string (⟨#[]⟩ : ByteArray), .slice none 0 0]) ?_ 0 _ rfl; (with_reducible repeat (first | refine qkN ?_ _ | refine qkD ?_ | refine qkA ?_ _)); exact BK105.out) : P := h
theorem qa31 {P : Prop} (h : P := by (with_reducible repeat (first | apply Kd.R_alloc | apply Kd.R_drewN | apply Kd.R_drew)); exact HO107.out) : P := h
theorem qa32 {P : Prop} (h : P := by (with_reducible repeat (first | refine qkN ?_ _ | refine qkD ?_ | refine qkA ?_ _)); exact BK105.out) : P := h
theorem qa33 {P : Prop} (h : P := by rw [hg]; exact Nat.ne_of_lt (blk_lt (g := gb101) (o := .cells #[.slice A0_0 l0_0.length c0_0] 30 (0, 0)) (by (with_reducible repeat (first | refine qkN ?_ _ | refine qkD ?_ | refine qkA ?_ _)); exact BK101.out))) : P := h
theorem qa34 {P : Prop} (h : P := by (with_reducible repeat (first | apply Kd.R_alloc | apply Kd.R_drewN | apply Kd.R_drew)); exact (Kd.R_mono (Kd.R_far (p := ⟨gb125, 4, none⟩) (Kd.R_far (p := ⟨gb125, 3, none⟩) (Kd.R_far (p := ⟨gb125, 2, none⟩) (Kd.R_far (p := ⟨gb125, 1, none⟩) (Kd.R_far (p := ⟨gb125, 0, none⟩) (Kd.R_types HO_4.out BK125.out (by decide)) (fun _ hk => hk.2) (.string ((rd_T47 ((rd_T41 l0_0 x16_1).f1) x31_2).f0))) (fun _ hk => hk.2) (.slice A124_1 ((rd_T47 ((rd_T41 l0_0 x16_1).f1) x31_2).f1).length c124_1)) (fun _ hk => hk.2) (.string ((rd_T47 ((rd_T41 l0_0 x16_1).f1) x31_2).f2))) (fun _ hk => hk.2) (.bool ((rd_T47 ((rd_T41 l0_0 x16_1).f1) x31_2).f3))) (fun _ hk => hk.2) (.bool ((rd_T47 ((rd_T41 l0_0 x16_1).f1) x31_2).f4))) (fun _ h_ => h_.1))) : P := h
theorem qa35 {P : Prop} (h : P := by repeat (first | (with_reducible first | exact HB.out | apply qbA | apply qbN | apply qbD | refine qbS ?_ GE101.out | refine qbS ?_ GE102.out | refine qbS ?_ GE103.out) | exact HB.out)) : P := h
theorem qa36 {P : Prop} (h : P := by rw [hg]; exact Nat.ne_of_lt (blk_lt (g := gb101) (o := .cells #[.slice (some ad104) l0_0.length c0_0] 30 (0, 0)) (by (with_reducible repeat (first | refine qkN ?_ _ | refine qkD ?_ | refine qkA ?_ _)); exact BK101.out))) : P := h
theorem qa37 {P : Prop} (h : P := by rw [hg]; exact (below_size (by repeat (first | (with_reducible first | exact HB.out | apply qbA | apply qbN | apply qbD | refine qbS ?_ GE101.out) | exact HB.out)))) : P := h
theorem qa38 {P : Prop} (h : P := by exact (below_size (by repeat (first | (with_reducible first | exact HB.out | apply qbA | apply qbN | apply qbD | refine qbS ?_ GE101.out) | exact HB.out)))) : P := h
theorem qa39 {P : Prop} (h : P := by repeat (first | (with_reducible first | exact HB.out | apply qbA | apply qbN | apply qbD | refine qbS ?_ GE101.out | refine qbS ?_ GE133.out) | exact HB.out)) : P := h
theorem qa40 {P : Prop} (h : P := by (with_reducible repeat (first | refine qkN ?_ _ | refine qkD ?_ | refine qkA ?_ _)); exact BK110.out) : P := h
theorem qa41 {P : Prop} (h : P := by exact (by repeat (first | (with_reducible first | exact HB.out | apply qbA | apply qbN | apply qbD | refine qbS ?_ GE101.out) | exact HB.out))) : P := h
theorem qa42 {P : Prop} (h : P := by repeat (first | exact (Kd.C_below HR101_1.out HB.out) | with_reducible first | refine Kd.C_alloc ?_ _ | refine Kd.C_drewN ?_ _ | refine Kd.C_drew ?_)) : P := h
theorem qa43 {P : Prop} (h : P := by rw [hg]; exact (below_size (by repeat (first | (with_reducible first | exact HB.out | apply qbA | apply qbN | apply qbD) | exact HB.out)))) : P := h
theorem qa44 {P : Prop} (h : P := by exact (Reps.c3 (show Kd.M k43 _ _ _ (⟨t102, t103, t104⟩ : S43) [.int .i64 t102, .int .i64 t103, .string t104] from (k43_mkM _ _ _ (⟨t102, t103, t104⟩ : S43) )) (Reps.none _ _))) : P := h
theorem qa45 {P : Prop} (h : P := by (with_reducible repeat (first | refine qkN ?_ _ | refine qkD ?_ | refine qkA ?_ _)); exact BK102.out) : P := h
theorem qa46 {P : Prop} (h : P := by repeat (first | exact (Kd.C_below HR1_1.out HB.out) | with_reducible first | refine Kd.C_alloc ?_ _ | refine Kd.C_drewN ?_ _ | refine Kd.C_drew ?_)) : P := h
theorem qa47 {P : Prop} (h : P := by exact (Reps.c3 (show Kd.M k43 _ _ _ (⟨t108, t109, t110⟩ : S43) [.int .i64 t108, .int .i64 t109, .string t110] from (k43_mkM _ _ _ (⟨t108, t109, t110⟩ : S43) )) (Reps.c3 (show Kd.M k43 _ _ _ (⟨t111, t112, t113⟩ : S43) [.int .i64 t111, .int .i64 t112, .string t113] from (k43_mkM _ _ _ (⟨t111, t112, t113⟩ : S43) )) (Reps.c3 (show Kd.M k43 _ _ _ (⟨t114, t115, t116⟩ : S43) [.int .i64 t114, .int .i64 t115, .string t116] from (k43_mkM _ _ _ (⟨t114, t115, t116⟩ : S43) )) (Reps.none _ _))))) : P := h
theorem qa48 {P : Prop} (h : P := by exact (Reps.c3 (show Kd.M k43 _ _ _ (⟨t134, t135, t136⟩ : S43) [.int .i64 t134, .int .i64 t135, .string t136] from (k43_mkM _ _ _ (⟨t134, t135, t136⟩ : S43) )) (Reps.c3 (show Kd.M k43 _ _ _ (⟨t137, t138, t139⟩ : S43) [.int .i64 t137, .int .i64 t138, .string t139] from (k43_mkM _ _ _ (⟨t137, t138, t139⟩ : S43) )) (Reps.c3 (show Kd.M k43 _ _ _ (⟨t140, t141, t142⟩ : S43) [.int .i64 t140, .int .i64 t141, .string t142] from (k43_mkM _ _ _ (⟨t140, t141, t142⟩ : S43) )) (Reps.none _ _))))) : P := h
theorem qa49 {P : Prop} (h : P := by repeat (first | (with_reducible first | exact HB.out | apply qbA | apply qbN | apply qbD | refine qbS ?_ GE101.out | refine qbS ?_ GE108.out) | exact HB.out)) : P := h
theorem qa50 {P : Prop} (h : P := by (with_reducible repeat (first | apply Kd.R_alloc | apply Kd.R_drewN | apply Kd.R_drew)); exact HO_4.out) : P := h
theorem qa51 {P : Prop} (h : P := by exact (Reps.one (show Kd.M Kd.string _ _ _ (⟨#[32, 40, 32]⟩ : ByteArray) [.string (⟨#[32, 40, 32]⟩ : ByteArray)] from rfl) (Reps.one (show Kd.M Kd.string _ _ _ (⟨#[32]⟩ : ByteArray) [.string (⟨#[32]⟩ : ByteArray)] from rfl) (Reps.none _ _)))) : P := h
theorem qa52 {P : Prop} (h : P := by repeat (first | (with_reducible first | exact HB.out | apply qbA | apply qbN | apply qbD | refine qbS ?_ GE101.out | refine qbS ?_ GE102.out | refine qbS ?_ GE106.out) | exact HB.out)) : P := h
theorem qa53 {P : Prop} (h : P := by rw [hg]; exact Nat.ne_of_lt (blk_lt (g := gb101) (o := .cells #[.string a0_0, .slice A0_1 l0_1.length c0_1] 41 (0, 0)) (by (with_reducible repeat (first | refine qkN ?_ _ | refine qkD ?_ | refine qkA ?_ _)); exact BK101.out))) : P := h
theorem qa54 {P : Prop} (h : P := by (with_reducible repeat (first | refine qkN ?_ _ | refine qkD ?_ | refine qkA ?_ _)); refine blk_put (cs := #[.string ((rd_T60 l1_1 x37_2).f0), .bool false]) ?_ 1 _ rfl; (with_reducible repeat (first | refine qkN ?_ _ | refine qkD ?_ | refine qkA ?_ _)); refine blk_put (cs := #[.string (⟨#[]⟩ : ByteArray), .bool false]) ?_ 0 _ rfl; (with_reducible repeat (first | refine qkN ?_ _ | refine qkD ?_ | refine qkA ?_ _)); exact BK106.out) : P := h
theorem qa55 {P : Prop} (h : P := by (with_reducible repeat (first | refine qkN ?_ _ | refine qkD ?_ | refine qkA ?_ _)); refine blk_put (cs := #[.string ((rd_T60 l0_1 x21_1).f0), .bool false]) ?_ 1 _ rfl; (with_reducible repeat (first | refine qkN ?_ _ | refine qkD ?_ | refine qkA ?_ _)); refine blk_put (cs := #[.string (⟨#[]⟩ : ByteArray), .bool false]) ?_ 0 _ rfl; (with_reducible repeat (first | refine qkN ?_ _ | refine qkD ?_ | refine qkA ?_ _)); exact BK133.out) : P := h
theorem qa56 {P : Prop} (h : P := by exact Kd.C_below HR104_1.out (by repeat (first | (with_reducible first | exact HB.out | apply qbA | apply qbN | apply qbD | refine qbS ?_ GE101.out | refine qbS ?_ GE105.out | refine qbS ?_ GE110.out) | exact HB.out))) : P := h
theorem qa57 {P : Prop} (h : P := by rw [hg]; exact Nat.ne_of_lt (blk_lt (g := gb105) (o := .cells #[.string ((rd_T41 l0_0 x20_2).f0), .slice (some ad109) ((rd_T41 l0_0 x20_2).f1).length c104_1] 41 (0, 0)) (by (with_reducible repeat (first | refine qkN ?_ _ | refine qkD ?_ | refine qkA ?_ _)); exact BK105.out))) : P := h
theorem qa58 {P : Prop} (h : P := by rw [hg]; exact Nat.ne_of_lt (blk_lt (g := gb102) (o := .cells #[.string a1_0, .slice (some ad105) l1_1.length c1_1, .string a1_2, .bool a1_3, .bool a1_4] 47 (0, 0)) (by (with_reducible repeat (first | refine qkN ?_ _ | refine qkD ?_ | refine qkA ?_ _)); exact BK102.out))) : P := h
theorem qa59 {P : Prop} (h : P := by (with_reducible repeat (first | refine qkN ?_ _ | refine qkD ?_ | refine qkA ?_ _)); exact BK113.out) : P := h
theorem qa60 {P : Prop} (h : P := by decide) : P := h
theorem qa61 {P : Prop} (h : P := by exact Kd.C_below HR0_0.out (by repeat (first | (with_reducible first | exact HB.out | apply qbA | apply qbN | apply qbD | refine qbS ?_ GE101.out | refine qbS ?_ GE105.out) | exact HB.out))) : P := h
theorem qa62 {P : Prop} (h : P := by (with_reducible repeat (first | refine qkN ?_ _ | refine qkD ?_ | refine qkA ?_ _)); exact BK108.out) : P := h
theorem qa63 {P : Prop} (h : P := by (with_reducible repeat (first | refine qkN ?_ _ | refine qkD ?_ | refine qkA ?_ _)); refine blk_far ?_ NB101_106.out _; (with_reducible repeat (first | refine qkN ?_ _ | refine qkD ?_ | refine qkA ?_ _)); refine blk_far ?_ NB101_106.out _; (with_reducible repeat (first | refine qkN ?_ _ | refine qkD ?_ | refine qkA ?_ _)); exact BK101.out) : P := h
theorem qa64 {P : Prop} (h : P := by (with_reducible repeat (first | refine qkN ?_ _ | refine qkD ?_ | refine qkA ?_ _)); refine blk_far ?_ NB102_106.out _; (with_reducible repeat (first | refine qkN ?_ _ | refine qkD ?_ | refine qkA ?_ _)); refine blk_far ?_ NB102_106.out _; (with_reducible repeat (first | refine qkN ?_ _ | refine qkD ?_ | refine qkA ?_ _)); exact BK102.out) : P := h
theorem qa65 {P : Prop} (h : P := by (with_reducible repeat (first | refine qkN ?_ _ | refine qkD ?_ | refine qkA ?_ _)); refine blk_far ?_ NB101_133.out _; (with_reducible repeat (first | refine qkN ?_ _ | refine qkD ?_ | refine qkA ?_ _)); refine blk_far ?_ NB101_133.out _; (with_reducible repeat (first | refine qkN ?_ _ | refine qkD ?_ | refine qkA ?_ _)); exact BK101.out) : P := h
theorem qa66 {P : Prop} (h : P := by rintro w' ⟨s0, s1, s2, s3, s4, s5, s6, s7, s8⟩; go_simp; with_reducible rfl) : P := h
theorem qa67 {P : Prop} (h : P := by rw [hg]; exact Nat.ne_of_gt (blk_lt (g := gb101) (o := .cells #[.slice (some ad104) l0_0.length c0_0] 30 (0, 0)) (by (with_reducible repeat (first | refine qkN ?_ _ | refine qkD ?_ | refine qkA ?_ _)); exact BK101.out))) : P := h
theorem qa68 {P : Prop} (h : P := by repeat (first | exact (Kd.C_below HR109_1.out (by repeat (first | (with_reducible first | exact HB.out | apply qbA | apply qbN | apply qbD | refine qbS ?_ GE101.out | refine qbS ?_ GE105.out | refine qbS ?_ GE110.out) | exact HB.out))) | with_reducible first | refine Kd.C_alloc ?_ _ | refine Kd.C_drewN ?_ _ | refine Kd.C_drew ?_)) : P := h
theorem qa69 {P : Prop} (h : P := by rw [hg]; exact Nat.ne_of_lt (blk_lt (g := gb101) (o := .cells #[.slice A0_0 l0_0.length c0_0] 24 (0, 0)) (by (with_reducible repeat (first | refine qkN ?_ _ | refine qkD ?_ | refine qkA ?_ _)); exact BK101.out))) : P := h
theorem qa70 {P : Prop} (h : P := by repeat (first | (with_reducible first | exact HB.out | apply qbA | apply qbN | apply qbD | refine qbS ?_ GE101.out | refine qbS ?_ GE111.out) | exact HB.out)) : P := h
theorem qa71 {P : Prop} (h : P := by exact Kd.C_below HR109_1.out (by repeat (first | (with_reducible first | exact HB.out | apply qbA | apply qbN | apply qbD | refine qbS ?_ GE101.out | refine qbS ?_ GE105.out | refine qbS ?_ GE110.out) | exact HB.out))) : P := h
theorem qa72 {P : Prop} (h : P := by rw [hg]; exact Nat.ne_of_lt (blk_lt (g := gb101) (o := .cells #[.string a0_0, .bool a0_1] 60 (0, 0)) (by (with_reducible repeat (first | refine qkN ?_ _ | refine qkD ?_ | refine qkA ?_ _)); exact BK101.out))) : P := h
theorem qa73 {P : Prop} (h : P := by have := HJ1.out; have := HK2.out; have := HJ12.out; have := HK4.out; first | omega | exact Nat.le_refl _) : P := h
theorem qa74 {P : Prop} (h : P := by exact Kd.C_below HR0_0.out (by repeat (first | (with_reducible first | exact HB.out | apply qbA | apply qbN | apply qbD | refine qbS ?_ GE101.out | refine qbS ?_ GE105.out | refine qbS ?_ GE110.out) | exact HB.out))) : P := h
theorem qa75 {P : Prop} (h : P := by repeat (first | exact (Kd.C_below HR0_0.out (by repeat (first | (with_reducible first | exact HB.out | apply qbA | apply qbN | apply qbD | refine qbS ?_ GE101.out | refine qbS ?_ GE102.out) | exact HB.out))) | with_reducible first | refine Kd.C_alloc ?_ _ | refine Kd.C_drewN ?_ _ | refine Kd.C_drew ?_)) : P := h
theorem qa76 {P : Prop} (h : P := by simp) : P := h
theorem qa77 {P : Prop} (h : P := by repeat (first | exact (Kd.C_below HR104_1.out HB.out) | with_reducible first | refine Kd.C_alloc ?_ _ | refine Kd.C_drewN ?_ _ | refine Kd.C_drew ?_)) : P := h
theorem qa78 {P : Prop} (h : P := by repeat (first | exact (Kd.C_below HR102_1.out HB.out) | with_reducible first | refine Kd.C_alloc ?_ _ | refine Kd.C_drewN ?_ _ | refine Kd.C_drew ?_)) : P := h
theorem qa79 {P : Prop} (h : P := by repeat (first | (with_reducible first | exact HB.out | apply qbA | apply qbN | apply qbD | refine qbS ?_ GE101.out | refine qbS ?_ GE108.out | refine qbS ?_ GE125.out) | exact HB.out)) : P := h
theorem qa80 {P : Prop} (h : P := by rw [hg]; exact Nat.ne_of_lt (blk_lt (g := gb101) (o := .cells #[.string a0_0, .slice (some ad132) l0_1.length c0_1, .string a0_2, .bool a0_3, .bool a0_4] 47 (0, 0)) (by (with_reducible repeat (first | refine qkN ?_ _ | refine qkD ?_ | refine qkA ?_ _)); exact BK101.out))) : P := h
theorem qa81 {P : Prop} (h : P := by have := HJ1.out; have := HK2.out; first | omega | exact Nat.le_refl _) : P := h
theorem qa82 {P : Prop} (h : P := by repeat (first | exact (Kd.C_below HR0_0.out (by repeat (first | (with_reducible first | exact HB.out | apply qbA | apply qbN | apply qbD | refine qbS ?_ GE101.out) | exact HB.out))) | with_reducible first | refine Kd.C_alloc ?_ _ | refine Kd.C_drewN ?_ _ | refine Kd.C_drew ?_)) : P := h
theorem qa83 {P : Prop} (h : P := by rw [hg]; exact Nat.ne_of_lt (blk_lt (g := gb101) (o := .cells #[.string a0_0, .slice A0_1 l0_1.length c0_1, .string a0_2, .bool a0_3, .bool a0_4] 91 (0, 0)) (by (with_reducible repeat (first | refine qkN ?_ _ | refine qkD ?_ | refine qkA ?_ _)); exact BK101.out))) : P := h
theorem qa84 {P : Prop} (h : P := by (with_reducible repeat (first | apply Kd.R_alloc | apply Kd.R_drewN | apply Kd.R_drew)); exact HO105.out) : P := h
theorem qa85 {P : Prop} (h : P := by exact (below_size (by repeat (first | (with_reducible first | exact HB.out | apply qbA | apply qbN | apply qbD | refine qbS ?_ GE101.out | refine qbS ?_ GE133.out) | exact HB.out)))) : P := h
theorem qa86 {P : Prop} (h : P := by (with_reducible repeat (first | refine qkN ?_ _ | refine qkD ?_ | refine qkA ?_ _)); exact BK133.out) : P := h
theorem qa87 {P : Prop} (h : P := by exact (by repeat (first | (with_reducible first | exact HB.out | apply qbA | apply qbN | apply qbD | refine qbS ?_ GE101.out | refine qbS ?_ GE133.out) | exact HB.out))) : P := h
theorem qa88 {P : Prop} (h : P := by first | omega | exact Nat.le_refl _) : P := h
theorem qa89 {P : Prop} (h : P := by rw [hg]; exact Nat.ne_of_lt (blk_lt (g := gb101) (o := .cells #[.string a0_0, .slice A0_1 l0_1.length c0_1] 54 (0, 0)) (by (with_reducible repeat (first | refine qkN ?_ _ | refine qkD ?_ | refine qkA ?_ _)); exact BK101.out))) : P := h
theorem qa90 {P : Prop} (h : P := by (with_reducible repeat (first | refine qkN ?_ _ | refine qkD ?_ | refine qkA ?_ _)); refine blk_far ?_ NB101_103.out _; (with_reducible repeat (first | refine qkN ?_ _ | refine qkD ?_ | refine qkA ?_ _)); exact BK101.out) : P := h
theorem qa91 {P : Prop} (h : P := by (with_reducible repeat (first | refine qkN ?_ _ | refine qkD ?_ | refine qkA ?_ _)); refine blk_far ?_ NB102_103.out _; (with_reducible repeat (first | refine qkN ?_ _ | refine qkD ?_ | refine qkA ?_ _)); exact BK102.out) : P := h
theorem qa92 {P : Prop} (h : P := by exact (fun k_ hk => Kd.fresh' (Kd.R_lt (by (with_reducible repeat (first | apply Kd.R_alloc | apply Kd.R_drewN | apply Kd.R_drew)); exact HO145.out)) k_ hk)) : P := h
theorem qa93 {P : Prop} (h : P := by rw [hg]; exact Nat.ne_of_lt (blk_lt (g := gb101) (o := .cells #[.slice (some ad107) l0_0.length c0_0] 30 (0, 0)) (by (with_reducible repeat (first | refine qkN ?_ _ | refine qkD ?_ | refine qkA ?_ _)); exact BK101.out))) : P := h
theorem qa94 {P : Prop} (h : P := by (with_reducible repeat (first | apply Kd.R_alloc | apply Kd.R_drewN | apply Kd.R_drew)); exact HO145.out) : P := h
theorem qa95 {P : Prop} (h : P := by rw [hg]; exact Nat.ne_of_lt (blk_lt (g := gb101) (o := .cells #[.string a0_0, .bool a0_1] 105 (0, 0)) (by (with_reducible repeat (first | refine qkN ?_ _ | refine qkD ?_ | refine qkA ?_ _)); exact BK101.out))) : P := h
theorem qa96 {P : Prop} (h : P := by exact Kd.C_below HR0_1.out (by repeat (first | (with_reducible first | exact HB.out | apply qbA | apply qbN | apply qbD | refine qbS ?_ GE101.out | refine qbS ?_ GE102.out | refine qbS ?_ GE103.out) | exact HB.out))) : P := h
theorem qa97 {P : Prop} (h : P := by exact Kd.C_below HR1_1.out (by repeat (first | (with_reducible first | exact HB.out | apply qbA | apply qbN | apply qbD | refine qbS ?_ GE101.out | refine qbS ?_ GE102.out | refine qbS ?_ GE106.out) | exact HB.out))) : P := h
theorem qa98 {P : Prop} (h : P := by (with_reducible repeat (first | apply Kd.R_alloc | apply Kd.R_drewN | apply Kd.R_drew)); exact Kd.R_mono HO_3.out (fun _ hk => trivial)) : P := h
theorem qa99 {P : Prop} (h : P := by have := HK1.out; omega) : P := h
theorem qa100 {P : Prop} (h : P := by rw [hg]; exact (below_size (by repeat (first | (with_reducible first | exact HB.out | apply qbA | apply qbN | apply qbD | refine qbS ?_ GE101.out | refine qbS ?_ GE105.out) | exact HB.out)))) : P := h
theorem qa101 {P : Prop} (h : P := by rintro w' ⟨s0, s1, s2, s3⟩; go_simp; with_reducible rfl) : P := h
theorem qa102 {P : Prop} (h : P := by simp only [List.length_append, List.length_cons, List.length_nil]; omega) : P := h
theorem qa103 {P : Prop} (h : P := by rintro w' ⟨s0, s1, s2, s3, s4, s5, s6⟩; go_simp; with_reducible rfl) : P := h
theorem qa104 {P : Prop} (h : P := by exact (below_size (by repeat (first | (with_reducible first | exact HB.out | apply qbA | apply qbN | apply qbD | refine qbS ?_ GE101.out | refine qbS ?_ GE108.out) | exact HB.out)))) : P := h
theorem qa105 {P : Prop} (h : P := by (with_reducible repeat (first | apply Kd.R_alloc | apply Kd.R_drewN | apply Kd.R_drew)); exact HO_112000.out) : P := h
theorem qa106 {P : Prop} (h : P := by exact (by repeat (first | (with_reducible first | exact HB.out | apply qbA | apply qbN | apply qbD | refine qbS ?_ GE101.out | refine qbS ?_ GE108.out) | exact HB.out))) : P := h
theorem qa107 {P : Prop} (h : P := by exact (by (with_reducible repeat (first | apply Kd.R_alloc | apply Kd.R_drewN | apply Kd.R_drew)); exact HO107.out)) : P := h
theorem qa108 {P : Prop} (h : P := by exact (by (with_reducible repeat (first | apply Kd.R_alloc | apply Kd.R_drewN | apply Kd.R_drew)); exact HO_3.out)) : P := h
theorem qa109 {P : Prop} (h : P := by (with_reducible repeat (first | apply Kd.R_alloc | apply Kd.R_drewN | apply Kd.R_drew)); exact HO103.out) : P := h
theorem qa110 {P : Prop} (h : P := by (with_reducible repeat (first | apply Kd.S_alloc | apply Kd.S_drewN | apply Kd.S_drew)); exact HO_3.out) : P := h
theorem qa111 {P : Prop} (h : P := by exact (fun k_ hk => Kd.fresh' (Kd.R_lt (by (with_reducible repeat (first | apply Kd.R_alloc | apply Kd.R_drewN | apply Kd.R_drew)); exact HO128.out)) k_ hk)) : P := h
theorem qa112 {P : Prop} (h : P := by rintro w' ⟨s0, s1, s2, s3, s4, s5, s6, s7, s8, s9⟩; go_simp; with_reducible rfl) : P := h
theorem qa113 {P : Prop} (h : P := by repeat (first | exact (Kd.C_below HR112_1.out HB.out) | with_reducible first | refine Kd.C_alloc ?_ _ | refine Kd.C_drewN ?_ _ | refine Kd.C_drew ?_)) : P := h
theorem qa114 {P : Prop} (h : P := by repeat (first | exact (Kd.C_below HR1_0.out HB.out) | with_reducible first | refine Kd.C_alloc ?_ _ | refine Kd.C_drewN ?_ _ | refine Kd.C_drew ?_)) : P := h
theorem qa115 {P : Prop} (h : P := by repeat (first | exact (Kd.R_reads' HO145.out).2.2 | with_reducible first | refine Kd.C_alloc ?_ _ | refine Kd.C_drewN ?_ _ | refine Kd.C_drew ?_)) : P := h
theorem qa116 {P : Prop} (h : P := by repeat (first | exact (Kd.R_reads' HO128.out).2.2 | with_reducible first | refine Kd.C_alloc ?_ _ | refine Kd.C_drewN ?_ _ | refine Kd.C_drew ?_)) : P := h
theorem qa117 {P : Prop} (h : P := by (with_reducible repeat (first | apply Kd.R_alloc | apply Kd.R_drewN | apply Kd.R_drew)); exact Kd.R_mono HO131.out (fun _ hk => trivial)) : P := h
theorem qa118 {P : Prop} (h : P := by (with_reducible repeat (first | apply Kd.R_alloc | apply Kd.R_drewN | apply Kd.R_drew)); exact Kd.R_mono HO110.out (fun _ hk => trivial)) : P := h
theorem qa119 {P : Prop} (h : P := by repeat (first | exact (Kd.R_reads' HO_3.out).2.2 | with_reducible first | refine Kd.C_alloc ?_ _ | refine Kd.C_drewN ?_ _ | refine Kd.C_drew ?_)) : P := h
theorem qa120 {P : Prop} (h : P := by exact (by (with_reducible repeat (first | apply Kd.R_alloc | apply Kd.R_drewN | apply Kd.R_drew)); exact Kd.R_mono HO_3.out (fun _ hk => hk.2))) : P := h
theorem qa121 {P : Prop} (h : P := by exact (by (with_reducible repeat (first | apply Kd.R_alloc | apply Kd.R_drewN | apply Kd.R_drew)); exact Kd.R_mono HO_4.out (fun _ hk => hk.2))) : P := h
theorem qa122 {P : Prop} (h : P := by repeat (first | (with_reducible first | exact HB.out | apply qbA | apply qbN | apply qbD | refine qbS ?_ GE105.out) | exact HB.out)) : P := h
theorem qa123 {P : Prop} (h : P := by have := HK1.out; have := HK2.out; have := HK3.out; omega) : P := h
theorem qa124 {P : Prop} (h : P := by have := HJ1.out; have := HK2.out; have := HJ12.out; have := HK4.out; have := HJ39.out; have := HK6.out; omega) : P := h
theorem qa125 {P : Prop} (h : P := by (with_reducible repeat (first | apply Kd.R_alloc | apply Kd.R_drewN | apply Kd.R_drew)); exact HO119.out) : P := h
theorem qa126 {P : Prop} (h : P := by (with_reducible repeat (first | apply Kd.R_alloc | apply Kd.R_drewN | apply Kd.R_drew)); exact HO125.out) : P := h
theorem qa127 {P : Prop} (h : P := by (with_reducible repeat (first | apply Kd.R_alloc | apply Kd.R_drewN | apply Kd.R_drew)); exact HO128.out) : P := h
theorem qa128 {P : Prop} (h : P := by (with_reducible repeat (first | apply Kd.R_alloc | apply Kd.R_drewN | apply Kd.R_drew)); exact HO160.out) : P := h
theorem qa129 {P : Prop} (h : P := by (with_reducible repeat (first | apply Kd.R_alloc | apply Kd.R_drewN | apply Kd.R_drew)); exact HO110.out) : P := h
theorem qa130 {P : Prop} (h : P := by rintro w' ⟨s0, s1, s2, s3, s4⟩; go_simp; with_reducible rfl) : P := h
theorem qa131 {P : Prop} (h : P := by (with_reducible repeat (first | refine qkN ?_ _ | refine qkD ?_ | refine qkA ?_ _)); exact BK111.out) : P := h
theorem qa132 {P : Prop} (h : P := by rintro e w' ⟨rfl, h2⟩; exact ⟨rfl, below_step hb h2⟩) : P := h
theorem qa133 {P : Prop} (h : P := by have := HJ1.out; have := HK2.out; have := HJ14.out; have := HK4.out; omega) : P := h
theorem qa134 {P : Prop} (h : P := by simp [words, tokTy, nameT, punctT, lit_toList]) : P := h
theorem qa135 {P : Prop} (h : P := by simp only [ByteArray.size_append, s2]; omega) : P := h
theorem qa136 {P : Prop} (h : P := by simp; omega) : P := h
theorem qa137 {P : Prop} (h : P := by exact (fun _ _ => trivial)) : P := h
theorem qa138 {P : Prop} (h : P := by rw [decide_eq_false c6]; simp) : P := h
theorem qa139 {P : Prop} (h : P := by rintro w' ⟨s0, s1⟩; go_simp; with_reducible rfl) : P := h
theorem qa140 {P : Prop} (h : P := by have := HK1.out; have := HK2.out; omega) : P := h
end Go.Proofs.YtoogmlghfljeiaaDoor.Q
namespace Go.Proofs.YtoogmlghfljeiaaDoor.Q
open Go.RowKit Go.Proofs.YtoogmlghfljeiaaDoorW.PrintWords Go.Proofs.YtoogmlghfljeiaaDoorW.PrintLast Go.Proofs.YtoogmlghfljeiaaDoorW.PrintMore
attribute [local go_sem] max2_int min2_int max_two min_two max_three min_three max_four min_four
set_option linter.unusedVariables false
set_option linter.unusedSimpArgs false

def laws_szArgDef.f (a0_0 : ByteArray) (a0_1 : Bool) (a1 : Int) : Option (Int) := if (wrap64 (a1 - (a0_0.size : Int))) < 0 then (some (-1)) else (some (wrap64 (a1 - (a0_0.size : Int))))
set_option maxHeartbeats 8000000 in
set_option maxRecDepth 100000 in
theorem laws_szArgDef.calls (a0_0 : ByteArray) (a0_1 : Bool) (a1 : Int) (r : Int) (w : World) (h : laws_szArgDef.f a0_0 a0_1 a1 = some r) :
  Calls Tryd.prog 69 #[.agg #[.string a0_0, .bool a0_1], .int .i64 a1] w fun e w' => e = .returned (.int .i64 r) ∧ Below w.heap.size w w' := by
 have hu105 := Tryd.underlying105; have HB := qO (Below.refl w.heap.size w); have H : (if (wrap64 (a1 - (a0_0.size : Int))) < 0 then (some (-1)) else (some (wrap64 (a1 - (a0_0.size : Int))))) = some r := h; clear h
 by_cases c3 : (wrap64 (a1 - (a0_0.size : Int))) < 0
 ·rw [if_pos c3] at H
  have c3b0 : decide ((wrap64 (a1 - (a0_0.size : Int))) < 0) = true := decide_eq_true c3; clear c3; obtain rfl := Option.some.inj H
  go_enter Tryd.func69, Tryd.ntmps69
  go_wp2_with (first | ((with_reducible refine gate_dst (N := 2) rfl ?_); refine box_event ?hg (N := 2) ?hd (cs := #[.string a0_0, .bool a0_1]) (t := 105) ?hr ?_; (case hd => rfl); (case hg => rfl); (case hr => exact qa18); intro gb101 hg w4 hbox hb; have hx_ := qHX HB hb qa1; have n0_ := qO (below_step (below_step HB.out hx_) hb); have n1_ := qO (hbox); have n2_ := qO ((qa14 : w.heap.size ≤ gb101)); have n3_ := n2_; clear HB; have HB := n0_; have BK101 := n1_; have GW101 := n2_; have GE101 := n3_; clear n0_ n1_ n2_ n3_; clear hx_; clear hb hbox hg; have hcz5_0 : w4.cell? ⟨gb101, 0, none⟩ = some (.string a0_0) := (blk_cell BK101.out 0).trans rfl; have hcz5_1 : w4.cell? ⟨gb101, 1, none⟩ = some (.bool a0_1) := (blk_cell BK101.out 1).trans rfl; have hfz5_0 := blk_frozen BK101.out 0; have hfz5_1 := blk_frozen BK101.out 1))
  go_ret
  exact ⟨qa5, qa2⟩
 ·rw [if_neg c3] at H
  have c3b0 : decide ((wrap64 (a1 - (a0_0.size : Int))) < 0) = false := decide_eq_false c3; clear c3; obtain rfl := Option.some.inj H
  go_enter Tryd.func69, Tryd.ntmps69
  go_wp2_with (first | ((with_reducible refine gate_dst (N := 2) rfl ?_); refine box_event ?hg (N := 2) ?hd (cs := #[.string a0_0, .bool a0_1]) (t := 105) ?hr ?_; (case hd => rfl); (case hg => rfl); (case hr => exact qa18); intro gb101 hg w6 hbox hb; have hx_ := qHX HB hb qa1; have n0_ := qO (below_step (below_step HB.out hx_) hb); have n1_ := qO (hbox); have n2_ := qO ((qa14 : w.heap.size ≤ gb101)); have n3_ := n2_; clear HB; have HB := n0_; have BK101 := n1_; have GW101 := n2_; have GE101 := n3_; clear n0_ n1_ n2_ n3_; clear hx_; clear hb hbox hg; have hcz7_0 : w6.cell? ⟨gb101, 0, none⟩ = some (.string a0_0) := (blk_cell BK101.out 0).trans rfl; have hcz7_1 : w6.cell? ⟨gb101, 1, none⟩ = some (.bool a0_1) := (blk_cell BK101.out 1).trans rfl; have hfz7_0 := blk_frozen BK101.out 0; have hfz7_1 := blk_frozen BK101.out 1))
  go_ret
  exact ⟨qa5, qa2⟩


def laws_szArgDefS.l0 : Nat → List (S105) → Int → Int → Option (Int)
 | 0, _, _, _ => none
 | k + 1, x0, x1, x5 => if x5 < (x0.length : Int) then (if 0 ≤ x5 then ((laws_szArgDef.f ((rd_T105 x0 x5).f0) ((rd_T105 x0 x5).f1) x1).bind fun t102 => (if t102 < 0 then (some (-1)) else (laws_szArgDefS.l0 k x0 t102 (wrap64 (x5 + 1))))) else (none)) else (some x1)
def laws_szArgDefS.f (k : Nat) (l0 : List (S105)) (a1 : Int) : Option (Int) := if (wrap64 (a1 - (l0.length : Int))) < 0 then (some (-1)) else (laws_szArgDefS.l0 k l0 (wrap64 (a1 - (l0.length : Int))) 0)
set_option maxHeartbeats 8000000 in
set_option maxRecDepth 100000 in
theorem laws_szArgDefS.calls (k : Nat) (A0 : Option Addr) (c0 : Nat) (l0 : List (S105)) (a1 : Int) (r : Int) (w : World) (hr0 : Kd.C k105 w A0 l0.length l0) (hc0 : l0.length ≤ c0) (h : laws_szArgDefS.f k l0 a1 = some r) :
  Calls Tryd.prog 63 #[.slice A0 l0.length c0, .int .i64 a1] w fun e w' => e = .returned (.int .i64 r) ∧ Below w.heap.size w w' := by
 have hu105 := Tryd.underlying105; have HR0 := qO hr0; have HC0 := qO hc0; clear hr0 hc0; have HB := qO (Below.refl w.heap.size w); have H : (if (wrap64 (a1 - (l0.length : Int))) < 0 then (some (-1)) else (laws_szArgDefS.l0 k l0 (wrap64 (a1 - (l0.length : Int))) 0)) = some r := h; clear h
 by_cases c3 : (wrap64 (a1 - (l0.length : Int))) < 0
 ·rw [if_pos c3] at H
  have c3b0 : decide ((wrap64 (a1 - (l0.length : Int))) < 0) = true := decide_eq_true c3; clear c3; obtain rfl := Option.some.inj H
  go_enter Tryd.func63, Tryd.ntmps63
  go_wp2
  go_ret
  exact ⟨qa5, qa11⟩
 ·rw [if_neg c3] at H
  have c3b0 : decide ((wrap64 (a1 - (l0.length : Int))) < 0) = false := decide_eq_false c3; clear c3; have H' := qO H; clear H
  go_enter Tryd.func63, Tryd.ntmps63
  go_wp2
  go_loopg [1, 5] k (fun kq v1 v5 w' => ∃ (x1_1 : Int) (x5_1 : Int), v1 = .int .i64 x1_1 ∧ v5 = .int .i64 x5_1 ∧ Aside0 (laws_szArgDefS.l0 kq l0 x1_1 x5_1 = some r) ∧ Aside0 (kq ≤ k) ∧ Aside0 (Below w.heap.size w w'))
  case atStart => exact ⟨(wrap64 (a1 - (l0.length : Int))), (0), qa10, qa10, H', ⟨Nat.le_refl _⟩, ⟨qa11⟩⟩
  case round =>
   clear H'
   try clear p2
   try clear c3
   try clear c3b0
   obtain ⟨x1_1, x5_1, rfl, rfl, HA, HK1, HB⟩ := hrel
   cases gk with
   | zero => exact absurd HA.out (by simp [laws_szArgDefS.l0])
   | succ k1 =>
    have H := HA.out; clear HA; simp only [laws_szArgDefS.l0] at H
    by_cases c4 : x5_1 < (l0.length : Int)
    ·rw [if_pos c4] at H
     have c4b0 : decide (x5_1 < (l0.length : Int)) = true := decide_eq_true c4; clear c4
     by_cases c5 : 0 ≤ x5_1
     ·rw [if_pos c5] at H
      have c5b0 : decide (0 ≤ x5_1) = true := decide_eq_true c5; clear c5; replace H := Option.bind_eq_some_iff.mp H; obtain ⟨t102, A60, H⟩ := H; replace H : (if t102 < 0 then (some (-1)) else (laws_szArgDefS.l0 k1 l0 t102 (wrap64 (x5_1 + 1)))) = some r := H; have A6 := qO A60; clear A60
      by_cases c7 : t102 < 0
      ·rw [if_pos c7] at H
       have c7b0 : decide (t102 < 0) = true := decide_eq_true c7; clear c7; obtain rfl := Option.some.inj H; have p101 : 0 ≤ (x5_1 : Int) := qT qa6; have q101 : x5_1 < (l0.length : Int) := qT qa6; obtain ⟨ad101, e101, hx101_0, hx101_1⟩ := at_T105 HR0.out x5_1 p101 q101
       cases e101
       replace hx101_0 := (HB.out.cell (qL w _ hx101_0)).trans hx101_0; replace hx101_1 := (HB.out.cell (qL w _ hx101_1)).trans hx101_1; replace p101 := eq_true p101; replace q101 := eq_true q101
       go_wp2_with (first | ((with_reducible refine gate_callee (f := 69) rfl ?_); refine goesL_ (some 23) rfl rfl Tryd.func69 qa16 rfl #[.agg #[.string ((rd_T105 l0 x5_1).f0), .bool ((rd_T105 l0 x5_1).f1)], .int .i64 x1_1] rfl qa0 ?_; (with_reducible refine (laws_szArgDef.calls ((rd_T105 l0 x5_1).f0) ((rd_T105 l0 x5_1).f1) x1_1 t102 _ A6.out).mono ?_); rintro e w8 ⟨rfl, hb⟩; have hx_ := qHX HB hb qa1; refine ⟨_, rfl, ?_⟩; have n0_ := qO (below_step (below_step HB.out hx_) hb); clear HB; have HB := n0_; clear n0_; clear hx_; (try clear hb); (try clear hb2); (try clear hk); (try clear hi)))
       go_ret
       exact ⟨qa5, qa11⟩
      ·rw [if_neg c7] at H
       have c7b0 : decide (t102 < 0) = false := decide_eq_false c7; clear c7; have H' := qO H; clear H; have p101 : 0 ≤ (x5_1 : Int) := qT qa6; have q101 : x5_1 < (l0.length : Int) := qT qa6; obtain ⟨ad101, e101, hx101_0, hx101_1⟩ := at_T105 HR0.out x5_1 p101 q101
       cases e101
       replace hx101_0 := (HB.out.cell (qL w _ hx101_0)).trans hx101_0; replace hx101_1 := (HB.out.cell (qL w _ hx101_1)).trans hx101_1; replace p101 := eq_true p101; replace q101 := eq_true q101
       go_wp2_with (first | ((with_reducible refine gate_callee (f := 69) rfl ?_); refine goesL_ (some 23) rfl rfl Tryd.func69 qa16 rfl #[.agg #[.string ((rd_T105 l0 x5_1).f0), .bool ((rd_T105 l0 x5_1).f1)], .int .i64 x1_1] rfl qa0 ?_; (with_reducible refine (laws_szArgDef.calls ((rd_T105 l0 x5_1).f0) ((rd_T105 l0 x5_1).f1) x1_1 t102 _ A6.out).mono ?_); rintro e w9 ⟨rfl, hb⟩; have hx_ := qHX HB hb qa1; refine ⟨_, rfl, ?_⟩; have n0_ := qO (below_step (below_step HB.out hx_) hb); clear HB; have HB := n0_; clear n0_; clear hx_; (try clear hb); (try clear hb2); (try clear hk); (try clear hi)))
       go_roundg k1
       case measure => have := HK1.out; omega
       case rel => exact ⟨(t102), (wrap64 (x5_1 + 1)), qa10, qa10, H', ⟨qa99⟩, ⟨qa11⟩⟩
     ·rw [if_neg c5] at H
      exact absurd H qa76
    ·rw [if_neg c4] at H
     have c4b0 : decide (x5_1 < (l0.length : Int)) = false := decide_eq_false c4; clear c4; obtain rfl := Option.some.inj H; go_wp2
     go_ret
     exact ⟨qa5, qa11⟩


def laws_szFieldDef.f (k : Nat) (a0_0 : ByteArray) (l0_1 : List (S105)) (a0_2 : ByteArray) (a0_3 : Bool) (a0_4 : Bool) (a1 : Int) : Option (Int) := if (wrap64 (a1 - (a0_0.size : Int))) < 0 then (some (-1)) else ((laws_szArgDefS.f k l0_1 (wrap64 (a1 - (a0_0.size : Int)))).bind fun t102 => (if t102 < 0 then (some (-1)) else (if (wrap64 (t102 - (a0_2.size : Int))) < 0 then (some (-1)) else (some (wrap64 (t102 - (a0_2.size : Int)))))))
set_option maxHeartbeats 8000000 in
set_option maxRecDepth 100000 in
theorem laws_szFieldDef.calls (k : Nat) (a0_0 : ByteArray) (A0_1 : Option Addr) (c0_1 : Nat) (l0_1 : List (S105)) (a0_2 : ByteArray) (a0_3 : Bool) (a0_4 : Bool) (a1 : Int) (r : Int) (w : World) (hr0_1 : Kd.C k105 w A0_1 l0_1.length l0_1) (hc0_1 : l0_1.length ≤ c0_1) (h : laws_szFieldDef.f k a0_0 l0_1 a0_2 a0_3 a0_4 a1 = some r) :
  Calls Tryd.prog 53 #[.agg #[.string a0_0, .slice A0_1 l0_1.length c0_1, .string a0_2, .bool a0_3, .bool a0_4], .int .i64 a1] w fun e w' => e = .returned (.int .i64 r) ∧ Below w.heap.size w w' := by
 have hu91 := Tryd.underlying91; have HR0_1 := qO hr0_1; have HC0_1 := qO hc0_1; clear hr0_1 hc0_1; have HB := qO (Below.refl w.heap.size w); have H : (if (wrap64 (a1 - (a0_0.size : Int))) < 0 then (some (-1)) else ((laws_szArgDefS.f k l0_1 (wrap64 (a1 - (a0_0.size : Int)))).bind fun t102 => (if t102 < 0 then (some (-1)) else (if (wrap64 (t102 - (a0_2.size : Int))) < 0 then (some (-1)) else (some (wrap64 (t102 - (a0_2.size : Int)))))))) = some r := h; clear h
 by_cases c3 : (wrap64 (a1 - (a0_0.size : Int))) < 0
 ·rw [if_pos c3] at H
  have c3b0 : decide ((wrap64 (a1 - (a0_0.size : Int))) < 0) = true := decide_eq_true c3; clear c3; obtain rfl := Option.some.inj H
  go_enter Tryd.func53, Tryd.ntmps53
  go_wp2_with (first | ((with_reducible refine gate_dst (N := 2) rfl ?_); refine box_event ?hg (N := 2) ?hd (cs := #[.string a0_0, .slice A0_1 l0_1.length c0_1, .string a0_2, .bool a0_3, .bool a0_4]) (t := 91) ?hr ?_; (case hd => rfl); (case hg => rfl); (case hr => exact qa18); intro gb101 hg w4 hbox hb; have hx_ := qHX HB hb qa1; have n0_ := qO (below_step (below_step HB.out hx_) hb); have n1_ := qO (hbox); have n2_ := qO ((qa14 : w.heap.size ≤ gb101)); have n3_ := n2_; clear HB; have HB := n0_; have BK101 := n1_; have GW101 := n2_; have GE101 := n3_; clear n0_ n1_ n2_ n3_; clear hx_; clear hb hbox hg; have hcz5_0 : w4.cell? ⟨gb101, 0, none⟩ = some (.string a0_0) := (blk_cell BK101.out 0).trans rfl; have hcz5_1 : w4.cell? ⟨gb101, 1, none⟩ = some (.slice A0_1 l0_1.length c0_1) := (blk_cell BK101.out 1).trans rfl; have hcz5_2 : w4.cell? ⟨gb101, 2, none⟩ = some (.string a0_2) := (blk_cell BK101.out 2).trans rfl; have hcz5_3 : w4.cell? ⟨gb101, 3, none⟩ = some (.bool a0_3) := (blk_cell BK101.out 3).trans rfl; have hcz5_4 : w4.cell? ⟨gb101, 4, none⟩ = some (.bool a0_4) := (blk_cell BK101.out 4).trans rfl; have hfz5_0 := blk_frozen BK101.out 0; have hfz5_1 := blk_frozen BK101.out 1; have hfz5_2 := blk_frozen BK101.out 2; have hfz5_3 := blk_frozen BK101.out 3; have hfz5_4 := blk_frozen BK101.out 4))
  go_ret
  exact ⟨qa5, qa2⟩
 ·rw [if_neg c3] at H
  have c3b0 : decide ((wrap64 (a1 - (a0_0.size : Int))) < 0) = false := decide_eq_false c3; clear c3; replace H := Option.bind_eq_some_iff.mp H; obtain ⟨t102, A60, H⟩ := H; replace H : (if t102 < 0 then (some (-1)) else (if (wrap64 (t102 - (a0_2.size : Int))) < 0 then (some (-1)) else (some (wrap64 (t102 - (a0_2.size : Int)))))) = some r := H; have A6 := qO A60; clear A60
  by_cases c7 : t102 < 0
  ·rw [if_pos c7] at H
   have c7b0 : decide (t102 < 0) = true := decide_eq_true c7; clear c7; obtain rfl := Option.some.inj H
   go_enter Tryd.func53, Tryd.ntmps53
   go_wp2_with (first | ((with_reducible refine gate_dst (N := 2) rfl ?_); refine box_event ?hg (N := 2) ?hd (cs := #[.string a0_0, .slice A0_1 l0_1.length c0_1, .string a0_2, .bool a0_3, .bool a0_4]) (t := 91) ?hr ?_; (case hd => rfl); (case hg => rfl); (case hr => exact qa18); intro gb101 hg w8 hbox hb; have hx_ := qHX HB hb qa1; have n0_ := qO (below_step (below_step HB.out hx_) hb); have n1_ := qO (hbox); have n2_ := qO ((qa14 : w.heap.size ≤ gb101)); have n3_ := n2_; clear HB; have HB := n0_; have BK101 := n1_; have GW101 := n2_; have GE101 := n3_; clear n0_ n1_ n2_ n3_; clear hx_; clear hb hbox hg; have hcz9_0 : w8.cell? ⟨gb101, 0, none⟩ = some (.string a0_0) := (blk_cell BK101.out 0).trans rfl; have hcz9_1 : w8.cell? ⟨gb101, 1, none⟩ = some (.slice A0_1 l0_1.length c0_1) := (blk_cell BK101.out 1).trans rfl; have hcz9_2 : w8.cell? ⟨gb101, 2, none⟩ = some (.string a0_2) := (blk_cell BK101.out 2).trans rfl; have hcz9_3 : w8.cell? ⟨gb101, 3, none⟩ = some (.bool a0_3) := (blk_cell BK101.out 3).trans rfl; have hcz9_4 : w8.cell? ⟨gb101, 4, none⟩ = some (.bool a0_4) := (blk_cell BK101.out 4).trans rfl; have hfz9_0 := blk_frozen BK101.out 0; have hfz9_1 := blk_frozen BK101.out 1; have hfz9_2 := blk_frozen BK101.out 2; have hfz9_3 := blk_frozen BK101.out 3; have hfz9_4 := blk_frozen BK101.out 4) | ((with_reducible refine gate_callee (f := 63) rfl ?_); refine goesL_ (some 15) rfl rfl Tryd.func63 qa16 rfl #[.slice A0_1 l0_1.length c0_1, .int .i64 (wrap64 (a1 - (a0_0.size : Int)))] rfl qa0 ?_; (with_reducible refine (laws_szArgDefS.calls k _ _ l0_1 (wrap64 (a1 - (a0_0.size : Int))) t102 _ ?side1 ?side2 A6.out).mono ?_); (case side1 => exact qa26); (case side2 => exact HC0_1.out); rintro e w10 ⟨rfl, hb⟩; have hx_ := qHX HB hb qa1; refine ⟨_, rfl, ?_⟩; have n0_ := qO (qB BK101.out hx_ hb); have n1_ := qO (below_step (below_step HB.out hx_) hb); clear BK101; clear HB; have BK101 := n0_; have HB := n1_; clear n0_ n1_; clear hx_; (try clear hb); (try clear hb2); (try clear hk); (try clear hi)))
   go_ret
   exact ⟨qa5, qa2⟩
  ·rw [if_neg c7] at H
   have c7b0 : decide (t102 < 0) = false := decide_eq_false c7; clear c7
   by_cases c11 : (wrap64 (t102 - (a0_2.size : Int))) < 0
   ·rw [if_pos c11] at H
    have c11b0 : decide ((wrap64 (t102 - (a0_2.size : Int))) < 0) = true := decide_eq_true c11; clear c11; obtain rfl := Option.some.inj H
    go_enter Tryd.func53, Tryd.ntmps53
    go_wp2_with (first | ((with_reducible refine gate_dst (N := 2) rfl ?_); refine box_event ?hg (N := 2) ?hd (cs := #[.string a0_0, .slice A0_1 l0_1.length c0_1, .string a0_2, .bool a0_3, .bool a0_4]) (t := 91) ?hr ?_; (case hd => rfl); (case hg => rfl); (case hr => exact qa18); intro gb101 hg w12 hbox hb; have hx_ := qHX HB hb qa1; have n0_ := qO (below_step (below_step HB.out hx_) hb); have n1_ := qO (hbox); have n2_ := qO ((qa14 : w.heap.size ≤ gb101)); have n3_ := n2_; clear HB; have HB := n0_; have BK101 := n1_; have GW101 := n2_; have GE101 := n3_; clear n0_ n1_ n2_ n3_; clear hx_; clear hb hbox hg; have hcz13_0 : w12.cell? ⟨gb101, 0, none⟩ = some (.string a0_0) := (blk_cell BK101.out 0).trans rfl; have hcz13_1 : w12.cell? ⟨gb101, 1, none⟩ = some (.slice A0_1 l0_1.length c0_1) := (blk_cell BK101.out 1).trans rfl; have hcz13_2 : w12.cell? ⟨gb101, 2, none⟩ = some (.string a0_2) := (blk_cell BK101.out 2).trans rfl; have hcz13_3 : w12.cell? ⟨gb101, 3, none⟩ = some (.bool a0_3) := (blk_cell BK101.out 3).trans rfl; have hcz13_4 : w12.cell? ⟨gb101, 4, none⟩ = some (.bool a0_4) := (blk_cell BK101.out 4).trans rfl; have hfz13_0 := blk_frozen BK101.out 0; have hfz13_1 := blk_frozen BK101.out 1; have hfz13_2 := blk_frozen BK101.out 2; have hfz13_3 := blk_frozen BK101.out 3; have hfz13_4 := blk_frozen BK101.out 4) | ((with_reducible refine gate_callee (f := 63) rfl ?_); refine goesL_ (some 15) rfl rfl Tryd.func63 qa16 rfl #[.slice A0_1 l0_1.length c0_1, .int .i64 (wrap64 (a1 - (a0_0.size : Int)))] rfl qa0 ?_; (with_reducible refine (laws_szArgDefS.calls k _ _ l0_1 (wrap64 (a1 - (a0_0.size : Int))) t102 _ ?side1 ?side2 A6.out).mono ?_); (case side1 => exact qa26); (case side2 => exact HC0_1.out); rintro e w14 ⟨rfl, hb⟩; have hx_ := qHX HB hb qa1; refine ⟨_, rfl, ?_⟩; have n0_ := qO (qB BK101.out hx_ hb); have n1_ := qO (below_step (below_step HB.out hx_) hb); clear BK101; clear HB; have BK101 := n0_; have HB := n1_; clear n0_ n1_; clear hx_; (try clear hb); (try clear hb2); (try clear hk); (try clear hi); have hcz15_0 : w14.cell? ⟨gb101, 0, none⟩ = some (.string a0_0) := (blk_cell BK101.out 0).trans rfl; have hcz15_1 : w14.cell? ⟨gb101, 1, none⟩ = some (.slice A0_1 l0_1.length c0_1) := (blk_cell BK101.out 1).trans rfl; have hcz15_2 : w14.cell? ⟨gb101, 2, none⟩ = some (.string a0_2) := (blk_cell BK101.out 2).trans rfl; have hcz15_3 : w14.cell? ⟨gb101, 3, none⟩ = some (.bool a0_3) := (blk_cell BK101.out 3).trans rfl; have hcz15_4 : w14.cell? ⟨gb101, 4, none⟩ = some (.bool a0_4) := (blk_cell BK101.out 4).trans rfl; have hfz15_0 := blk_frozen BK101.out 0; have hfz15_1 := blk_frozen BK101.out 1; have hfz15_2 := blk_frozen BK101.out 2; have hfz15_3 := blk_frozen BK101.out 3; have hfz15_4 := blk_frozen BK101.out 4))
    go_ret
    exact ⟨qa5, qa2⟩
   ·rw [if_neg c11] at H
    have c11b0 : decide ((wrap64 (t102 - (a0_2.size : Int))) < 0) = false := decide_eq_false c11; clear c11; obtain rfl := Option.some.inj H
    go_enter Tryd.func53, Tryd.ntmps53
    go_wp2_with (first | ((with_reducible refine gate_dst (N := 2) rfl ?_); refine box_event ?hg (N := 2) ?hd (cs := #[.string a0_0, .slice A0_1 l0_1.length c0_1, .string a0_2, .bool a0_3, .bool a0_4]) (t := 91) ?hr ?_; (case hd => rfl); (case hg => rfl); (case hr => exact qa18); intro gb101 hg w16 hbox hb; have hx_ := qHX HB hb qa1; have n0_ := qO (below_step (below_step HB.out hx_) hb); have n1_ := qO (hbox); have n2_ := qO ((qa14 : w.heap.size ≤ gb101)); have n3_ := n2_; clear HB; have HB := n0_; have BK101 := n1_; have GW101 := n2_; have GE101 := n3_; clear n0_ n1_ n2_ n3_; clear hx_; clear hb hbox hg; have hcz17_0 : w16.cell? ⟨gb101, 0, none⟩ = some (.string a0_0) := (blk_cell BK101.out 0).trans rfl; have hcz17_1 : w16.cell? ⟨gb101, 1, none⟩ = some (.slice A0_1 l0_1.length c0_1) := (blk_cell BK101.out 1).trans rfl; have hcz17_2 : w16.cell? ⟨gb101, 2, none⟩ = some (.string a0_2) := (blk_cell BK101.out 2).trans rfl; have hcz17_3 : w16.cell? ⟨gb101, 3, none⟩ = some (.bool a0_3) := (blk_cell BK101.out 3).trans rfl; have hcz17_4 : w16.cell? ⟨gb101, 4, none⟩ = some (.bool a0_4) := (blk_cell BK101.out 4).trans rfl; have hfz17_0 := blk_frozen BK101.out 0; have hfz17_1 := blk_frozen BK101.out 1; have hfz17_2 := blk_frozen BK101.out 2; have hfz17_3 := blk_frozen BK101.out 3; have hfz17_4 := blk_frozen BK101.out 4) | ((with_reducible refine gate_callee (f := 63) rfl ?_); refine goesL_ (some 15) rfl rfl Tryd.func63 qa16 rfl #[.slice A0_1 l0_1.length c0_1, .int .i64 (wrap64 (a1 - (a0_0.size : Int)))] rfl qa0 ?_; (with_reducible refine (laws_szArgDefS.calls k _ _ l0_1 (wrap64 (a1 - (a0_0.size : Int))) t102 _ ?side1 ?side2 A6.out).mono ?_); (case side1 => exact qa26); (case side2 => exact HC0_1.out); rintro e w18 ⟨rfl, hb⟩; have hx_ := qHX HB hb qa1; refine ⟨_, rfl, ?_⟩; have n0_ := qO (qB BK101.out hx_ hb); have n1_ := qO (below_step (below_step HB.out hx_) hb); clear BK101; clear HB; have BK101 := n0_; have HB := n1_; clear n0_ n1_; clear hx_; (try clear hb); (try clear hb2); (try clear hk); (try clear hi); have hcz19_0 : w18.cell? ⟨gb101, 0, none⟩ = some (.string a0_0) := (blk_cell BK101.out 0).trans rfl; have hcz19_1 : w18.cell? ⟨gb101, 1, none⟩ = some (.slice A0_1 l0_1.length c0_1) := (blk_cell BK101.out 1).trans rfl; have hcz19_2 : w18.cell? ⟨gb101, 2, none⟩ = some (.string a0_2) := (blk_cell BK101.out 2).trans rfl; have hcz19_3 : w18.cell? ⟨gb101, 3, none⟩ = some (.bool a0_3) := (blk_cell BK101.out 3).trans rfl; have hcz19_4 : w18.cell? ⟨gb101, 4, none⟩ = some (.bool a0_4) := (blk_cell BK101.out 4).trans rfl; have hfz19_0 := blk_frozen BK101.out 0; have hfz19_1 := blk_frozen BK101.out 1; have hfz19_2 := blk_frozen BK101.out 2; have hfz19_3 := blk_frozen BK101.out 3; have hfz19_4 := blk_frozen BK101.out 4))
    go_ret
    exact ⟨qa5, qa2⟩


def laws_szFieldDefS.l0 : Nat → List (S91) → Int → Int → Option (Int)
 | 0, _, _, _ => none
 | k + 1, x0, x1, x5 => if x5 < (x0.length : Int) then (if 0 ≤ x5 then ((laws_szFieldDef.f k ((rd_T91 x0 x5).f0) ((rd_T91 x0 x5).f1) ((rd_T91 x0 x5).f2) ((rd_T91 x0 x5).f3) ((rd_T91 x0 x5).f4) x1).bind fun t102 => (if t102 < 0 then (some (-1)) else (laws_szFieldDefS.l0 k x0 t102 (wrap64 (x5 + 1))))) else (none)) else (some x1)
def laws_szFieldDefS.f (k : Nat) (l0 : List (S91)) (a1 : Int) : Option (Int) := if (wrap64 (a1 - (l0.length : Int))) < 0 then (some (-1)) else (laws_szFieldDefS.l0 k l0 (wrap64 (a1 - (l0.length : Int))) 0)
set_option maxHeartbeats 8000000 in
set_option maxRecDepth 100000 in
theorem laws_szFieldDefS.calls (k : Nat) (A0 : Option Addr) (c0 : Nat) (l0 : List (S91)) (a1 : Int) (r : Int) (w : World) (hr0 : Kd.C k91 w A0 l0.length l0) (hc0 : l0.length ≤ c0) (h : laws_szFieldDefS.f k l0 a1 = some r) :
  Calls Tryd.prog 38 #[.slice A0 l0.length c0, .int .i64 a1] w fun e w' => e = .returned (.int .i64 r) ∧ Below w.heap.size w w' := by
 have hu91 := Tryd.underlying91; have HR0 := qO hr0; have HC0 := qO hc0; clear hr0 hc0; have HB := qO (Below.refl w.heap.size w); have H : (if (wrap64 (a1 - (l0.length : Int))) < 0 then (some (-1)) else (laws_szFieldDefS.l0 k l0 (wrap64 (a1 - (l0.length : Int))) 0)) = some r := h; clear h
 by_cases c3 : (wrap64 (a1 - (l0.length : Int))) < 0
 ·rw [if_pos c3] at H
  have c3b0 : decide ((wrap64 (a1 - (l0.length : Int))) < 0) = true := decide_eq_true c3; clear c3; obtain rfl := Option.some.inj H
  go_enter Tryd.func38, Tryd.ntmps38
  go_wp2
  go_ret
  exact ⟨qa5, qa11⟩
 ·rw [if_neg c3] at H
  have c3b0 : decide ((wrap64 (a1 - (l0.length : Int))) < 0) = false := decide_eq_false c3; clear c3; have H' := qO H; clear H
  go_enter Tryd.func38, Tryd.ntmps38
  go_wp2
  go_loopg [1, 5] k (fun kq v1 v5 w' => ∃ (x1_1 : Int) (x5_1 : Int), v1 = .int .i64 x1_1 ∧ v5 = .int .i64 x5_1 ∧ Aside0 (laws_szFieldDefS.l0 kq l0 x1_1 x5_1 = some r) ∧ Aside0 (kq ≤ k) ∧ Aside0 (Below w.heap.size w w'))
  case atStart => exact ⟨(wrap64 (a1 - (l0.length : Int))), (0), qa10, qa10, H', ⟨Nat.le_refl _⟩, ⟨qa11⟩⟩
  case round =>
   clear H'
   try clear p2
   try clear c3
   try clear c3b0
   obtain ⟨x1_1, x5_1, rfl, rfl, HA, HK1, HB⟩ := hrel
   cases gk with
   | zero => exact absurd HA.out (by simp [laws_szFieldDefS.l0])
   | succ k1 =>
    have H := HA.out; clear HA; simp only [laws_szFieldDefS.l0] at H
    by_cases c4 : x5_1 < (l0.length : Int)
    ·rw [if_pos c4] at H
     have c4b0 : decide (x5_1 < (l0.length : Int)) = true := decide_eq_true c4; clear c4
     by_cases c5 : 0 ≤ x5_1
     ·rw [if_pos c5] at H
      have c5b0 : decide (0 ≤ x5_1) = true := decide_eq_true c5; clear c5; replace H := Option.bind_eq_some_iff.mp H; obtain ⟨t102, A60, H⟩ := H; replace H : (if t102 < 0 then (some (-1)) else (laws_szFieldDefS.l0 k1 l0 t102 (wrap64 (x5_1 + 1)))) = some r := H; have A6 := qO A60; clear A60
      by_cases c7 : t102 < 0
      ·rw [if_pos c7] at H
       have c7b0 : decide (t102 < 0) = true := decide_eq_true c7; clear c7; obtain rfl := Option.some.inj H; have p101 : 0 ≤ (x5_1 : Int) := qT qa6; have q101 : x5_1 < (l0.length : Int) := qT qa6; obtain ⟨ad101, A101_1, c101_1, e101, hx101_0, hx101_1, hx101_2, hx101_3, hx101_4, hl101_1, hi101_1⟩ := at_T91 HR0.out x5_1 p101 q101
       cases e101
       replace hx101_0 := (HB.out.cell (qL w _ hx101_0)).trans hx101_0; replace hx101_1 := (HB.out.cell (qL w _ hx101_1)).trans hx101_1; replace hx101_2 := (HB.out.cell (qL w _ hx101_2)).trans hx101_2; replace hx101_3 := (HB.out.cell (qL w _ hx101_3)).trans hx101_3; replace hx101_4 := (HB.out.cell (qL w _ hx101_4)).trans hx101_4; have HR101_1 := qO hi101_1; have HC101_1 := qO hl101_1; clear hi101_1 hl101_1; replace p101 := eq_true p101; replace q101 := eq_true q101
       go_wp2_with (first | ((with_reducible refine gate_callee (f := 53) rfl ?_); refine goesL_ (some 23) rfl rfl Tryd.func53 qa16 rfl #[.agg #[.string ((rd_T91 l0 x5_1).f0), .slice A101_1 ((rd_T91 l0 x5_1).f1).length c101_1, .string ((rd_T91 l0 x5_1).f2), .bool ((rd_T91 l0 x5_1).f3), .bool ((rd_T91 l0 x5_1).f4)], .int .i64 x1_1] rfl qa0 ?_; (with_reducible refine (laws_szFieldDef.calls k1 ((rd_T91 l0 x5_1).f0) _ _ ((rd_T91 l0 x5_1).f1) ((rd_T91 l0 x5_1).f2) ((rd_T91 l0 x5_1).f3) ((rd_T91 l0 x5_1).f4) x1_1 t102 _ ?side1 ?side2 A6.out).mono ?_); (case side1 => exact qa42); (case side2 => exact HC101_1.out); rintro e w8 ⟨rfl, hb⟩; have hx_ := qHX HB hb qa1; refine ⟨_, rfl, ?_⟩; have n0_ := qO (below_step (below_step HB.out hx_) hb); clear HB; have HB := n0_; clear n0_; clear hx_; (try clear hb); (try clear hb2); (try clear hk); (try clear hi)))
       go_ret
       exact ⟨qa5, qa11⟩
      ·rw [if_neg c7] at H
       have c7b0 : decide (t102 < 0) = false := decide_eq_false c7; clear c7; have H' := qO H; clear H; have p101 : 0 ≤ (x5_1 : Int) := qT qa6; have q101 : x5_1 < (l0.length : Int) := qT qa6; obtain ⟨ad101, A101_1, c101_1, e101, hx101_0, hx101_1, hx101_2, hx101_3, hx101_4, hl101_1, hi101_1⟩ := at_T91 HR0.out x5_1 p101 q101
       cases e101
       replace hx101_0 := (HB.out.cell (qL w _ hx101_0)).trans hx101_0; replace hx101_1 := (HB.out.cell (qL w _ hx101_1)).trans hx101_1; replace hx101_2 := (HB.out.cell (qL w _ hx101_2)).trans hx101_2; replace hx101_3 := (HB.out.cell (qL w _ hx101_3)).trans hx101_3; replace hx101_4 := (HB.out.cell (qL w _ hx101_4)).trans hx101_4; have HR101_1 := qO hi101_1; have HC101_1 := qO hl101_1; clear hi101_1 hl101_1; replace p101 := eq_true p101; replace q101 := eq_true q101
       go_wp2_with (first | ((with_reducible refine gate_callee (f := 53) rfl ?_); refine goesL_ (some 23) rfl rfl Tryd.func53 qa16 rfl #[.agg #[.string ((rd_T91 l0 x5_1).f0), .slice A101_1 ((rd_T91 l0 x5_1).f1).length c101_1, .string ((rd_T91 l0 x5_1).f2), .bool ((rd_T91 l0 x5_1).f3), .bool ((rd_T91 l0 x5_1).f4)], .int .i64 x1_1] rfl qa0 ?_; (with_reducible refine (laws_szFieldDef.calls k1 ((rd_T91 l0 x5_1).f0) _ _ ((rd_T91 l0 x5_1).f1) ((rd_T91 l0 x5_1).f2) ((rd_T91 l0 x5_1).f3) ((rd_T91 l0 x5_1).f4) x1_1 t102 _ ?side1 ?side2 A6.out).mono ?_); (case side1 => exact qa42); (case side2 => exact HC101_1.out); rintro e w9 ⟨rfl, hb⟩; have hx_ := qHX HB hb qa1; refine ⟨_, rfl, ?_⟩; have n0_ := qO (below_step (below_step HB.out hx_) hb); clear HB; have HB := n0_; clear n0_; clear hx_; (try clear hb); (try clear hb2); (try clear hk); (try clear hi)))
       go_roundg k1
       case measure => have := HK1.out; omega
       case rel => exact ⟨(t102), (wrap64 (x5_1 + 1)), qa10, qa10, H', ⟨qa99⟩, ⟨qa11⟩⟩
     ·rw [if_neg c5] at H
      exact absurd H qa76
    ·rw [if_neg c4] at H
     have c4b0 : decide (x5_1 < (l0.length : Int)) = false := decide_eq_false c4; clear c4; obtain rfl := Option.some.inj H; go_wp2
     go_ret
     exact ⟨qa5, qa11⟩


def laws_szTypeDef.f (k : Nat) (a0_0 : ByteArray) (l0_1 : List (S91)) (a1 : Int) : Option (Int) := if (wrap64 (a1 - (a0_0.size : Int))) < 0 then (some (-1)) else ((laws_szFieldDefS.f k l0_1 (wrap64 (a1 - (a0_0.size : Int)))).bind fun t102 => (if t102 < 0 then (some (-1)) else (some t102)))
set_option maxHeartbeats 8000000 in
set_option maxRecDepth 100000 in
theorem laws_szTypeDef.calls (k : Nat) (a0_0 : ByteArray) (A0_1 : Option Addr) (c0_1 : Nat) (l0_1 : List (S91)) (a1 : Int) (r : Int) (w : World) (hr0_1 : Kd.C k91 w A0_1 l0_1.length l0_1) (hc0_1 : l0_1.length ≤ c0_1) (h : laws_szTypeDef.f k a0_0 l0_1 a1 = some r) :
  Calls Tryd.prog 19 #[.agg #[.string a0_0, .slice A0_1 l0_1.length c0_1], .int .i64 a1] w fun e w' => e = .returned (.int .i64 r) ∧ Below w.heap.size w w' := by
 have hu54 := Tryd.underlying54; have HR0_1 := qO hr0_1; have HC0_1 := qO hc0_1; clear hr0_1 hc0_1; have HB := qO (Below.refl w.heap.size w); have H : (if (wrap64 (a1 - (a0_0.size : Int))) < 0 then (some (-1)) else ((laws_szFieldDefS.f k l0_1 (wrap64 (a1 - (a0_0.size : Int)))).bind fun t102 => (if t102 < 0 then (some (-1)) else (some t102)))) = some r := h; clear h
 by_cases c3 : (wrap64 (a1 - (a0_0.size : Int))) < 0
 ·rw [if_pos c3] at H
  have c3b0 : decide ((wrap64 (a1 - (a0_0.size : Int))) < 0) = true := decide_eq_true c3; clear c3; obtain rfl := Option.some.inj H
  go_enter Tryd.func19, Tryd.ntmps19
  go_wp2_with (first | ((with_reducible refine gate_dst (N := 2) rfl ?_); refine box_event ?hg (N := 2) ?hd (cs := #[.string a0_0, .slice A0_1 l0_1.length c0_1]) (t := 54) ?hr ?_; (case hd => rfl); (case hg => rfl); (case hr => exact qa18); intro gb101 hg w4 hbox hb; have hx_ := qHX HB hb qa1; have n0_ := qO (below_step (below_step HB.out hx_) hb); have n1_ := qO (hbox); have n2_ := qO ((qa14 : w.heap.size ≤ gb101)); have n3_ := n2_; clear HB; have HB := n0_; have BK101 := n1_; have GW101 := n2_; have GE101 := n3_; clear n0_ n1_ n2_ n3_; clear hx_; clear hb hbox hg; have hcz5_0 : w4.cell? ⟨gb101, 0, none⟩ = some (.string a0_0) := (blk_cell BK101.out 0).trans rfl; have hcz5_1 : w4.cell? ⟨gb101, 1, none⟩ = some (.slice A0_1 l0_1.length c0_1) := (blk_cell BK101.out 1).trans rfl; have hfz5_0 := blk_frozen BK101.out 0; have hfz5_1 := blk_frozen BK101.out 1))
  go_ret
  exact ⟨qa5, qa2⟩
 ·rw [if_neg c3] at H
  have c3b0 : decide ((wrap64 (a1 - (a0_0.size : Int))) < 0) = false := decide_eq_false c3; clear c3; replace H := Option.bind_eq_some_iff.mp H; obtain ⟨t102, A60, H⟩ := H; replace H : (if t102 < 0 then (some (-1)) else (some t102)) = some r := H; have A6 := qO A60; clear A60
  by_cases c7 : t102 < 0
  ·rw [if_pos c7] at H
   have c7b0 : decide (t102 < 0) = true := decide_eq_true c7; clear c7; obtain rfl := Option.some.inj H
   go_enter Tryd.func19, Tryd.ntmps19
   go_wp2_with (first | ((with_reducible refine gate_dst (N := 2) rfl ?_); refine box_event ?hg (N := 2) ?hd (cs := #[.string a0_0, .slice A0_1 l0_1.length c0_1]) (t := 54) ?hr ?_; (case hd => rfl); (case hg => rfl); (case hr => exact qa18); intro gb101 hg w8 hbox hb; have hx_ := qHX HB hb qa1; have n0_ := qO (below_step (below_step HB.out hx_) hb); have n1_ := qO (hbox); have n2_ := qO ((qa14 : w.heap.size ≤ gb101)); have n3_ := n2_; clear HB; have HB := n0_; have BK101 := n1_; have GW101 := n2_; have GE101 := n3_; clear n0_ n1_ n2_ n3_; clear hx_; clear hb hbox hg; have hcz9_0 : w8.cell? ⟨gb101, 0, none⟩ = some (.string a0_0) := (blk_cell BK101.out 0).trans rfl; have hcz9_1 : w8.cell? ⟨gb101, 1, none⟩ = some (.slice A0_1 l0_1.length c0_1) := (blk_cell BK101.out 1).trans rfl; have hfz9_0 := blk_frozen BK101.out 0; have hfz9_1 := blk_frozen BK101.out 1) | ((with_reducible refine gate_callee (f := 38) rfl ?_); refine goesL_ (some 15) rfl rfl Tryd.func38 qa16 rfl #[.slice A0_1 l0_1.length c0_1, .int .i64 (wrap64 (a1 - (a0_0.size : Int)))] rfl qa0 ?_; (with_reducible refine (laws_szFieldDefS.calls k _ _ l0_1 (wrap64 (a1 - (a0_0.size : Int))) t102 _ ?side1 ?side2 A6.out).mono ?_); (case side1 => exact qa26); (case side2 => exact HC0_1.out); rintro e w10 ⟨rfl, hb⟩; have hx_ := qHX HB hb qa1; refine ⟨_, rfl, ?_⟩; have n0_ := qO (qB BK101.out hx_ hb); have n1_ := qO (below_step (below_step HB.out hx_) hb); clear BK101; clear HB; have BK101 := n0_; have HB := n1_; clear n0_ n1_; clear hx_; (try clear hb); (try clear hb2); (try clear hk); (try clear hi)))
   go_ret
   exact ⟨qa5, qa2⟩
  ·rw [if_neg c7] at H
   have c7b0 : decide (t102 < 0) = false := decide_eq_false c7; clear c7; obtain rfl := Option.some.inj H
   go_enter Tryd.func19, Tryd.ntmps19
   go_wp2_with (first | ((with_reducible refine gate_dst (N := 2) rfl ?_); refine box_event ?hg (N := 2) ?hd (cs := #[.string a0_0, .slice A0_1 l0_1.length c0_1]) (t := 54) ?hr ?_; (case hd => rfl); (case hg => rfl); (case hr => exact qa18); intro gb101 hg w11 hbox hb; have hx_ := qHX HB hb qa1; have n0_ := qO (below_step (below_step HB.out hx_) hb); have n1_ := qO (hbox); have n2_ := qO ((qa14 : w.heap.size ≤ gb101)); have n3_ := n2_; clear HB; have HB := n0_; have BK101 := n1_; have GW101 := n2_; have GE101 := n3_; clear n0_ n1_ n2_ n3_; clear hx_; clear hb hbox hg; have hcz12_0 : w11.cell? ⟨gb101, 0, none⟩ = some (.string a0_0) := (blk_cell BK101.out 0).trans rfl; have hcz12_1 : w11.cell? ⟨gb101, 1, none⟩ = some (.slice A0_1 l0_1.length c0_1) := (blk_cell BK101.out 1).trans rfl; have hfz12_0 := blk_frozen BK101.out 0; have hfz12_1 := blk_frozen BK101.out 1) | ((with_reducible refine gate_callee (f := 38) rfl ?_); refine goesL_ (some 15) rfl rfl Tryd.func38 qa16 rfl #[.slice A0_1 l0_1.length c0_1, .int .i64 (wrap64 (a1 - (a0_0.size : Int)))] rfl qa0 ?_; (with_reducible refine (laws_szFieldDefS.calls k _ _ l0_1 (wrap64 (a1 - (a0_0.size : Int))) t102 _ ?side1 ?side2 A6.out).mono ?_); (case side1 => exact qa26); (case side2 => exact HC0_1.out); rintro e w13 ⟨rfl, hb⟩; have hx_ := qHX HB hb qa1; refine ⟨_, rfl, ?_⟩; have n0_ := qO (qB BK101.out hx_ hb); have n1_ := qO (below_step (below_step HB.out hx_) hb); clear BK101; clear HB; have BK101 := n0_; have HB := n1_; clear n0_ n1_; clear hx_; (try clear hb); (try clear hb2); (try clear hk); (try clear hi)))
   go_ret
   exact ⟨qa5, qa2⟩


def laws_szTypeDefS.l0 : Nat → List (S54) → Int → Int → Option (Int)
 | 0, _, _, _ => none
 | k + 1, x0, x1, x5 => if x5 < (x0.length : Int) then (if 0 ≤ x5 then ((laws_szTypeDef.f k ((rd_T54 x0 x5).f0) ((rd_T54 x0 x5).f1) x1).bind fun t102 => (if t102 < 0 then (some (-1)) else (laws_szTypeDefS.l0 k x0 t102 (wrap64 (x5 + 1))))) else (none)) else (some x1)
def laws_szTypeDefS.f (k : Nat) (l0 : List (S54)) (a1 : Int) : Option (Int) := if (wrap64 (a1 - (l0.length : Int))) < 0 then (some (-1)) else (laws_szTypeDefS.l0 k l0 (wrap64 (a1 - (l0.length : Int))) 0)
set_option maxHeartbeats 8000000 in
set_option maxRecDepth 100000 in
theorem laws_szTypeDefS.calls (k : Nat) (A0 : Option Addr) (c0 : Nat) (l0 : List (S54)) (a1 : Int) (r : Int) (w : World) (hr0 : Kd.C k54 w A0 l0.length l0) (hc0 : l0.length ≤ c0) (h : laws_szTypeDefS.f k l0 a1 = some r) :
  Calls Tryd.prog 9 #[.slice A0 l0.length c0, .int .i64 a1] w fun e w' => e = .returned (.int .i64 r) ∧ Below w.heap.size w w' := by
 have hu54 := Tryd.underlying54; have HR0 := qO hr0; have HC0 := qO hc0; clear hr0 hc0; have HB := qO (Below.refl w.heap.size w); have H : (if (wrap64 (a1 - (l0.length : Int))) < 0 then (some (-1)) else (laws_szTypeDefS.l0 k l0 (wrap64 (a1 - (l0.length : Int))) 0)) = some r := h; clear h
 by_cases c3 : (wrap64 (a1 - (l0.length : Int))) < 0
 ·rw [if_pos c3] at H
  have c3b0 : decide ((wrap64 (a1 - (l0.length : Int))) < 0) = true := decide_eq_true c3; clear c3; obtain rfl := Option.some.inj H
  go_enter Tryd.func9, Tryd.ntmps9
  go_wp2
  go_ret
  exact ⟨qa5, qa11⟩
 ·rw [if_neg c3] at H
  have c3b0 : decide ((wrap64 (a1 - (l0.length : Int))) < 0) = false := decide_eq_false c3; clear c3; have H' := qO H; clear H
  go_enter Tryd.func9, Tryd.ntmps9
  go_wp2
  go_loopg [1, 5] k (fun kq v1 v5 w' => ∃ (x1_1 : Int) (x5_1 : Int), v1 = .int .i64 x1_1 ∧ v5 = .int .i64 x5_1 ∧ Aside0 (laws_szTypeDefS.l0 kq l0 x1_1 x5_1 = some r) ∧ Aside0 (kq ≤ k) ∧ Aside0 (Below w.heap.size w w'))
  case atStart => exact ⟨(wrap64 (a1 - (l0.length : Int))), (0), qa10, qa10, H', ⟨Nat.le_refl _⟩, ⟨qa11⟩⟩
  case round =>
   clear H'
   try clear p2
   try clear c3
   try clear c3b0
   obtain ⟨x1_1, x5_1, rfl, rfl, HA, HK1, HB⟩ := hrel
   cases gk with
   | zero => exact absurd HA.out (by simp [laws_szTypeDefS.l0])
   | succ k1 =>
    have H := HA.out; clear HA; simp only [laws_szTypeDefS.l0] at H
    by_cases c4 : x5_1 < (l0.length : Int)
    ·rw [if_pos c4] at H
     have c4b0 : decide (x5_1 < (l0.length : Int)) = true := decide_eq_true c4; clear c4
     by_cases c5 : 0 ≤ x5_1
     ·rw [if_pos c5] at H
      have c5b0 : decide (0 ≤ x5_1) = true := decide_eq_true c5; clear c5; replace H := Option.bind_eq_some_iff.mp H; obtain ⟨t102, A60, H⟩ := H; replace H : (if t102 < 0 then (some (-1)) else (laws_szTypeDefS.l0 k1 l0 t102 (wrap64 (x5_1 + 1)))) = some r := H; have A6 := qO A60; clear A60
      by_cases c7 : t102 < 0
      ·rw [if_pos c7] at H
       have c7b0 : decide (t102 < 0) = true := decide_eq_true c7; clear c7; obtain rfl := Option.some.inj H; have p101 : 0 ≤ (x5_1 : Int) := qT qa6; have q101 : x5_1 < (l0.length : Int) := qT qa6; obtain ⟨ad101, A101_1, c101_1, e101, hx101_0, hx101_1, hl101_1, hi101_1⟩ := at_T54 HR0.out x5_1 p101 q101
       cases e101
       replace hx101_0 := (HB.out.cell (qL w _ hx101_0)).trans hx101_0; replace hx101_1 := (HB.out.cell (qL w _ hx101_1)).trans hx101_1; have HR101_1 := qO hi101_1; have HC101_1 := qO hl101_1; clear hi101_1 hl101_1; replace p101 := eq_true p101; replace q101 := eq_true q101
       go_wp2_with (first | ((with_reducible refine gate_callee (f := 19) rfl ?_); refine goesL_ (some 23) rfl rfl Tryd.func19 qa16 rfl #[.agg #[.string ((rd_T54 l0 x5_1).f0), .slice A101_1 ((rd_T54 l0 x5_1).f1).length c101_1], .int .i64 x1_1] rfl qa0 ?_; (with_reducible refine (laws_szTypeDef.calls k1 ((rd_T54 l0 x5_1).f0) _ _ ((rd_T54 l0 x5_1).f1) x1_1 t102 _ ?side1 ?side2 A6.out).mono ?_); (case side1 => exact qa42); (case side2 => exact HC101_1.out); rintro e w8 ⟨rfl, hb⟩; have hx_ := qHX HB hb qa1; refine ⟨_, rfl, ?_⟩; have n0_ := qO (below_step (below_step HB.out hx_) hb); clear HB; have HB := n0_; clear n0_; clear hx_; (try clear hb); (try clear hb2); (try clear hk); (try clear hi)))
       go_ret
       exact ⟨qa5, qa11⟩
      ·rw [if_neg c7] at H
       have c7b0 : decide (t102 < 0) = false := decide_eq_false c7; clear c7; have H' := qO H; clear H; have p101 : 0 ≤ (x5_1 : Int) := qT qa6; have q101 : x5_1 < (l0.length : Int) := qT qa6; obtain ⟨ad101, A101_1, c101_1, e101, hx101_0, hx101_1, hl101_1, hi101_1⟩ := at_T54 HR0.out x5_1 p101 q101
       cases e101
       replace hx101_0 := (HB.out.cell (qL w _ hx101_0)).trans hx101_0; replace hx101_1 := (HB.out.cell (qL w _ hx101_1)).trans hx101_1; have HR101_1 := qO hi101_1; have HC101_1 := qO hl101_1; clear hi101_1 hl101_1; replace p101 := eq_true p101; replace q101 := eq_true q101
       go_wp2_with (first | ((with_reducible refine gate_callee (f := 19) rfl ?_); refine goesL_ (some 23) rfl rfl Tryd.func19 qa16 rfl #[.agg #[.string ((rd_T54 l0 x5_1).f0), .slice A101_1 ((rd_T54 l0 x5_1).f1).length c101_1], .int .i64 x1_1] rfl qa0 ?_; (with_reducible refine (laws_szTypeDef.calls k1 ((rd_T54 l0 x5_1).f0) _ _ ((rd_T54 l0 x5_1).f1) x1_1 t102 _ ?side1 ?side2 A6.out).mono ?_); (case side1 => exact qa42); (case side2 => exact HC101_1.out); rintro e w9 ⟨rfl, hb⟩; have hx_ := qHX HB hb qa1; refine ⟨_, rfl, ?_⟩; have n0_ := qO (below_step (below_step HB.out hx_) hb); clear HB; have HB := n0_; clear n0_; clear hx_; (try clear hb); (try clear hb2); (try clear hk); (try clear hi)))
       go_roundg k1
       case measure => have := HK1.out; omega
       case rel => exact ⟨(t102), (wrap64 (x5_1 + 1)), qa10, qa10, H', ⟨qa99⟩, ⟨qa11⟩⟩
     ·rw [if_neg c5] at H
      exact absurd H qa76
    ·rw [if_neg c4] at H
     have c4b0 : decide (x5_1 < (l0.length : Int)) = false := decide_eq_false c4; clear c4; obtain rfl := Option.some.inj H; go_wp2
     go_ret
     exact ⟨qa5, qa11⟩


def laws_szSchema.f (k : Nat) (l0_0 : List (S54)) (a1 : Int) : Option (Int) := (laws_szTypeDefS.f k l0_0 a1).bind fun t102 => (if t102 < 0 then (some (-1)) else (some t102))
set_option maxHeartbeats 8000000 in
set_option maxRecDepth 100000 in
theorem laws_szSchema.calls (k : Nat) (A0_0 : Option Addr) (c0_0 : Nat) (l0_0 : List (S54)) (a1 : Int) (r : Int) (w : World) (hr0_0 : Kd.C k54 w A0_0 l0_0.length l0_0) (hc0_0 : l0_0.length ≤ c0_0) (h : laws_szSchema.f k l0_0 a1 = some r) :
  Calls Tryd.prog 4 #[.agg #[.slice A0_0 l0_0.length c0_0], .int .i64 a1] w fun e w' => e = .returned (.int .i64 r) ∧ Below w.heap.size w w' := by
 have hu24 := Tryd.underlying24; have HR0_0 := qO hr0_0; have HC0_0 := qO hc0_0; clear hr0_0 hc0_0; have HB := qO (Below.refl w.heap.size w); have H : ((laws_szTypeDefS.f k l0_0 a1).bind fun t102 => (if t102 < 0 then (some (-1)) else (some t102))) = some r := h; clear h; replace H := Option.bind_eq_some_iff.mp H; obtain ⟨t102, A30, H⟩ := H; replace H : (if t102 < 0 then (some (-1)) else (some t102)) = some r := H; have A3 := qO A30; clear A30
 by_cases c4 : t102 < 0
 ·rw [if_pos c4] at H
  have c4b0 : decide (t102 < 0) = true := decide_eq_true c4; clear c4; obtain rfl := Option.some.inj H
  go_enter Tryd.func4, Tryd.ntmps4
  go_wp2_with (first | ((with_reducible refine gate_dst (N := 2) rfl ?_); refine box_event ?hg (N := 2) ?hd (cs := #[.slice A0_0 l0_0.length c0_0]) (t := 24) ?hr ?_; (case hd => rfl); (case hg => rfl); (case hr => exact qa18); intro gb101 hg w5 hbox hb; have hx_ := qHX HB hb qa1; have n0_ := qO (below_step (below_step HB.out hx_) hb); have n1_ := qO (hbox); have n2_ := qO ((qa14 : w.heap.size ≤ gb101)); have n3_ := n2_; clear HB; have HB := n0_; have BK101 := n1_; have GW101 := n2_; have GE101 := n3_; clear n0_ n1_ n2_ n3_; clear hx_; clear hb hbox hg; have hcz6_0 : w5.cell? ⟨gb101, 0, none⟩ = some (.slice A0_0 l0_0.length c0_0) := (blk_cell BK101.out 0).trans rfl; have hfz6_0 := blk_frozen BK101.out 0) | ((with_reducible refine gate_callee (f := 9) rfl ?_); refine goesL_ (some 8) rfl rfl Tryd.func9 qa16 rfl #[.slice A0_0 l0_0.length c0_0, .int .i64 a1] rfl qa0 ?_; (with_reducible refine (laws_szTypeDefS.calls k _ _ l0_0 a1 t102 _ ?side1 ?side2 A3.out).mono ?_); (case side1 => exact qa23); (case side2 => exact HC0_0.out); rintro e w7 ⟨rfl, hb⟩; have hx_ := qHX HB hb qa1; refine ⟨_, rfl, ?_⟩; have n0_ := qO (qB BK101.out hx_ hb); have n1_ := qO (below_step (below_step HB.out hx_) hb); clear BK101; clear HB; have BK101 := n0_; have HB := n1_; clear n0_ n1_; clear hx_; (try clear hb); (try clear hb2); (try clear hk); (try clear hi)))
  go_ret
  exact ⟨qa5, qa2⟩
 ·rw [if_neg c4] at H
  have c4b0 : decide (t102 < 0) = false := decide_eq_false c4; clear c4; obtain rfl := Option.some.inj H
  go_enter Tryd.func4, Tryd.ntmps4
  go_wp2_with (first | ((with_reducible refine gate_dst (N := 2) rfl ?_); refine box_event ?hg (N := 2) ?hd (cs := #[.slice A0_0 l0_0.length c0_0]) (t := 24) ?hr ?_; (case hd => rfl); (case hg => rfl); (case hr => exact qa18); intro gb101 hg w8 hbox hb; have hx_ := qHX HB hb qa1; have n0_ := qO (below_step (below_step HB.out hx_) hb); have n1_ := qO (hbox); have n2_ := qO ((qa14 : w.heap.size ≤ gb101)); have n3_ := n2_; clear HB; have HB := n0_; have BK101 := n1_; have GW101 := n2_; have GE101 := n3_; clear n0_ n1_ n2_ n3_; clear hx_; clear hb hbox hg; have hcz9_0 : w8.cell? ⟨gb101, 0, none⟩ = some (.slice A0_0 l0_0.length c0_0) := (blk_cell BK101.out 0).trans rfl; have hfz9_0 := blk_frozen BK101.out 0) | ((with_reducible refine gate_callee (f := 9) rfl ?_); refine goesL_ (some 8) rfl rfl Tryd.func9 qa16 rfl #[.slice A0_0 l0_0.length c0_0, .int .i64 a1] rfl qa0 ?_; (with_reducible refine (laws_szTypeDefS.calls k _ _ l0_0 a1 t102 _ ?side1 ?side2 A3.out).mono ?_); (case side1 => exact qa23); (case side2 => exact HC0_0.out); rintro e w10 ⟨rfl, hb⟩; have hx_ := qHX HB hb qa1; refine ⟨_, rfl, ?_⟩; have n0_ := qO (qB BK101.out hx_ hb); have n1_ := qO (below_step (below_step HB.out hx_) hb); clear BK101; clear HB; have BK101 := n0_; have HB := n1_; clear n0_ n1_; clear hx_; (try clear hb); (try clear hb2); (try clear hk); (try clear hi)))
  go_ret
  exact ⟨qa5, qa2⟩


def spec_l01In.f (a0 : Int) (a1 : Int) (a2 : Int) : Option (Bool) := if a1 ≤ a0 then (some (decide (a0 ≤ a2))) else (some false)
set_option maxHeartbeats 8000000 in
set_option maxRecDepth 100000 in
theorem spec_l01In.calls (a0 : Int) (a1 : Int) (a2 : Int) (r : Bool) (w : World) (h : spec_l01In.f a0 a1 a2 = some r) :
  Calls Tryd.prog 20 #[.int .i64 a0, .int .i64 a1, .int .i64 a2] w fun e w' => e = .returned (.bool r) ∧ Drawn0 w w' := by
 have H : (if a1 ≤ a0 then (some (decide (a0 ≤ a2))) else (some false)) = some r := h; clear h
 by_cases c4 : a1 ≤ a0
 ·rw [if_pos c4] at H
  have c4b0 : decide (a1 ≤ a0) = true := decide_eq_true c4; clear c4; obtain rfl := Option.some.inj H
  go_enter Tryd.func20, Tryd.ntmps20
  go_wp2
  go_ret
  exact ⟨qa10, qa24⟩
 ·rw [if_neg c4] at H
  have c4b0 : decide (a1 ≤ a0) = false := decide_eq_false c4; clear c4; obtain rfl := Option.some.inj H
  go_enter Tryd.func20, Tryd.ntmps20
  go_wp2
  go_ret
  exact ⟨qa10, qa24⟩


def spec_l03Find.l0 : Nat → ByteArray → Int → List (S41) → Option (Int)
 | 0, _, _, _ => none
 | k + 1, x1, x5, x102000 => if x5 < (x102000.length : Int) then (if 0 ≤ x5 then (if ((rd_T41 x102000 x5).f0).toList = x1.toList then (some x5) else (spec_l03Find.l0 k x1 (wrap64 (x5 + 1)) x102000)) else (none)) else (some (-1))
def spec_l03Find.f (k : Nat) (l0_0 : List (S41)) (a1 : ByteArray) : Option (Int) := spec_l03Find.l0 k a1 0 l0_0
set_option maxHeartbeats 8000000 in
set_option maxRecDepth 100000 in
theorem spec_l03Find.calls (k : Nat) (A0_0 : Option Addr) (c0_0 : Nat) (l0_0 : List (S41)) (a1 : ByteArray) (r : Int) (w : World) (hr0_0 : Kd.C k41 w A0_0 l0_0.length l0_0) (hc0_0 : l0_0.length ≤ c0_0) (h : spec_l03Find.f k l0_0 a1 = some r) :
  Calls Tryd.prog 21 #[.agg #[.slice A0_0 l0_0.length c0_0], .string a1] w fun e w' => e = .returned (.int .i64 r) ∧ Below w.heap.size w w' := by
 have hu30 := Tryd.underlying30; have HR0_0 := qO hr0_0; have HC0_0 := qO hc0_0; clear hr0_0 hc0_0; have HB := qO (Below.refl w.heap.size w); have H : (spec_l03Find.l0 k a1 0 l0_0) = some r := h; clear h; have H' := qO H; clear H
 go_enter Tryd.func21, Tryd.ntmps21
 go_wp2_with (first | ((with_reducible refine gate_dst (N := 2) rfl ?_); refine box_event ?hg (N := 2) ?hd (cs := #[.slice A0_0 l0_0.length c0_0]) (t := 30) ?hr ?_; (case hd => rfl); (case hg => rfl); (case hr => exact qa18); intro gb101 hg w3 hbox hb; have hx_ := qHX HB hb qa1; have n0_ := qO (below_step (below_step HB.out hx_) hb); have n1_ := qO (hbox); have n2_ := qO ((qa14 : w.heap.size ≤ gb101)); have n3_ := n2_; clear HB; have HB := n0_; have BK101 := n1_; have GW101 := n2_; have GE101 := n3_; clear n0_ n1_ n2_ n3_; clear hx_; clear hb hbox hg))
 go_loopg [5] k (fun kq v5 w' => ∃ (x5_1 : Int), v5 = .int .i64 x5_1 ∧ Aside0 (spec_l03Find.l0 kq a1 x5_1 l0_0 = some r) ∧ Aside0 (kq ≤ k) ∧ Aside0 (w'.heap[gb101]? = some (.cells #[(.slice A0_0 l0_0.length c0_0)] 30 (0, 0))) ∧ Aside0 (Below w.heap.size w w'))
 case atStart => exact ⟨(0), qa10, H', ⟨Nat.le_refl _⟩, ⟨qa4⟩, ⟨qa2⟩⟩
 case round =>
  clear H'
  try clear c2
  try clear p2
  obtain ⟨x5_1, rfl, HA, HK1, BK101, HB⟩ := hrel
  cases gk with
  | zero => exact absurd HA.out (by simp [spec_l03Find.l0])
  | succ k1 =>
   have H := HA.out; clear HA; simp only [spec_l03Find.l0] at H
   by_cases c4 : x5_1 < (l0_0.length : Int)
   ·rw [if_pos c4] at H
    have c4b0 : decide (x5_1 < (l0_0.length : Int)) = true := decide_eq_true c4; clear c4
    by_cases c5 : 0 ≤ x5_1
    ·rw [if_pos c5] at H
     have c5b0 : decide (0 ≤ x5_1) = true := decide_eq_true c5; clear c5
     by_cases c6 : ((rd_T41 l0_0 x5_1).f0).toList = a1.toList
     ·rw [if_pos c6] at H
      have c6b0 : (((rd_T41 l0_0 x5_1).f0).toList == a1.toList) = true := beq_iff_eq.mpr c6; have c6b1 : (((rd_T41 l0_0 x5_1).f0).toList != a1.toList) = false := bne_eq_false_iff_eq.mpr c6; clear c6; obtain rfl := Option.some.inj H; have hcz7_0 : wr.cell? ⟨gb101, 0, none⟩ = some (.slice A0_0 l0_0.length c0_0) := (blk_cell BK101.out 0).trans rfl; have hfz7_0 := blk_frozen BK101.out 0; have p102 : 0 ≤ (x5_1 : Int) := qT qa6; have q102 : x5_1 < (l0_0.length : Int) := qT qa6; obtain ⟨ad102, A102_1, c102_1, e102, hx102_0, hx102_1, hl102_1, hi102_1⟩ := at_T41 HR0_0.out x5_1 p102 q102
      cases e102
      replace hx102_0 := (HB.out.cell (qL w _ hx102_0)).trans hx102_0; replace hx102_1 := (HB.out.cell (qL w _ hx102_1)).trans hx102_1; have HR102_1 := qO hi102_1; have HC102_1 := qO hl102_1; clear hi102_1 hl102_1; replace p102 := eq_true p102; replace q102 := eq_true q102; go_wp2
      go_ret
      exact ⟨qa5, qa2⟩
     ·rw [if_neg c6] at H
      have c6b0 : (((rd_T41 l0_0 x5_1).f0).toList == a1.toList) = false := beq_eq_false_iff_ne.mpr c6; have c6b1 : (((rd_T41 l0_0 x5_1).f0).toList != a1.toList) = true := bne_iff_ne.mpr c6; have H' := qO H; clear H; have hcz8_0 : wr.cell? ⟨gb101, 0, none⟩ = some (.slice A0_0 l0_0.length c0_0) := (blk_cell BK101.out 0).trans rfl; have hfz8_0 := blk_frozen BK101.out 0; have p102 : 0 ≤ (x5_1 : Int) := qT qa6; have q102 : x5_1 < (l0_0.length : Int) := qT qa6; obtain ⟨ad102, A102_1, c102_1, e102, hx102_0, hx102_1, hl102_1, hi102_1⟩ := at_T41 HR0_0.out x5_1 p102 q102
      cases e102
      replace hx102_0 := (HB.out.cell (qL w _ hx102_0)).trans hx102_0; replace hx102_1 := (HB.out.cell (qL w _ hx102_1)).trans hx102_1; have HR102_1 := qO hi102_1; have HC102_1 := qO hl102_1; clear hi102_1 hl102_1; replace p102 := eq_true p102; replace q102 := eq_true q102; go_wp2
      go_roundg k1
      case measure => have := HK1.out; omega
      case rel => exact ⟨(wrap64 (x5_1 + 1)), qa10, H', ⟨qa99⟩, ⟨qa4⟩, ⟨qa2⟩⟩
    ·rw [if_neg c5] at H
     exact absurd H qa76
   ·rw [if_neg c4] at H
    have c4b0 : decide (x5_1 < (l0_0.length : Int)) = false := decide_eq_false c4; clear c4; obtain rfl := Option.some.inj H; have hcz9_0 : wr.cell? ⟨gb101, 0, none⟩ = some (.slice A0_0 l0_0.length c0_0) := (blk_cell BK101.out 0).trans rfl; have hfz9_0 := blk_frozen BK101.out 0; go_wp2
    go_ret
    exact ⟨qa5, qa2⟩


def spec_l00Letter.f (a0 : Int) : Option (Bool) := if a0 ≥ 97 then (if a0 ≤ 122 then (some true) else (if a0 ≥ 65 then (if a0 ≤ 90 then (some true) else (some (a0 == 95))) else (some (a0 == 95)))) else (if a0 ≥ 65 then (if a0 ≤ 90 then (some true) else (some (a0 == 95))) else (some (a0 == 95)))
set_option maxHeartbeats 8000000 in
set_option maxRecDepth 100000 in
theorem spec_l00Letter.calls (a0 : Int) (r : Bool) (w : World) (h : spec_l00Letter.f a0 = some r) :
  Calls Tryd.prog 54 #[.int .u8 a0] w fun e w' => e = .returned (.bool r) ∧ Drawn0 w w' := by
 have H : (if a0 ≥ 97 then (if a0 ≤ 122 then (some true) else (if a0 ≥ 65 then (if a0 ≤ 90 then (some true) else (some (a0 == 95))) else (some (a0 == 95)))) else (if a0 ≥ 65 then (if a0 ≤ 90 then (some true) else (some (a0 == 95))) else (some (a0 == 95)))) = some r := h; clear h
 by_cases c2 : a0 ≥ 97
 ·rw [if_pos c2] at H
  have c2b0 : decide (97 ≤ a0) = true := decide_eq_true c2; clear c2
  by_cases c3 : a0 ≤ 122
  ·rw [if_pos c3] at H
   have c3b0 : decide (a0 ≤ 122) = true := decide_eq_true c3; clear c3; obtain rfl := Option.some.inj H
   go_enter Tryd.func54, Tryd.ntmps54
   go_wp2
   go_ret
   exact ⟨qa10, qa24⟩
  ·rw [if_neg c3] at H
   have c3b0 : decide (a0 ≤ 122) = false := decide_eq_false c3; clear c3
   by_cases c4 : a0 ≥ 65
   ·rw [if_pos c4] at H
    have c4b0 : decide (65 ≤ a0) = true := decide_eq_true c4; clear c4
    by_cases c5 : a0 ≤ 90
    ·rw [if_pos c5] at H
     have c5b0 : decide (a0 ≤ 90) = true := decide_eq_true c5; clear c5; obtain rfl := Option.some.inj H
     go_enter Tryd.func54, Tryd.ntmps54
     go_wp2
     go_ret
     exact ⟨qa10, qa24⟩
    ·rw [if_neg c5] at H
     have c5b0 : decide (a0 ≤ 90) = false := decide_eq_false c5; clear c5; obtain rfl := Option.some.inj H
     go_enter Tryd.func54, Tryd.ntmps54
     go_wp2
     go_ret
     exact ⟨qa10, qa24⟩
   ·rw [if_neg c4] at H
    have c4b0 : decide (65 ≤ a0) = false := decide_eq_false c4; clear c4; obtain rfl := Option.some.inj H
    go_enter Tryd.func54, Tryd.ntmps54
    go_wp2
    go_ret
    exact ⟨qa10, qa24⟩
 ·rw [if_neg c2] at H
  have c2b0 : decide (97 ≤ a0) = false := decide_eq_false c2; clear c2
  by_cases c6 : a0 ≥ 65
  ·rw [if_pos c6] at H
   have c6b0 : decide (65 ≤ a0) = true := decide_eq_true c6; clear c6
   by_cases c7 : a0 ≤ 90
   ·rw [if_pos c7] at H
    have c7b0 : decide (a0 ≤ 90) = true := decide_eq_true c7; clear c7; obtain rfl := Option.some.inj H
    go_enter Tryd.func54, Tryd.ntmps54
    go_wp2
    go_ret
    exact ⟨qa10, qa24⟩
   ·rw [if_neg c7] at H
    have c7b0 : decide (a0 ≤ 90) = false := decide_eq_false c7; clear c7; obtain rfl := Option.some.inj H
    go_enter Tryd.func54, Tryd.ntmps54
    go_wp2
    go_ret
    exact ⟨qa10, qa24⟩
  ·rw [if_neg c6] at H
   have c6b0 : decide (65 ≤ a0) = false := decide_eq_false c6; clear c6; obtain rfl := Option.some.inj H
   go_enter Tryd.func54, Tryd.ntmps54
   go_wp2
   go_ret
   exact ⟨qa10, qa24⟩


def spec_l00Digit.f (a0 : Int) : Option (Bool) := if a0 ≥ 48 then (some (decide (a0 ≤ 57))) else (some false)
set_option maxHeartbeats 8000000 in
set_option maxRecDepth 100000 in
theorem spec_l00Digit.calls (a0 : Int) (r : Bool) (w : World) (h : spec_l00Digit.f a0 = some r) :
  Calls Tryd.prog 55 #[.int .u8 a0] w fun e w' => e = .returned (.bool r) ∧ Drawn0 w w' := by
 have H : (if a0 ≥ 48 then (some (decide (a0 ≤ 57))) else (some false)) = some r := h; clear h
 by_cases c2 : a0 ≥ 48
 ·rw [if_pos c2] at H
  have c2b0 : decide (48 ≤ a0) = true := decide_eq_true c2; clear c2; obtain rfl := Option.some.inj H
  go_enter Tryd.func55, Tryd.ntmps55
  go_wp2
  go_ret
  exact ⟨qa10, qa24⟩
 ·rw [if_neg c2] at H
  have c2b0 : decide (48 ≤ a0) = false := decide_eq_false c2; clear c2; obtain rfl := Option.some.inj H
  go_enter Tryd.func55, Tryd.ntmps55
  go_wp2
  go_ret
  exact ⟨qa10, qa24⟩


mutual
def spec_l00Word.j0 : Nat → ByteArray → Bool → Option (Bool)
 | 0, _, _ => none
 | k + 1, x0, x17 => if x17 = true then (some false) else (spec_l00Word.l0 k x0 1)
def spec_l00Word.l0 : Nat → ByteArray → Int → Option (Bool)
 | 0, _, _ => none
 | k + 1, x0, x3 => if x3 < (x0.size : Int) then (if 0 ≤ x3 then ((spec_l00Letter.f (bt x0 x3)).bind fun t102 => (if t102 = true then (spec_l00Word.l0 k x0 (wrap64 (x3 + 1))) else ((spec_l00Digit.f (bt x0 x3)).bind fun t103 => (if t103 = true then (spec_l00Word.l0 k x0 (wrap64 (x3 + 1))) else (some false))))) else (none)) else (some true)
end
def spec_l00Word.f (k : Nat) (a0 : ByteArray) : Option (Bool) := if (a0.size : Int) < 1 then (spec_l00Word.j0 k a0 true) else (if (a0.size : Int) > 40 then (spec_l00Word.j0 k a0 true) else (if 0 < (a0.size : Int) then ((spec_l00Letter.f (bt a0 0)).bind fun t101 => (spec_l00Word.j0 k a0 (!t101))) else (none)))
theorem spec_l00Word.mono_l : ∀ k, (∀ y0 y1, LeO (spec_l00Word.j0 k y0 y1) (spec_l00Word.j0 (k + 1) y0 y1)) ∧ (∀ y0 y1, LeO (spec_l00Word.l0 k y0 y1) (spec_l00Word.l0 (k + 1) y0 y1))
 | 0 => ⟨fun _ _ r h => by simp [spec_l00Word.j0] at h, fun _ _ r h => by simp [spec_l00Word.l0] at h⟩
 | k + 1 => by
  obtain ⟨ih0, ih1⟩ := spec_l00Word.mono_l k; refine ⟨?_, ?_⟩
  ·intro y0 y1
   unfold spec_l00Word.j0
   repeat' first
   | (with_reducible exact ih0 _ _)
   | (with_reducible exact ih1 _ _)
   | (with_reducible exact LeO.refl _)
   | (with_reducible exact LeO.none _)
   | (with_reducible refine LeO.ite ?_ ?_)
   | (with_reducible refine LeO.bind ?_ (fun _ => ?_))
   | exact ih0 _ _
   | exact ih1 _ _
   | exact LeO.none _
   | refine LeO.ite ?_ ?_
   | refine LeO.bind ?_ (fun _ => ?_)
  ·intro y0 y1
   unfold spec_l00Word.l0
   repeat' first
   | (with_reducible exact ih0 _ _)
   | (with_reducible exact ih1 _ _)
   | (with_reducible exact LeO.refl _)
   | (with_reducible exact LeO.none _)
   | (with_reducible refine LeO.ite ?_ ?_)
   | (with_reducible refine LeO.bind ?_ (fun _ => ?_))
   | exact ih0 _ _
   | exact ih1 _ _
   | exact LeO.none _
   | refine LeO.ite ?_ ?_
   | refine LeO.bind ?_ (fun _ => ?_)
theorem spec_l00Word.mono : ∀ a0 k, LeO (spec_l00Word.f k a0) (spec_l00Word.f (k + 1) a0) := by
 intro a0 k; obtain ⟨ih0, ih1⟩ := spec_l00Word.mono_l k
 unfold spec_l00Word.f
 repeat' first
   | (with_reducible exact ih0 _ _)
   | (with_reducible exact ih1 _ _)
   | (with_reducible exact LeO.refl _)
   | (with_reducible exact LeO.none _)
   | (with_reducible refine LeO.ite ?_ ?_)
   | (with_reducible refine LeO.bind ?_ (fun _ => ?_))
   | exact ih0 _ _
   | exact ih1 _ _
   | exact LeO.none _
   | refine LeO.ite ?_ ?_
   | refine LeO.bind ?_ (fun _ => ?_)
set_option maxHeartbeats 8000000 in
set_option maxRecDepth 100000 in
theorem spec_l00Word.calls (k : Nat) (a0 : ByteArray) (r : Bool) (w : World) (h : spec_l00Word.f k a0 = some r) :
  Calls Tryd.prog 39 #[.string a0] w fun e w' => e = .returned (.bool r) ∧ Drawn0 w w' := by
 have H : (if (a0.size : Int) < 1 then (spec_l00Word.j0 k a0 true) else (if (a0.size : Int) > 40 then (spec_l00Word.j0 k a0 true) else (if 0 < (a0.size : Int) then ((spec_l00Letter.f (bt a0 0)).bind fun t101 => (spec_l00Word.j0 k a0 (!t101))) else (none)))) = some r := h; clear h; have HC2 := qO H; clear H
 go_enter Tryd.func39, Tryd.ntmps39
 go_upto_region 1 with (fail)
 go_cut [17] (fun v17 wc => ∃ (kq : Nat) (x17_1 : Bool), v17 = .bool x17_1 ∧ Aside0 (spec_l00Word.j0 kq a0 x17_1 = some r) ∧ Aside0 (kq ≤ k) ∧ Drawn0 w wc)
 case first =>
  have H := HC2.out; clear HC2
  by_cases c3 : (a0.size : Int) < 1
  ·rw [if_pos c3] at H
   have c3b0 : decide ((a0.size : Int) < 1) = true := decide_eq_true c3; have c3b1 : decide (a0.size < 1) = true := decide_eq_true qa25; clear c3; (first | rw [c3b0] | (simp only [i64_w, i32_w]; rw [c3b0]) | skip); have H' := qO H; clear H; go_wp2
   go_meet
   case rel => exact ⟨_, (true), qa10, H', ⟨qa88⟩, qa24⟩
  ·rw [if_neg c3] at H
   have c3b0 : decide ((a0.size : Int) < 1) = false := decide_eq_false c3; have c3b1 : decide (a0.size < 1) = false := decide_eq_false qa25; clear c3; (first | rw [c3b0] | (simp only [i64_w, i32_w]; rw [c3b0]) | skip)
   by_cases c4 : (a0.size : Int) > 40
   ·rw [if_pos c4] at H
    have c4b0 : decide (40 < (a0.size : Int)) = true := decide_eq_true c4; have c4b1 : decide (40 < a0.size) = true := decide_eq_true qa25; clear c4; have H' := qO H; clear H; go_wp2
    go_meet
    case rel => exact ⟨_, (true), qa10, H', ⟨qa88⟩, qa24⟩
   ·rw [if_neg c4] at H
    have c4b0 : decide (40 < (a0.size : Int)) = false := decide_eq_false c4; have c4b1 : decide (40 < a0.size) = false := decide_eq_false qa25; clear c4
    by_cases c5 : 0 < (a0.size : Int)
    ·rw [if_pos c5] at H
     have c5b0 : decide (0 < (a0.size : Int)) = true := decide_eq_true c5; have c5b1 : decide (0 < a0.size) = true := decide_eq_true qa25; clear c5; replace H := Option.bind_eq_some_iff.mp H; obtain ⟨t101, A70, H⟩ := H; replace H : (spec_l00Word.j0 k a0 (!t101)) = some r := H; have A7 := qO A70; clear A70; have H' := qO H; clear H; have p6 : 0 ≤ (0 : Int) := qa25; have q6 : 0 < a0.size := (by have : (0 : Int) < (a0.size : Int) := qT qa6; omega); have hx6 : ∀ h : 0 < a0.size, ((a0[0]'h).toNat : Int) = bt a0 0 := bt_at a0 0; clear p6; have qi6 : (0 < (a0.size : Int)) = True := eq_true (qT qa6); replace q6 := eq_true q6
     go_wp2_with (first | (go_at_call 54; (with_reducible refine (spec_l00Letter.calls (bt a0 0) t101 _ A7.out).mono ?_); rintro e w' ⟨rfl, ⟨nd, rfl⟩⟩))
     go_meet
     case rel => exact ⟨_, (!t101), qa10, H', ⟨qa88⟩, qa24⟩
    ·rw [if_neg c5] at H
     exact absurd H qa76
 case rest =>
  clear HC2
  try clear p2
  try clear c3
  try clear c3b0
  try clear c3b1
  try clear c4
  try clear c4b0
  try clear c4b1
  try clear c5
  try clear c5b0
  try clear c5b1
  try clear p6
  try clear q6
  try clear hx6
  try clear qi6
  try clear p6
  try clear q6
  obtain ⟨kq, x17_1, rfl, HA, HJ1, ⟨mc1, rfl⟩⟩ := hcut
  cases kq with
  | zero => exact absurd HA.out (by simp [spec_l00Word.j0])
  | succ kj1 =>
   have H := HA.out; clear HA; simp only [spec_l00Word.j0] at H
   by_cases c8 : x17_1 = true
   ·subst c8
    have H1 : (some false) = some r := by rw [if_pos rfl] at H; exact H
    clear H; have H := H1; clear H1; obtain rfl := Option.some.inj H; go_wp2
    go_ret
    exact ⟨qa10, qa24⟩
   ·replace c8 := Bool.eq_false_iff.mpr c8
    subst c8; have H1 : (spec_l00Word.l0 kj1 a0 1) = some r := by rw [if_neg (show ¬ (false = true) by decide)] at H; exact H
    clear H; have H := H1; clear H1; have H' := qO H; clear H; go_wp2
    go_loopg [3] kj1 (fun kq v3 w' => ∃ (x3_2 : Int), v3 = .int .i64 x3_2 ∧ Aside0 (spec_l00Word.l0 kq a0 x3_2 = some r) ∧ Aside0 (kq ≤ kj1) ∧ Drawn0 w w')
    case atStart => exact ⟨(1), qa10, H', ⟨Nat.le_refl _⟩, qa24⟩
    case round =>
     clear H'
     try clear c1
     try clear p2
     try clear c3
     try clear c3b0
     try clear c3b1
     try clear c4
     try clear c4b0
     try clear c4b1
     try clear c5
     try clear c5b0
     try clear c5b1
     try clear p6
     try clear q6
     try clear hx6
     try clear qi6
     try clear c8
     try clear p2
     try clear p6
     try clear q6
     obtain ⟨x3_2, rfl, HA, HK2, ⟨m2, rfl⟩⟩ := hrel
     cases gk with
     | zero => exact absurd HA.out (by simp [spec_l00Word.l0])
     | succ k2 =>
      have H := HA.out; clear HA; simp only [spec_l00Word.l0] at H
      by_cases c9 : x3_2 < (a0.size : Int)
      ·rw [if_pos c9] at H
       have c9b0 : decide (x3_2 < (a0.size : Int)) = true := decide_eq_true c9; clear c9
       by_cases c10 : 0 ≤ x3_2
       ·rw [if_pos c10] at H
        have c10b0 : decide (0 ≤ x3_2) = true := decide_eq_true c10; clear c10; replace H := Option.bind_eq_some_iff.mp H; obtain ⟨t102, A120, H⟩ := H; replace H : (if t102 = true then (spec_l00Word.l0 k2 a0 (wrap64 (x3_2 + 1))) else ((spec_l00Digit.f (bt a0 x3_2)).bind fun t103 => (if t103 = true then (spec_l00Word.l0 k2 a0 (wrap64 (x3_2 + 1))) else (some false)))) = some r := H; have A12 := qO A120; clear A120
        by_cases c13 : t102 = true
        ·subst c13
         have H1 : (spec_l00Word.l0 k2 a0 (wrap64 (x3_2 + 1))) = some r := by rw [if_pos rfl] at H; exact H
         clear H; have H := H1; clear H1; have H' := qO H; clear H; have p11 : 0 ≤ (x3_2 : Int) := qT qa6; have q11 : x3_2 < (a0.size : Int) := qT qa6; have hx11 := bt_at a0 x3_2; replace p11 := eq_true p11; replace q11 := eq_true q11
         go_wp2_with (first | ((with_reducible refine gate_callee (f := 54) rfl ?_); refine goesL_ (some 27) rfl rfl Tryd.func54 qa16 rfl #[.int .u8 (bt a0 x3_2)] rfl qa0 ?_; (with_reducible refine (spec_l00Letter.calls (bt a0 x3_2) true _ A12.out).mono ?_); rintro e w' ⟨rfl, ⟨nd, rfl⟩⟩; refine ⟨_, rfl, ?_⟩))
         go_roundg k2
         case measure => have := HJ1.out; have := HK2.out; omega
         case rel => exact ⟨(wrap64 (x3_2 + 1)), qa10, H', ⟨by have := HJ1.out; have := HK2.out; omega⟩, qa24⟩
        ·replace c13 := Bool.eq_false_iff.mpr c13
         subst c13; have H1 : ((spec_l00Digit.f (bt a0 x3_2)).bind fun t103 => (if t103 = true then (spec_l00Word.l0 k2 a0 (wrap64 (x3_2 + 1))) else (some false))) = some r := by rw [if_neg (show ¬ (false = true) by decide)] at H; exact H
         clear H; have H := H1; clear H1; replace H := Option.bind_eq_some_iff.mp H; obtain ⟨t103, A150, H⟩ := H; replace H : (if t103 = true then (spec_l00Word.l0 k2 a0 (wrap64 (x3_2 + 1))) else (some false)) = some r := H; have A15 := qO A150; clear A150
         by_cases c16 : t103 = true
         ·subst c16
          have H1 : (spec_l00Word.l0 k2 a0 (wrap64 (x3_2 + 1))) = some r := by rw [if_pos rfl] at H; exact H
          clear H; have H := H1; clear H1; have H' := qO H; clear H; have p11 : 0 ≤ (x3_2 : Int) := qT qa6; have q11 : x3_2 < (a0.size : Int) := qT qa6; have hx11 := bt_at a0 x3_2; replace p11 := eq_true p11; replace q11 := eq_true q11
          go_wp2_with (first | ((with_reducible refine gate_callee (f := 54) rfl ?_); refine goesL_ (some 27) rfl rfl Tryd.func54 qa16 rfl #[.int .u8 (bt a0 x3_2)] rfl qa0 ?_; (with_reducible refine (spec_l00Letter.calls (bt a0 x3_2) false _ A12.out).mono ?_); rintro e w' ⟨rfl, ⟨nd, rfl⟩⟩; refine ⟨_, rfl, ?_⟩; have p14 : 0 ≤ (x3_2 : Int) := qT qa6; have q14 : x3_2 < (a0.size : Int) := qT qa6; have hx14 := bt_at a0 x3_2; replace p14 := eq_true p14; replace q14 := eq_true q14) | (go_at_call 55; (with_reducible refine (spec_l00Digit.calls (bt a0 x3_2) true _ A15.out).mono ?_); rintro e w' ⟨rfl, ⟨nd, rfl⟩⟩))
          go_roundg k2
          case measure => have := HJ1.out; have := HK2.out; omega
          case rel => exact ⟨(wrap64 (x3_2 + 1)), qa10, H', ⟨by have := HJ1.out; have := HK2.out; omega⟩, qa24⟩
         ·replace c16 := Bool.eq_false_iff.mpr c16
          subst c16; have H1 : (some false) = some r := by rw [if_neg (show ¬ (false = true) by decide)] at H; exact H
          clear H; have H := H1; clear H1; obtain rfl := Option.some.inj H; have p11 : 0 ≤ (x3_2 : Int) := qT qa6; have q11 : x3_2 < (a0.size : Int) := qT qa6; have hx11 := bt_at a0 x3_2; replace p11 := eq_true p11; replace q11 := eq_true q11
          go_wp2_with (first | ((with_reducible refine gate_callee (f := 54) rfl ?_); refine goesL_ (some 27) rfl rfl Tryd.func54 qa16 rfl #[.int .u8 (bt a0 x3_2)] rfl qa0 ?_; (with_reducible refine (spec_l00Letter.calls (bt a0 x3_2) false _ A12.out).mono ?_); rintro e w' ⟨rfl, ⟨nd, rfl⟩⟩; refine ⟨_, rfl, ?_⟩; have p14 : 0 ≤ (x3_2 : Int) := qT qa6; have q14 : x3_2 < (a0.size : Int) := qT qa6; have hx14 := bt_at a0 x3_2; replace p14 := eq_true p14; replace q14 := eq_true q14) | (go_at_call 55; (with_reducible refine (spec_l00Digit.calls (bt a0 x3_2) false _ A15.out).mono ?_); rintro e w' ⟨rfl, ⟨nd, rfl⟩⟩))
          go_ret
          exact ⟨qa10, qa24⟩
       ·rw [if_neg c10] at H
        exact absurd H qa76
      ·rw [if_neg c9] at H
       have c9b0 : decide (x3_2 < (a0.size : Int)) = false := decide_eq_false c9; clear c9; obtain rfl := Option.some.inj H; go_wp2
       go_ret
       exact ⟨qa10, qa24⟩


def spec_NameOK.f (k : Nat) (a0 : ByteArray) : Option (Bool) := (spec_l00Word.f k a0).bind fun t101 => (some t101)
theorem spec_NameOK.mono : ∀ a0 k, LeO (spec_NameOK.f k a0) (spec_NameOK.f (k + 1) a0) := by
 intro a0 k
 unfold spec_NameOK.f
 repeat' first
   | (with_reducible exact spec_l00Word.mono _ _)
   | (with_reducible exact LeO.refl _)
   | (with_reducible exact LeO.none _)
   | (with_reducible refine LeO.ite ?_ ?_)
   | (with_reducible refine LeO.bind ?_ (fun _ => ?_))
   | exact spec_l00Word.mono _ _
   | exact LeO.none _
   | refine LeO.ite ?_ ?_
   | refine LeO.bind ?_ (fun _ => ?_)
set_option maxHeartbeats 8000000 in
set_option maxRecDepth 100000 in
theorem spec_NameOK.calls (k : Nat) (a0 : ByteArray) (r : Bool) (w : World) (h : spec_NameOK.f k a0 = some r) :
  Calls Tryd.prog 22 #[.string a0] w fun e w' => e = .returned (.bool r) ∧ Drawn0 w w' := by
 have H : ((spec_l00Word.f k a0).bind fun t101 => (some t101)) = some r := h; clear h; replace H := Option.bind_eq_some_iff.mp H; obtain ⟨t101, A20, H⟩ := H; replace H : (some t101) = some r := H; have A2 := qO A20; clear A20; obtain rfl := Option.some.inj H
 go_enter Tryd.func22, Tryd.ntmps22
 go_wp2_with (first | ((with_reducible refine gate_callee (f := 39) rfl ?_); refine goesL_ (some 4) rfl rfl Tryd.func39 qa16 rfl #[.string a0] rfl qa0 ?_; (with_reducible refine (spec_l00Word.calls k a0 t101 _ A2.out).mono ?_); rintro e w' ⟨rfl, ⟨nd, rfl⟩⟩; refine ⟨_, rfl, ?_⟩))
 go_ret
 exact ⟨qa10, qa24⟩


def spec_l03Field.l0 : Nat → ByteArray → Int → ByteArray → List (S47) → Option (Int)
 | 0, _, _, _, _ => none
 | k + 1, x1, x5, x102000, x102001 => if x5 < (x102001.length : Int) then (if 0 ≤ x5 then (if ((rd_T47 x102001 x5).f0).toList = x1.toList then (some x5) else (spec_l03Field.l0 k x1 (wrap64 (x5 + 1)) x102000 x102001)) else (none)) else (some (-1))
def spec_l03Field.f (k : Nat) (a0_0 : ByteArray) (l0_1 : List (S47)) (a1 : ByteArray) : Option (Int) := spec_l03Field.l0 k a1 0 a0_0 l0_1
set_option maxHeartbeats 8000000 in
set_option maxRecDepth 100000 in
theorem spec_l03Field.calls (k : Nat) (a0_0 : ByteArray) (A0_1 : Option Addr) (c0_1 : Nat) (l0_1 : List (S47)) (a1 : ByteArray) (r : Int) (w : World) (hr0_1 : Kd.C k47 w A0_1 l0_1.length l0_1) (hc0_1 : l0_1.length ≤ c0_1) (h : spec_l03Field.f k a0_0 l0_1 a1 = some r) :
  Calls Tryd.prog 23 #[.agg #[.string a0_0, .slice A0_1 l0_1.length c0_1], .string a1] w fun e w' => e = .returned (.int .i64 r) ∧ Below w.heap.size w w' := by
 have hu41 := Tryd.underlying41; have HR0_1 := qO hr0_1; have HC0_1 := qO hc0_1; clear hr0_1 hc0_1; have HB := qO (Below.refl w.heap.size w); have H : (spec_l03Field.l0 k a1 0 a0_0 l0_1) = some r := h; clear h; have H' := qO H; clear H
 go_enter Tryd.func23, Tryd.ntmps23
 go_wp2_with (first | ((with_reducible refine gate_dst (N := 2) rfl ?_); refine box_event ?hg (N := 2) ?hd (cs := #[.string a0_0, .slice A0_1 l0_1.length c0_1]) (t := 41) ?hr ?_; (case hd => rfl); (case hg => rfl); (case hr => exact qa18); intro gb101 hg w3 hbox hb; have hx_ := qHX HB hb qa1; have n0_ := qO (below_step (below_step HB.out hx_) hb); have n1_ := qO (hbox); have n2_ := qO ((qa14 : w.heap.size ≤ gb101)); have n3_ := n2_; clear HB; have HB := n0_; have BK101 := n1_; have GW101 := n2_; have GE101 := n3_; clear n0_ n1_ n2_ n3_; clear hx_; clear hb hbox hg))
 go_loopg [5] k (fun kq v5 w' => ∃ (x5_1 : Int), v5 = .int .i64 x5_1 ∧ Aside0 (spec_l03Field.l0 kq a1 x5_1 a0_0 l0_1 = some r) ∧ Aside0 (kq ≤ k) ∧ Aside0 (w'.heap[gb101]? = some (.cells #[.string a0_0, (.slice A0_1 l0_1.length c0_1)] 41 (0, 0))) ∧ Aside0 (Below w.heap.size w w'))
 case atStart => exact ⟨(0), qa10, H', ⟨Nat.le_refl _⟩, ⟨qa4⟩, ⟨qa2⟩⟩
 case round =>
  clear H'
  try clear c2
  try clear p2
  obtain ⟨x5_1, rfl, HA, HK1, BK101, HB⟩ := hrel
  cases gk with
  | zero => exact absurd HA.out (by simp [spec_l03Field.l0])
  | succ k1 =>
   have H := HA.out; clear HA; simp only [spec_l03Field.l0] at H
   by_cases c4 : x5_1 < (l0_1.length : Int)
   ·rw [if_pos c4] at H
    have c4b0 : decide (x5_1 < (l0_1.length : Int)) = true := decide_eq_true c4; clear c4
    by_cases c5 : 0 ≤ x5_1
    ·rw [if_pos c5] at H
     have c5b0 : decide (0 ≤ x5_1) = true := decide_eq_true c5; clear c5
     by_cases c6 : ((rd_T47 l0_1 x5_1).f0).toList = a1.toList
     ·rw [if_pos c6] at H
      have c6b0 : (((rd_T47 l0_1 x5_1).f0).toList == a1.toList) = true := beq_iff_eq.mpr c6; have c6b1 : (((rd_T47 l0_1 x5_1).f0).toList != a1.toList) = false := bne_eq_false_iff_eq.mpr c6; clear c6; obtain rfl := Option.some.inj H; have hcz7_0 : wr.cell? ⟨gb101, 0, none⟩ = some (.string a0_0) := (blk_cell BK101.out 0).trans rfl; have hcz7_1 : wr.cell? ⟨gb101, 1, none⟩ = some (.slice A0_1 l0_1.length c0_1) := (blk_cell BK101.out 1).trans rfl; have hfz7_0 := blk_frozen BK101.out 0; have hfz7_1 := blk_frozen BK101.out 1; have p102 : 0 ≤ (x5_1 : Int) := qT qa6; have q102 : x5_1 < (l0_1.length : Int) := qT qa6; obtain ⟨ad102, A102_1, c102_1, e102, hx102_0, hx102_1, hx102_2, hx102_3, hx102_4, hl102_1, hi102_1⟩ := at_T47 HR0_1.out x5_1 p102 q102
      cases e102
      replace hx102_0 := (HB.out.cell (qL w _ hx102_0)).trans hx102_0; replace hx102_1 := (HB.out.cell (qL w _ hx102_1)).trans hx102_1; replace hx102_2 := (HB.out.cell (qL w _ hx102_2)).trans hx102_2; replace hx102_3 := (HB.out.cell (qL w _ hx102_3)).trans hx102_3; replace hx102_4 := (HB.out.cell (qL w _ hx102_4)).trans hx102_4; have HR102_1 := qO hi102_1; have HC102_1 := qO hl102_1; clear hi102_1 hl102_1; replace p102 := eq_true p102; replace q102 := eq_true q102; go_wp2
      go_ret
      exact ⟨qa5, qa2⟩
     ·rw [if_neg c6] at H
      have c6b0 : (((rd_T47 l0_1 x5_1).f0).toList == a1.toList) = false := beq_eq_false_iff_ne.mpr c6; have c6b1 : (((rd_T47 l0_1 x5_1).f0).toList != a1.toList) = true := bne_iff_ne.mpr c6; have H' := qO H; clear H; have hcz8_0 : wr.cell? ⟨gb101, 0, none⟩ = some (.string a0_0) := (blk_cell BK101.out 0).trans rfl; have hcz8_1 : wr.cell? ⟨gb101, 1, none⟩ = some (.slice A0_1 l0_1.length c0_1) := (blk_cell BK101.out 1).trans rfl; have hfz8_0 := blk_frozen BK101.out 0; have hfz8_1 := blk_frozen BK101.out 1; have p102 : 0 ≤ (x5_1 : Int) := qT qa6; have q102 : x5_1 < (l0_1.length : Int) := qT qa6; obtain ⟨ad102, A102_1, c102_1, e102, hx102_0, hx102_1, hx102_2, hx102_3, hx102_4, hl102_1, hi102_1⟩ := at_T47 HR0_1.out x5_1 p102 q102
      cases e102
      replace hx102_0 := (HB.out.cell (qL w _ hx102_0)).trans hx102_0; replace hx102_1 := (HB.out.cell (qL w _ hx102_1)).trans hx102_1; replace hx102_2 := (HB.out.cell (qL w _ hx102_2)).trans hx102_2; replace hx102_3 := (HB.out.cell (qL w _ hx102_3)).trans hx102_3; replace hx102_4 := (HB.out.cell (qL w _ hx102_4)).trans hx102_4; have HR102_1 := qO hi102_1; have HC102_1 := qO hl102_1; clear hi102_1 hl102_1; replace p102 := eq_true p102; replace q102 := eq_true q102; go_wp2
      go_roundg k1
      case measure => have := HK1.out; omega
      case rel => exact ⟨(wrap64 (x5_1 + 1)), qa10, H', ⟨qa99⟩, ⟨qa4⟩, ⟨qa2⟩⟩
    ·rw [if_neg c5] at H
     exact absurd H qa76
   ·rw [if_neg c4] at H
    have c4b0 : decide (x5_1 < (l0_1.length : Int)) = false := decide_eq_false c4; clear c4; obtain rfl := Option.some.inj H; have hcz9_0 : wr.cell? ⟨gb101, 0, none⟩ = some (.string a0_0) := (blk_cell BK101.out 0).trans rfl; have hcz9_1 : wr.cell? ⟨gb101, 1, none⟩ = some (.slice A0_1 l0_1.length c0_1) := (blk_cell BK101.out 1).trans rfl; have hfz9_0 := blk_frozen BK101.out 0; have hfz9_1 := blk_frozen BK101.out 1; go_wp2
    go_ret
    exact ⟨qa5, qa2⟩


def spec_l03Arg.l0 : Nat → ByteArray → Int → ByteArray → List (S60) → ByteArray → Bool → Bool → Option (Int)
 | 0, _, _, _, _, _, _, _ => none
 | k + 1, x1, x5, x102000, x102001, x102002, x102003, x102004 => if x5 < (x102001.length : Int) then (if 0 ≤ x5 then (if ((rd_T60 x102001 x5).f0).toList = x1.toList then (some x5) else (spec_l03Arg.l0 k x1 (wrap64 (x5 + 1)) x102000 x102001 x102002 x102003 x102004)) else (none)) else (some (-1))
def spec_l03Arg.f (k : Nat) (a0_0 : ByteArray) (l0_1 : List (S60)) (a0_2 : ByteArray) (a0_3 : Bool) (a0_4 : Bool) (a1 : ByteArray) : Option (Int) := spec_l03Arg.l0 k a1 0 a0_0 l0_1 a0_2 a0_3 a0_4
set_option maxHeartbeats 8000000 in
set_option maxRecDepth 100000 in
theorem spec_l03Arg.calls (k : Nat) (a0_0 : ByteArray) (A0_1 : Option Addr) (c0_1 : Nat) (l0_1 : List (S60)) (a0_2 : ByteArray) (a0_3 : Bool) (a0_4 : Bool) (a1 : ByteArray) (r : Int) (w : World) (hr0_1 : Kd.C k60 w A0_1 l0_1.length l0_1) (hc0_1 : l0_1.length ≤ c0_1) (h : spec_l03Arg.f k a0_0 l0_1 a0_2 a0_3 a0_4 a1 = some r) :
  Calls Tryd.prog 24 #[.agg #[.string a0_0, .slice A0_1 l0_1.length c0_1, .string a0_2, .bool a0_3, .bool a0_4], .string a1] w fun e w' => e = .returned (.int .i64 r) ∧ Below w.heap.size w w' := by
 have hu47 := Tryd.underlying47; have HR0_1 := qO hr0_1; have HC0_1 := qO hc0_1; clear hr0_1 hc0_1; have HB := qO (Below.refl w.heap.size w); have H : (spec_l03Arg.l0 k a1 0 a0_0 l0_1 a0_2 a0_3 a0_4) = some r := h; clear h; have H' := qO H; clear H
 go_enter Tryd.func24, Tryd.ntmps24
 go_wp2_with (first | ((with_reducible refine gate_dst (N := 2) rfl ?_); refine box_event ?hg (N := 2) ?hd (cs := #[.string a0_0, .slice A0_1 l0_1.length c0_1, .string a0_2, .bool a0_3, .bool a0_4]) (t := 47) ?hr ?_; (case hd => rfl); (case hg => rfl); (case hr => exact qa18); intro gb101 hg w3 hbox hb; have hx_ := qHX HB hb qa1; have n0_ := qO (below_step (below_step HB.out hx_) hb); have n1_ := qO (hbox); have n2_ := qO ((qa14 : w.heap.size ≤ gb101)); have n3_ := n2_; clear HB; have HB := n0_; have BK101 := n1_; have GW101 := n2_; have GE101 := n3_; clear n0_ n1_ n2_ n3_; clear hx_; clear hb hbox hg))
 go_loopg [5] k (fun kq v5 w' => ∃ (x5_1 : Int), v5 = .int .i64 x5_1 ∧ Aside0 (spec_l03Arg.l0 kq a1 x5_1 a0_0 l0_1 a0_2 a0_3 a0_4 = some r) ∧ Aside0 (kq ≤ k) ∧ Aside0 (w'.heap[gb101]? = some (.cells #[.string a0_0, (.slice A0_1 l0_1.length c0_1), .string a0_2, .bool a0_3, .bool a0_4] 47 (0, 0))) ∧ Aside0 (Below w.heap.size w w'))
 case atStart => exact ⟨(0), qa10, H', ⟨Nat.le_refl _⟩, ⟨qa4⟩, ⟨qa2⟩⟩
 case round =>
  clear H'
  try clear c2
  try clear p2
  obtain ⟨x5_1, rfl, HA, HK1, BK101, HB⟩ := hrel
  cases gk with
  | zero => exact absurd HA.out (by simp [spec_l03Arg.l0])
  | succ k1 =>
   have H := HA.out; clear HA; simp only [spec_l03Arg.l0] at H
   by_cases c4 : x5_1 < (l0_1.length : Int)
   ·rw [if_pos c4] at H
    have c4b0 : decide (x5_1 < (l0_1.length : Int)) = true := decide_eq_true c4; clear c4
    by_cases c5 : 0 ≤ x5_1
    ·rw [if_pos c5] at H
     have c5b0 : decide (0 ≤ x5_1) = true := decide_eq_true c5; clear c5
     by_cases c6 : ((rd_T60 l0_1 x5_1).f0).toList = a1.toList
     ·rw [if_pos c6] at H
      have c6b0 : (((rd_T60 l0_1 x5_1).f0).toList == a1.toList) = true := beq_iff_eq.mpr c6; have c6b1 : (((rd_T60 l0_1 x5_1).f0).toList != a1.toList) = false := bne_eq_false_iff_eq.mpr c6; clear c6; obtain rfl := Option.some.inj H; have hcz7_0 : wr.cell? ⟨gb101, 0, none⟩ = some (.string a0_0) := (blk_cell BK101.out 0).trans rfl; have hcz7_1 : wr.cell? ⟨gb101, 1, none⟩ = some (.slice A0_1 l0_1.length c0_1) := (blk_cell BK101.out 1).trans rfl; have hcz7_2 : wr.cell? ⟨gb101, 2, none⟩ = some (.string a0_2) := (blk_cell BK101.out 2).trans rfl; have hcz7_3 : wr.cell? ⟨gb101, 3, none⟩ = some (.bool a0_3) := (blk_cell BK101.out 3).trans rfl; have hcz7_4 : wr.cell? ⟨gb101, 4, none⟩ = some (.bool a0_4) := (blk_cell BK101.out 4).trans rfl; have hfz7_0 := blk_frozen BK101.out 0; have hfz7_1 := blk_frozen BK101.out 1; have hfz7_2 := blk_frozen BK101.out 2; have hfz7_3 := blk_frozen BK101.out 3; have hfz7_4 := blk_frozen BK101.out 4; have p102 : 0 ≤ (x5_1 : Int) := qT qa6; have q102 : x5_1 < (l0_1.length : Int) := qT qa6; obtain ⟨ad102, e102, hx102_0, hx102_1⟩ := at_T60 HR0_1.out x5_1 p102 q102
      cases e102
      replace hx102_0 := (HB.out.cell (qL w _ hx102_0)).trans hx102_0; replace hx102_1 := (HB.out.cell (qL w _ hx102_1)).trans hx102_1; replace p102 := eq_true p102; replace q102 := eq_true q102; go_wp2
      go_ret
      exact ⟨qa5, qa2⟩
     ·rw [if_neg c6] at H
      have c6b0 : (((rd_T60 l0_1 x5_1).f0).toList == a1.toList) = false := beq_eq_false_iff_ne.mpr c6; have c6b1 : (((rd_T60 l0_1 x5_1).f0).toList != a1.toList) = true := bne_iff_ne.mpr c6; have H' := qO H; clear H; have hcz8_0 : wr.cell? ⟨gb101, 0, none⟩ = some (.string a0_0) := (blk_cell BK101.out 0).trans rfl; have hcz8_1 : wr.cell? ⟨gb101, 1, none⟩ = some (.slice A0_1 l0_1.length c0_1) := (blk_cell BK101.out 1).trans rfl; have hcz8_2 : wr.cell? ⟨gb101, 2, none⟩ = some (.string a0_2) := (blk_cell BK101.out 2).trans rfl; have hcz8_3 : wr.cell? ⟨gb101, 3, none⟩ = some (.bool a0_3) := (blk_cell BK101.out 3).trans rfl; have hcz8_4 : wr.cell? ⟨gb101, 4, none⟩ = some (.bool a0_4) := (blk_cell BK101.out 4).trans rfl; have hfz8_0 := blk_frozen BK101.out 0; have hfz8_1 := blk_frozen BK101.out 1; have hfz8_2 := blk_frozen BK101.out 2; have hfz8_3 := blk_frozen BK101.out 3; have hfz8_4 := blk_frozen BK101.out 4; have p102 : 0 ≤ (x5_1 : Int) := qT qa6; have q102 : x5_1 < (l0_1.length : Int) := qT qa6; obtain ⟨ad102, e102, hx102_0, hx102_1⟩ := at_T60 HR0_1.out x5_1 p102 q102
      cases e102
      replace hx102_0 := (HB.out.cell (qL w _ hx102_0)).trans hx102_0; replace hx102_1 := (HB.out.cell (qL w _ hx102_1)).trans hx102_1; replace p102 := eq_true p102; replace q102 := eq_true q102; go_wp2
      go_roundg k1
      case measure => have := HK1.out; omega
      case rel => exact ⟨(wrap64 (x5_1 + 1)), qa10, H', ⟨qa99⟩, ⟨qa4⟩, ⟨qa2⟩⟩
    ·rw [if_neg c5] at H
     exact absurd H qa76
   ·rw [if_neg c4] at H
    have c4b0 : decide (x5_1 < (l0_1.length : Int)) = false := decide_eq_false c4; clear c4; obtain rfl := Option.some.inj H; have hcz9_0 : wr.cell? ⟨gb101, 0, none⟩ = some (.string a0_0) := (blk_cell BK101.out 0).trans rfl; have hcz9_1 : wr.cell? ⟨gb101, 1, none⟩ = some (.slice A0_1 l0_1.length c0_1) := (blk_cell BK101.out 1).trans rfl; have hcz9_2 : wr.cell? ⟨gb101, 2, none⟩ = some (.string a0_2) := (blk_cell BK101.out 2).trans rfl; have hcz9_3 : wr.cell? ⟨gb101, 3, none⟩ = some (.bool a0_3) := (blk_cell BK101.out 3).trans rfl; have hcz9_4 : wr.cell? ⟨gb101, 4, none⟩ = some (.bool a0_4) := (blk_cell BK101.out 4).trans rfl; have hfz9_0 := blk_frozen BK101.out 0; have hfz9_1 := blk_frozen BK101.out 1; have hfz9_2 := blk_frozen BK101.out 2; have hfz9_3 := blk_frozen BK101.out 3; have hfz9_4 := blk_frozen BK101.out 4; go_wp2
    go_ret
    exact ⟨qa5, qa2⟩


mutual
def spec_SchemaOK.j0 : Nat → Bool → List (S41) → Option (Bool)
 | 0, _, _ => none
 | k + 1, x17, x102000 => if x17 = true then (some false) else (spec_SchemaOK.l0 k 0 x102000)
def spec_SchemaOK.l0 : Nat → Int → List (S41) → Option (Bool)
 | 0, _, _ => none
 | k + 1, x3, x102000 => if x3 < (x102000.length : Int) then (if 0 ≤ x3 then ((spec_NameOK.f k ((rd_T41 x102000 x3).f0)).bind fun t106 => (if t106 = true then (if ((rd_T41 x102000 x3).f0).toList = ([73, 110, 116] : List UInt8) then (spec_SchemaOK.j2 k x3 true x102000 ((rd_T41 x102000 x3).f0) ((rd_T41 x102000 x3).f1)) else ((spec_l03Find.f k x102000 ((rd_T41 x102000 x3).f0)).bind fun t107 => (if t107 = x3 then ((spec_l01In.f (((rd_T41 x102000 x3).f1).length : Int) 1 10).bind fun t108 => (spec_SchemaOK.j2 k x3 (!t108) x102000 ((rd_T41 x102000 x3).f0) ((rd_T41 x102000 x3).f1))) else (spec_SchemaOK.j2 k x3 true x102000 ((rd_T41 x102000 x3).f0) ((rd_T41 x102000 x3).f1))))) else (spec_SchemaOK.j2 k x3 true x102000 ((rd_T41 x102000 x3).f0) ((rd_T41 x102000 x3).f1)))) else (none)) else (some true)
def spec_SchemaOK.j2 : Nat → Int → Bool → List (S41) → ByteArray → List (S47) → Option (Bool)
 | 0, _, _, _, _, _ => none
 | k + 1, x3, x53, x102000, x106000, x106001 => if x53 = true then (some false) else (spec_SchemaOK.l1 k x3 0 x102000 x106000 x106001)
def spec_SchemaOK.l1 : Nat → Int → Int → List (S41) → ByteArray → List (S47) → Option (Bool)
 | 0, _, _, _, _, _ => none
 | k + 1, x3, x5, x102000, x106000, x106001 => if x5 < (x106001.length : Int) then (if 0 ≤ x5 then ((spec_NameOK.f k ((rd_T47 x106001 x5).f0)).bind fun t111 => (if t111 = true then (if ((rd_T47 x106001 x5).f0).toList = ([95, 95, 116, 121, 112, 101, 110, 97, 109, 101] : List UInt8) then (spec_SchemaOK.j4 k x3 x5 true x102000 x106000 x106001 ((rd_T47 x106001 x5).f0) ((rd_T47 x106001 x5).f1) ((rd_T47 x106001 x5).f2) ((rd_T47 x106001 x5).f3) ((rd_T47 x106001 x5).f4)) else ((spec_l03Field.f k x106000 x106001 ((rd_T47 x106001 x5).f0)).bind fun t112 => (if t112 = x5 then (if ((rd_T47 x106001 x5).f2).toList = ([73, 110, 116] : List UInt8) then (spec_SchemaOK.j4 k x3 x5 (decide ((((rd_T47 x106001 x5).f1).length : Int) > 4)) x102000 x106000 x106001 ((rd_T47 x106001 x5).f0) ((rd_T47 x106001 x5).f1) ((rd_T47 x106001 x5).f2) ((rd_T47 x106001 x5).f3) ((rd_T47 x106001 x5).f4)) else ((spec_l03Find.f k x102000 ((rd_T47 x106001 x5).f2)).bind fun t113 => (if t113 < 0 then (spec_SchemaOK.j4 k x3 x5 true x102000 x106000 x106001 ((rd_T47 x106001 x5).f0) ((rd_T47 x106001 x5).f1) ((rd_T47 x106001 x5).f2) ((rd_T47 x106001 x5).f3) ((rd_T47 x106001 x5).f4)) else (spec_SchemaOK.j4 k x3 x5 (decide ((((rd_T47 x106001 x5).f1).length : Int) > 4)) x102000 x106000 x106001 ((rd_T47 x106001 x5).f0) ((rd_T47 x106001 x5).f1) ((rd_T47 x106001 x5).f2) ((rd_T47 x106001 x5).f3) ((rd_T47 x106001 x5).f4))))) else (spec_SchemaOK.j4 k x3 x5 true x102000 x106000 x106001 ((rd_T47 x106001 x5).f0) ((rd_T47 x106001 x5).f1) ((rd_T47 x106001 x5).f2) ((rd_T47 x106001 x5).f3) ((rd_T47 x106001 x5).f4))))) else (spec_SchemaOK.j4 k x3 x5 true x102000 x106000 x106001 ((rd_T47 x106001 x5).f0) ((rd_T47 x106001 x5).f1) ((rd_T47 x106001 x5).f2) ((rd_T47 x106001 x5).f3) ((rd_T47 x106001 x5).f4)))) else (none)) else (spec_SchemaOK.l0 k (wrap64 (x3 + 1)) x102000)
def spec_SchemaOK.j4 : Nat → Int → Int → Bool → List (S41) → ByteArray → List (S47) → ByteArray → List (S60) → ByteArray → Bool → Bool → Option (Bool)
 | 0, _, _, _, _, _, _, _, _, _, _, _ => none
 | k + 1, x3, x5, x100, x102000, x106000, x106001, x111000, x111001, x111002, x111003, x111004 => if x100 = true then (some false) else (spec_SchemaOK.l2 k x3 x5 0 x102000 x106000 x106001 x111000 x111001 x111002 x111003 x111004)
def spec_SchemaOK.l2 : Nat → Int → Int → Int → List (S41) → ByteArray → List (S47) → ByteArray → List (S60) → ByteArray → Bool → Bool → Option (Bool)
 | 0, _, _, _, _, _, _, _, _, _, _, _ => none
 | k + 1, x3, x5, x7, x102000, x106000, x106001, x111000, x111001, x111002, x111003, x111004 => if x7 < (x111001.length : Int) then (if 0 ≤ x7 then ((spec_NameOK.f k ((rd_T60 x111001 x7).f0)).bind fun t115 => (if t115 = true then ((spec_l03Arg.f k x111000 x111001 x111002 x111003 x111004 ((rd_T60 x111001 x7).f0)).bind fun t117 => (if t117 = x7 then (spec_SchemaOK.l2 k x3 x5 (wrap64 (x7 + 1)) x102000 x106000 x106001 x111000 x111001 x111002 x111003 x111004) else (some false))) else (some false))) else (none)) else (spec_SchemaOK.l1 k x3 (wrap64 (x5 + 1)) x102000 x106000 x106001)
end
def spec_SchemaOK.f (k : Nat) (l0_0 : List (S41)) : Option (Bool) := (spec_l01In.f (l0_0.length : Int) 1 8).bind fun t102 => (if t102 = true then ((spec_l03Find.f k l0_0 (⟨#[81, 117, 101, 114, 121]⟩ : ByteArray)).bind fun t103 => (spec_SchemaOK.j0 k (decide (t103 < 0)) l0_0)) else (spec_SchemaOK.j0 k true l0_0))
def spec_SchemaOK.T18 : Bool × List (List Nat × List Nat) := (true, [([], []), ([0], [0]), ([], []), ([1, 2], [1, 2]), ([3], [3]), ([4], [4]), ([5], [5]), ([6], [6]), ([7, 6], [7]), ([8], [8]), ([8], [8]), ([10, 8], [8, 10]), ([8], [8]), ([11, 12, 8], [8, 11, 12]), ([13, 8], [8, 13]), ([14, 8], [8, 14]), ([9, 15, 8, 8], [8, 9, 15]), ([8], [8]), ([16, 17, 8], [8, 16, 17]), ([8, 18], [8, 18])])
def spec_SchemaOK.B18 : List Nat := [0, 1, 0, 7, 15, 31, 63, 127, 255, 511, 511, 1535, 511, 7679, 15871, 32255, 65535, 511, 262143, 524287]
theorem spec_SchemaOK.tab18 : rtab .any (opsOf Tryd.f10 18) = spec_SchemaOK.T18 := by kernel_rfl
theorem spec_SchemaOK.bits18 : waitsOk spec_SchemaOK.T18.2 spec_SchemaOK.B18 = true := by kernel_rfl
def spec_SchemaOK.y0 : Array Bool := #[false, false, false, false, false, false, false, false, false, false, false, false, false, false, false, false, false, false, false, false]
def spec_SchemaOK.y1 : Array Bool := #[true, false, false, false, false, false, false, false, false, false, false, false, false, false, false, false, false, false, false, false]
def spec_SchemaOK.y2 : Array Bool := #[true, false, true, false, false, false, false, false, false, false, false, false, false, false, false, false, false, false, false, false]
def spec_SchemaOK.y3 : Array Bool := #[true, true, true, false, false, false, false, false, false, false, false, false, false, false, false, false, false, false, false, false]
def spec_SchemaOK.y4 : Array Bool := #[true, true, true, true, false, false, false, false, false, false, false, false, false, false, false, false, false, false, false, false]
def spec_SchemaOK.y5 : Array Bool := #[true, true, true, true, true, false, false, false, false, false, false, false, false, false, false, false, false, false, false, false]
def spec_SchemaOK.y6 : Array Bool := #[true, true, true, true, true, true, false, false, false, false, false, false, false, false, false, false, false, false, false, false]
def spec_SchemaOK.y7 : Array Bool := #[true, true, true, true, true, true, true, false, false, false, false, false, false, false, false, false, false, false, false, false]
def spec_SchemaOK.y8 : Array Bool := #[true, true, true, true, true, true, true, true, false, false, false, false, false, false, false, false, false, false, false, false]
def spec_SchemaOK.y9 : Array Bool := #[true, true, true, true, true, true, true, true, true, false, false, false, false, false, false, false, false, false, false, false]
def spec_SchemaOK.y10 : Array Bool := #[true, true, true, true, true, true, true, true, true, false, true, false, false, false, false, false, false, false, false, false]
def spec_SchemaOK.y11 : Array Bool := #[true, true, true, true, true, true, true, true, true, false, true, false, true, false, false, false, false, false, false, false]
def spec_SchemaOK.y12 : Array Bool := #[true, true, true, true, true, true, true, true, true, false, true, false, true, false, false, false, false, true, false, false]
def spec_SchemaOK.y13 : Array Bool := #[true, true, true, true, true, true, true, true, true, true, true, false, true, false, false, false, false, true, false, false]
def spec_SchemaOK.y14 : Array Bool := #[true, true, true, true, true, true, true, true, true, true, true, true, true, false, false, false, false, true, false, false]
def spec_SchemaOK.y15 : Array Bool := #[true, true, true, true, true, true, true, true, true, true, true, true, true, true, false, false, false, true, false, false]
def spec_SchemaOK.y16 : Array Bool := #[true, true, true, true, true, true, true, true, true, true, true, true, true, true, true, false, false, true, false, false]
def spec_SchemaOK.y17 : Array Bool := #[true, true, true, true, true, true, true, true, true, true, true, true, true, true, true, true, false, true, false, false]
def spec_SchemaOK.y18 : Array Bool := #[true, true, true, true, true, true, true, true, true, true, true, true, true, true, true, true, true, true, false, false]
def spec_SchemaOK.y19 : Array Bool := #[true, true, true, true, true, true, true, true, true, true, true, true, true, true, true, true, true, true, true, false]
def spec_SchemaOK.y20 : Array Bool := #[true, true, true, true, true, true, true, true, true, true, true, true, true, true, true, true, true, true, true, true]
def spec_SchemaOK.y21 : Array Bool := #[true, true, true, true, true, true, true, true, true, true, false, false, false, false, false, false, false, false, false, false]
def spec_SchemaOK.y22 : Array Bool := #[true, true, true, true, true, true, true, true, true, true, true, false, false, false, false, false, false, false, false, false]
def spec_SchemaOK.y23 : Array Bool := #[true, true, true, true, true, true, true, true, true, true, true, true, false, false, false, false, false, false, false, false]
def spec_SchemaOK.y24 : Array Bool := #[true, true, true, true, true, true, true, true, true, true, true, true, true, false, false, false, false, false, false, false]
def spec_SchemaOK.y25 : Array Bool := #[true, true, true, true, true, true, true, true, true, true, true, true, true, true, false, false, false, false, false, false]
def spec_SchemaOK.y26 : Array Bool := #[true, true, true, true, true, true, true, true, true, true, true, true, true, true, true, false, false, false, false, false]
def spec_SchemaOK.y27 : Array Bool := #[true, true, true, true, true, true, true, true, true, true, true, true, true, true, true, true, false, false, false, false]
def spec_SchemaOK.y28 : Array Bool := #[true, true, true, true, true, true, true, true, true, true, true, true, true, true, true, true, true, false, false, false]
set_option maxHeartbeats 8000000 in
set_option maxRecDepth 100000 in
theorem spec_SchemaOK.calls (k : Nat) (A0_0 : Option Addr) (c0_0 : Nat) (l0_0 : List (S41)) (r : Bool) (w : World) (hr0_0 : Kd.C k41 w A0_0 l0_0.length l0_0) (hc0_0 : l0_0.length ≤ c0_0) (h : spec_SchemaOK.f k l0_0 = some r) :
  Calls Tryd.prog 10 #[.agg #[.slice A0_0 l0_0.length c0_0]] w fun e w' => e = .returned (.bool r) ∧ Below w.heap.size w w' := by
 have hu30 := Tryd.underlying30; have hu41 := Tryd.underlying41; have hu47 := Tryd.underlying47; have HR0_0 := qO hr0_0; have HC0_0 := qO hc0_0; clear hr0_0 hc0_0; have HB := qO (Below.refl w.heap.size w); have H : ((spec_l01In.f (l0_0.length : Int) 1 8).bind fun t102 => (if t102 = true then ((spec_l03Find.f k l0_0 (⟨#[81, 117, 101, 114, 121]⟩ : ByteArray)).bind fun t103 => (spec_SchemaOK.j0 k (decide (t103 < 0)) l0_0)) else (spec_SchemaOK.j0 k true l0_0))) = some r := h; clear h; have HC2 := qO H; clear H
 go_enter Tryd.func10, Tryd.ntmps10
 go_upto_region 1 with (first | ((with_reducible refine gate_dst (N := 1) rfl ?_); (try (refine gate_guard (by rfl) ?_; dsimp only)); refine box_event ?hg (N := 1) ?hd (cs := #[.slice A0_0 l0_0.length c0_0]) (t := 30) ?hr ?_; (case hd => rfl); (case hg => rfl); (case hr => exact qa18); intro gb101 hg w3 hbox hb; have n0_ := qO (below_step qa11 hb); have n1_ := qO (hbox); have n2_ := qO ((qa43 : w.heap.size ≤ gb101)); have n3_ := qO ((qa43 : w.heap.size ≤ gb101)); clear HB; have HB := n0_; have BK101 := n1_; have GW101 := n2_; have GE101 := n3_; clear n0_ n1_ n2_ n3_; clear hb hbox hg))
 (try simp only [Act.put, qzA, qzB, qzC])
 go_cut [17] (fun v17 wc => ∃ (kq : Nat) (x17_1 : Bool), v17 = .bool x17_1 ∧ Aside0 (spec_SchemaOK.j0 kq x17_1 l0_0 = some r) ∧ Aside0 (kq ≤ k) ∧ Aside0 (wc.heap[gb101]? = some (.cells #[(.slice A0_0 l0_0.length c0_0)] 30 (0, 0))) ∧ Aside0 (Below w.heap.size w wc))
 case first =>
  have H := HC2.out; clear HC2; replace H := Option.bind_eq_some_iff.mp H; obtain ⟨t102, A40, H⟩ := H; replace H : (if t102 = true then ((spec_l03Find.f k l0_0 (⟨#[81, 117, 101, 114, 121]⟩ : ByteArray)).bind fun t103 => (spec_SchemaOK.j0 k (decide (t103 < 0)) l0_0)) else (spec_SchemaOK.j0 k true l0_0)) = some r := H; have A4 := qO A40; clear A40
  by_cases c5 : t102 = true
  ·subst c5
   have H1 : ((spec_l03Find.f k l0_0 (⟨#[81, 117, 101, 114, 121]⟩ : ByteArray)).bind fun t103 => (spec_SchemaOK.j0 k (decide (t103 < 0)) l0_0)) = some r := by rw [if_pos rfl] at H; exact H
   clear H; have H := H1; clear H1; replace H := Option.bind_eq_some_iff.mp H; obtain ⟨t103, A60, H⟩ := H; replace H : (spec_SchemaOK.j0 k (decide (t103 < 0)) l0_0) = some r := H; have A6 := qO A60; clear A60; have H' := qO H; clear H; have hcz7_0 : w3.cell? ⟨gb101, 0, none⟩ = some (.slice A0_0 l0_0.length c0_0) := (blk_cell BK101.out 0).trans rfl; have hfz7_0 := blk_frozen BK101.out 0
   go_wp2_with (first | ((with_reducible refine gate_callee (f := 20) rfl ?_); refine goesL_ (some 11) rfl rfl Tryd.func20 qa16 rfl #[.int .i64 (l0_0.length : Int), .int .i64 1, .int .i64 8] rfl qa0 ?_; (with_reducible refine (spec_l01In.calls (l0_0.length : Int) 1 8 true _ A4.out).mono ?_); rintro e w' ⟨rfl, ⟨nd, rfl⟩⟩; refine ⟨_, rfl, ?_⟩) | (go_at_call 21; (with_reducible refine (spec_l03Find.calls k _ _ l0_0 (⟨#[81, 117, 101, 114, 121]⟩ : ByteArray) t103 _ ?side1 ?side2 A6.out).mono ?_); (case side1 => exact qa82); (case side2 => exact HC0_0.out); rintro e w8 ⟨rfl, hb⟩; have hx_ := qHX HB hb qa1; have n0_ := qO (qB BK101.out hx_ hb); have n1_ := qO (below_step (below_step HB.out hx_) hb); clear BK101; clear HB; have BK101 := n0_; have HB := n1_; clear n0_ n1_; clear hx_; (try clear hb); (try clear hb2); (try clear hk); (try clear hi)))
   go_meet
   case rel => exact ⟨_, (decide (t103 < 0)), qa10, H', ⟨qa88⟩, ⟨qa4⟩, ⟨qa2⟩⟩
  ·replace c5 := Bool.eq_false_iff.mpr c5
   subst c5; have H1 : (spec_SchemaOK.j0 k true l0_0) = some r := by rw [if_neg (show ¬ (false = true) by decide)] at H; exact H
   clear H; have H := H1; clear H1; have H' := qO H; clear H; have hcz9_0 : w3.cell? ⟨gb101, 0, none⟩ = some (.slice A0_0 l0_0.length c0_0) := (blk_cell BK101.out 0).trans rfl; have hfz9_0 := blk_frozen BK101.out 0
   go_wp2_with (first | ((with_reducible refine gate_callee (f := 20) rfl ?_); refine goesL_ (some 11) rfl rfl Tryd.func20 qa16 rfl #[.int .i64 (l0_0.length : Int), .int .i64 1, .int .i64 8] rfl qa0 ?_; (with_reducible refine (spec_l01In.calls (l0_0.length : Int) 1 8 false _ A4.out).mono ?_); rintro e w' ⟨rfl, ⟨nd, rfl⟩⟩; refine ⟨_, rfl, ?_⟩))
   go_meet
   case rel => exact ⟨_, (true), qa10, H', ⟨qa88⟩, ⟨qa4⟩, ⟨qa2⟩⟩
 case rest =>
  clear HC2
  try clear c1
  try clear c2
  try clear p2
  try clear c5
  try clear hcz7_0
  try clear hcz9_0
  try clear hfz7_0
  try clear hfz9_0
  obtain ⟨kq, x17_1, rfl, HA, HJ1, BK101, HB⟩ := hcut
  cases kq with
  | zero => exact absurd HA.out (by simp [spec_SchemaOK.j0])
  | succ kj1 =>
   have H := HA.out; clear HA; simp only [spec_SchemaOK.j0] at H
   by_cases c10 : x17_1 = true
   ·subst c10
    have H1 : (some false) = some r := by rw [if_pos rfl] at H; exact H
    clear H; have H := H1; clear H1; obtain rfl := Option.some.inj H; go_wp2
    go_ret
    exact ⟨qa5, qa2⟩
   ·replace c10 := Bool.eq_false_iff.mpr c10
    subst c10; have H1 : (spec_SchemaOK.l0 kj1 0 l0_0) = some r := by rw [if_neg (show ¬ (false = true) by decide)] at H; exact H
    clear H; have H := H1; clear H1; have H' := qO H; clear H; go_wp2
    go_loopg [3] kj1 (fun kq v3 w' => ∃ (x3_2 : Int), v3 = .int .i64 x3_2 ∧ Aside0 (spec_SchemaOK.l0 kq x3_2 l0_0 = some r) ∧ Aside0 (kq ≤ kj1) ∧ Aside0 (w'.heap[gb101]? = some (.cells #[(.slice A0_0 l0_0.length c0_0)] 30 (0, 0))) ∧ Aside0 (Below w.heap.size w w'))
    case atStart => exact ⟨(0), qa10, H', ⟨Nat.le_refl _⟩, ⟨qa4⟩, ⟨qa2⟩⟩
    case round =>
     clear H'
     try clear c1
     try clear c2
     try clear p2
     try clear c5
     try clear c10
     try clear hcz7_0
     try clear hcz9_0
     try clear hfz7_0
     try clear hfz9_0
     try clear p2
     obtain ⟨x3_2, rfl, HA, HK2, BK101, HB⟩ := hrel
     cases gk with
     | zero => exact absurd HA.out (by simp [spec_SchemaOK.l0])
     | succ k2 =>
      have H := HA.out; clear HA; simp only [spec_SchemaOK.l0] at H
      by_cases c11 : x3_2 < (l0_0.length : Int)
      ·rw [if_pos c11] at H
       have c11b0 : decide (x3_2 < (l0_0.length : Int)) = true := decide_eq_true c11; clear c11
       by_cases c12 : 0 ≤ x3_2
       ·rw [if_pos c12] at H
        have c12b0 : decide (0 ≤ x3_2) = true := decide_eq_true c12; clear c12; have HC13 := qO H; clear H; have hcz14_0 : wr.cell? ⟨gb101, 0, none⟩ = some (.slice A0_0 l0_0.length c0_0) := (blk_cell BK101.out 0).trans rfl; have hfz14_0 := blk_frozen BK101.out 0; have p104 : 0 ≤ (x3_2 : Int) := qT qa6; have q104 : x3_2 < (l0_0.length : Int) := qT qa6; obtain ⟨ad104, A104_1, c104_1, e104, hx104_0, hx104_1, hl104_1, hi104_1⟩ := at_T41 HR0_0.out x3_2 p104 q104
        cases e104
        replace hx104_0 := (HB.out.cell (qL w _ hx104_0)).trans hx104_0; replace hx104_1 := (HB.out.cell (qL w _ hx104_1)).trans hx104_1; have HR104_1 := qO hi104_1; have HC104_1 := qO hl104_1; clear hi104_1 hl104_1; replace p104 := eq_true p104; replace q104 := eq_true q104
        go_upto_region 7 with (first | ((with_reducible refine gate_dst (N := 4) rfl ?_); (try (refine gate_guard (by rfl) ?_; dsimp only)); refine box_event ?hg (N := 4) ?hd (cs := #[.string (⟨#[]⟩ : ByteArray), .slice none 0 0]) (t := 41) ?hr ?_; (case hd => rfl); (case hg => rfl); (case hr => exact qa18); intro gb105 hg w15 hbox hb; have n0_ := qO (blk_below (g := gb101) (o := .cells #[.slice (some ad104) l0_0.length c0_0] 30 (0, 0)) qa4 hb); have n1_ := qO (below_step qa2 hb); have n2_ := qO (hbox); have n3_ := qO ((qa37 : w.heap.size ≤ gb105)); have n4_ := qO ((qa37 : w.heap.size ≤ gb105)); have n5_ := qO ((qa36 : gb101 ≠ gb105)); have n6_ := qO ((qa67 : gb105 ≠ gb101)); clear BK101; clear HB; have BK101 := n0_; have HB := n1_; have BK105 := n2_; have GW105 := n3_; have GE105 := n4_; have NB101_105 := n5_; have NB105_101 := n6_; clear n0_ n1_ n2_ n3_ n4_ n5_ n6_; clear hb hbox hg; have hnb16 := NB105_101.out; have hnc16 := NB101_105.out; have hcz17_0 : w15.cell? ⟨gb105, 0, none⟩ = some (.string (⟨#[]⟩ : ByteArray)) := (blk_cell BK105.out 0).trans rfl; have hcz17_1 : w15.cell? ⟨gb105, 1, none⟩ = some (.slice none 0 0) := (blk_cell BK105.out 1).trans rfl; have hfz17_0 := blk_frozen BK105.out 0; have hfz17_1 := blk_frozen BK105.out 1))
        (try simp only [Act.put, qzA, qzB, qzC])
        go_cut [53] (fun v53 wc => ∃ (kq : Nat) (x53_12 : Bool), v53 = .bool x53_12 ∧ Aside0 (spec_SchemaOK.j2 kq x3_2 x53_12 l0_0 ((rd_T41 l0_0 x3_2).f0) ((rd_T41 l0_0 x3_2).f1) = some r) ∧ Aside0 (kq ≤ k2) ∧ Aside0 (wc.heap[gb101]? = some (.cells #[(.slice (some ad104) l0_0.length c0_0)] 30 (0, 0))) ∧ Aside0 (wc.heap[gb105]? = some (.cells #[.string ((rd_T41 l0_0 x3_2).f0), (.slice A104_1 ((rd_T41 l0_0 x3_2).f1).length c104_1)] 41 (0, 0))) ∧ Aside0 (Below w.heap.size w wc))
        case first =>
         have H := HC13.out; clear HC13; replace H := Option.bind_eq_some_iff.mp H; obtain ⟨t106, A180, H⟩ := H; replace H : (if t106 = true then (if ((rd_T41 l0_0 x3_2).f0).toList = ([73, 110, 116] : List UInt8) then (spec_SchemaOK.j2 k2 x3_2 true l0_0 ((rd_T41 l0_0 x3_2).f0) ((rd_T41 l0_0 x3_2).f1)) else ((spec_l03Find.f k2 l0_0 ((rd_T41 l0_0 x3_2).f0)).bind fun t107 => (if t107 = x3_2 then ((spec_l01In.f (((rd_T41 l0_0 x3_2).f1).length : Int) 1 10).bind fun t108 => (spec_SchemaOK.j2 k2 x3_2 (!t108) l0_0 ((rd_T41 l0_0 x3_2).f0) ((rd_T41 l0_0 x3_2).f1))) else (spec_SchemaOK.j2 k2 x3_2 true l0_0 ((rd_T41 l0_0 x3_2).f0) ((rd_T41 l0_0 x3_2).f1))))) else (spec_SchemaOK.j2 k2 x3_2 true l0_0 ((rd_T41 l0_0 x3_2).f0) ((rd_T41 l0_0 x3_2).f1))) = some r := H; have A18 := qO A180; clear A180
         by_cases c19 : t106 = true
         ·subst c19
          have H1 : (if ((rd_T41 l0_0 x3_2).f0).toList = ([73, 110, 116] : List UInt8) then (spec_SchemaOK.j2 k2 x3_2 true l0_0 ((rd_T41 l0_0 x3_2).f0) ((rd_T41 l0_0 x3_2).f1)) else ((spec_l03Find.f k2 l0_0 ((rd_T41 l0_0 x3_2).f0)).bind fun t107 => (if t107 = x3_2 then ((spec_l01In.f (((rd_T41 l0_0 x3_2).f1).length : Int) 1 10).bind fun t108 => (spec_SchemaOK.j2 k2 x3_2 (!t108) l0_0 ((rd_T41 l0_0 x3_2).f0) ((rd_T41 l0_0 x3_2).f1))) else (spec_SchemaOK.j2 k2 x3_2 true l0_0 ((rd_T41 l0_0 x3_2).f0) ((rd_T41 l0_0 x3_2).f1))))) = some r := by rw [if_pos rfl] at H; exact H
          clear H; have H := H1; clear H1
          by_cases c20 : ((rd_T41 l0_0 x3_2).f0).toList = ([73, 110, 116] : List UInt8)
          ·rw [if_pos c20] at H
           have c20b0 : (((rd_T41 l0_0 x3_2).f0).toList == ([73, 110, 116] : List UInt8)) = true := beq_iff_eq.mpr c20; have c20b1 : (((rd_T41 l0_0 x3_2).f0).toList != ([73, 110, 116] : List UInt8)) = false := bne_eq_false_iff_eq.mpr c20; clear c20; (first | rw [c20b0] | (simp only [i64_w, i32_w]; rw [c20b0]) | skip); have H' := qO H; clear H; have hnb21 := NB105_101.out; have hnc21 := NB101_105.out; have hcz22_0 : w15.cell? ⟨gb105, 0, none⟩ = some (.string (⟨#[]⟩ : ByteArray)) := (blk_cell BK105.out 0).trans rfl; have hcz22_1 : w15.cell? ⟨gb105, 1, none⟩ = some (.slice none 0 0) := (blk_cell BK105.out 1).trans rfl; have hfz22_0 := blk_frozen BK105.out 0; have hfz22_1 := blk_frozen BK105.out 1
           go_wp2_with (first | ((with_reducible refine gate_callee (f := 22) rfl ?_); refine goesL_ (some 32) rfl rfl Tryd.func22 qa16 rfl #[.string ((rd_T41 l0_0 x3_2).f0)] rfl qa0 ?_; (with_reducible refine (spec_NameOK.calls k2 ((rd_T41 l0_0 x3_2).f0) true _ A18.out).mono ?_); rintro e w' ⟨rfl, ⟨nd, rfl⟩⟩; refine ⟨_, rfl, ?_⟩))
           go_meet
           case rel => exact ⟨_, (true), qa10, H', ⟨qa81⟩, ⟨qa22⟩, ⟨qa30⟩, ⟨qa21⟩⟩
          ·rw [if_neg c20] at H
           have c20b0 : (((rd_T41 l0_0 x3_2).f0).toList == ([73, 110, 116] : List UInt8)) = false := beq_eq_false_iff_ne.mpr c20; have c20b1 : (((rd_T41 l0_0 x3_2).f0).toList != ([73, 110, 116] : List UInt8)) = true := bne_iff_ne.mpr c20; (first | rw [c20b0] | (simp only [i64_w, i32_w]; rw [c20b0]) | skip); replace H := Option.bind_eq_some_iff.mp H; obtain ⟨t107, A230, H⟩ := H; replace H : (if t107 = x3_2 then ((spec_l01In.f (((rd_T41 l0_0 x3_2).f1).length : Int) 1 10).bind fun t108 => (spec_SchemaOK.j2 k2 x3_2 (!t108) l0_0 ((rd_T41 l0_0 x3_2).f0) ((rd_T41 l0_0 x3_2).f1))) else (spec_SchemaOK.j2 k2 x3_2 true l0_0 ((rd_T41 l0_0 x3_2).f0) ((rd_T41 l0_0 x3_2).f1))) = some r := H; have A23 := qO A230; clear A230
           by_cases c24 : t107 = x3_2
           ·rw [if_pos c24] at H
            have c24b0 : (t107 == x3_2) = true := beq_iff_eq.mpr c24; have c24b1 : (t107 != x3_2) = false := bne_eq_false_iff_eq.mpr c24; clear c24; replace H := Option.bind_eq_some_iff.mp H; obtain ⟨t108, A250, H⟩ := H; replace H : (spec_SchemaOK.j2 k2 x3_2 (!t108) l0_0 ((rd_T41 l0_0 x3_2).f0) ((rd_T41 l0_0 x3_2).f1)) = some r := H; have A25 := qO A250; clear A250; have H' := qO H; clear H; have hnb26 := NB105_101.out; have hnc26 := NB101_105.out; have hcz27_0 : w15.cell? ⟨gb105, 0, none⟩ = some (.string (⟨#[]⟩ : ByteArray)) := (blk_cell BK105.out 0).trans rfl; have hcz27_1 : w15.cell? ⟨gb105, 1, none⟩ = some (.slice none 0 0) := (blk_cell BK105.out 1).trans rfl; have hfz27_0 := blk_frozen BK105.out 0; have hfz27_1 := blk_frozen BK105.out 1
            go_wp2_with (first | ((with_reducible refine gate_callee (f := 22) rfl ?_); refine goesL_ (some 32) rfl rfl Tryd.func22 qa16 rfl #[.string ((rd_T41 l0_0 x3_2).f0)] rfl qa0 ?_; (with_reducible refine (spec_NameOK.calls k2 ((rd_T41 l0_0 x3_2).f0) true _ A18.out).mono ?_); rintro e w' ⟨rfl, ⟨nd, rfl⟩⟩; refine ⟨_, rfl, ?_⟩; have hcz28_0 : w15.cell? ⟨gb101, 0, none⟩ = some (.slice (some ad104) l0_0.length c0_0) := (blk_cell BK101.out 0).trans rfl; have hfz28_0 := blk_frozen BK101.out 0) | (go_at_call 21; (with_reducible refine (spec_l03Find.calls k2 _ _ l0_0 ((rd_T41 l0_0 x3_2).f0) t107 _ ?side1 ?side2 A23.out).mono ?_); (case side1 => exact qa61); (case side2 => exact HC0_0.out); rintro e w29 ⟨rfl, hb⟩; have n0_ := qO (blk_below (g := gb101) (o := .cells #[.slice (some ad104) l0_0.length c0_0] 30 (0, 0)) qa22 hb); have n1_ := qO (blk_below (g := gb105) (o := .cells #[.string ((rd_T41 l0_0 x3_2).f0), .slice A104_1 ((rd_T41 l0_0 x3_2).f1).length c104_1] 41 (0, 0)) qa30 hb); have n2_ := qO (below_step qa21 hb); clear BK101; clear BK105; clear HB; have BK101 := n0_; have BK105 := n1_; have HB := n2_; clear n0_ n1_ n2_; (try clear hb); (try clear hb2); (try clear hk); (try clear hi); have hcz30_0 : w29.cell? ⟨gb105, 0, none⟩ = some (.string ((rd_T41 l0_0 x3_2).f0)) := (blk_cell BK105.out 0).trans rfl; have hcz30_1 : w29.cell? ⟨gb105, 1, none⟩ = some (.slice A104_1 ((rd_T41 l0_0 x3_2).f1).length c104_1) := (blk_cell BK105.out 1).trans rfl; have hfz30_0 := blk_frozen BK105.out 0; have hfz30_1 := blk_frozen BK105.out 1) | (go_at_call 20; (with_reducible refine (spec_l01In.calls (((rd_T41 l0_0 x3_2).f1).length : Int) 1 10 t108 _ A25.out).mono ?_); rintro e w' ⟨rfl, ⟨nd, rfl⟩⟩))
            go_meet
            case rel => exact ⟨_, (!t108), qa10, H', ⟨qa81⟩, ⟨qa4⟩, ⟨qa32⟩, ⟨qa21⟩⟩
           ·rw [if_neg c24] at H
            have c24b0 : (t107 == x3_2) = false := beq_eq_false_iff_ne.mpr c24; have c24b1 : (t107 != x3_2) = true := bne_iff_ne.mpr c24; have H' := qO H; clear H; have hnb31 := NB105_101.out; have hnc31 := NB101_105.out; have hcz32_0 : w15.cell? ⟨gb105, 0, none⟩ = some (.string (⟨#[]⟩ : ByteArray)) := (blk_cell BK105.out 0).trans rfl; have hcz32_1 : w15.cell? ⟨gb105, 1, none⟩ = some (.slice none 0 0) := (blk_cell BK105.out 1).trans rfl; have hfz32_0 := blk_frozen BK105.out 0; have hfz32_1 := blk_frozen BK105.out 1
            go_wp2_with (first | ((with_reducible refine gate_callee (f := 22) rfl ?_); refine goesL_ (some 32) rfl rfl Tryd.func22 qa16 rfl #[.string ((rd_T41 l0_0 x3_2).f0)] rfl qa0 ?_; (with_reducible refine (spec_NameOK.calls k2 ((rd_T41 l0_0 x3_2).f0) true _ A18.out).mono ?_); rintro e w' ⟨rfl, ⟨nd, rfl⟩⟩; refine ⟨_, rfl, ?_⟩; have hcz33_0 : w15.cell? ⟨gb101, 0, none⟩ = some (.slice (some ad104) l0_0.length c0_0) := (blk_cell BK101.out 0).trans rfl; have hfz33_0 := blk_frozen BK101.out 0) | (go_at_call 21; (with_reducible refine (spec_l03Find.calls k2 _ _ l0_0 ((rd_T41 l0_0 x3_2).f0) t107 _ ?side1 ?side2 A23.out).mono ?_); (case side1 => exact qa61); (case side2 => exact HC0_0.out); rintro e w34 ⟨rfl, hb⟩; have n0_ := qO (blk_below (g := gb101) (o := .cells #[.slice (some ad104) l0_0.length c0_0] 30 (0, 0)) qa22 hb); have n1_ := qO (blk_below (g := gb105) (o := .cells #[.string ((rd_T41 l0_0 x3_2).f0), .slice A104_1 ((rd_T41 l0_0 x3_2).f1).length c104_1] 41 (0, 0)) qa30 hb); have n2_ := qO (below_step qa21 hb); clear BK101; clear BK105; clear HB; have BK101 := n0_; have BK105 := n1_; have HB := n2_; clear n0_ n1_ n2_; (try clear hb); (try clear hb2); (try clear hk); (try clear hi)))
            go_meet
            case rel => exact ⟨_, (true), qa10, H', ⟨qa81⟩, ⟨qa4⟩, ⟨qa32⟩, ⟨qa21⟩⟩
         ·replace c19 := Bool.eq_false_iff.mpr c19
          subst c19; have H1 : (spec_SchemaOK.j2 k2 x3_2 true l0_0 ((rd_T41 l0_0 x3_2).f0) ((rd_T41 l0_0 x3_2).f1)) = some r := by rw [if_neg (show ¬ (false = true) by decide)] at H; exact H
          clear H; have H := H1; clear H1; have H' := qO H; clear H; have hnb35 := NB105_101.out; have hnc35 := NB101_105.out; have hcz36_0 : w15.cell? ⟨gb105, 0, none⟩ = some (.string (⟨#[]⟩ : ByteArray)) := (blk_cell BK105.out 0).trans rfl; have hcz36_1 : w15.cell? ⟨gb105, 1, none⟩ = some (.slice none 0 0) := (blk_cell BK105.out 1).trans rfl; have hfz36_0 := blk_frozen BK105.out 0; have hfz36_1 := blk_frozen BK105.out 1
          go_wp2_with (first | ((with_reducible refine gate_callee (f := 22) rfl ?_); refine goesL_ (some 32) rfl rfl Tryd.func22 qa16 rfl #[.string ((rd_T41 l0_0 x3_2).f0)] rfl qa0 ?_; (with_reducible refine (spec_NameOK.calls k2 ((rd_T41 l0_0 x3_2).f0) false _ A18.out).mono ?_); rintro e w' ⟨rfl, ⟨nd, rfl⟩⟩; refine ⟨_, rfl, ?_⟩))
          go_meet
          case rel => exact ⟨_, (true), qa10, H', ⟨qa81⟩, ⟨qa22⟩, ⟨qa30⟩, ⟨qa21⟩⟩
        case rest =>
         clear HC13
         try clear c1
         try clear p1
         try clear q1
         try clear hx1
         try clear c2
         try clear p2
         try clear c3
         try clear c5
         try clear c10
         try clear p10
         try clear q10
         try clear hx10
         try clear c11
         try clear c11b0
         try clear c12
         try clear c12b0
         try clear c16
         try clear c19
         try clear c20
         try clear c20b0
         try clear c20b1
         try clear c21
         try clear c22
         try clear c24
         try clear c24b0
         try clear c24b1
         try clear c26
         try clear c31
         try clear c35
         try clear hcz14_0
         try clear hcz17_0
         try clear hcz17_1
         try clear hcz22_0
         try clear hcz22_1
         try clear hcz27_0
         try clear hcz27_1
         try clear hcz28_0
         try clear hcz30_0
         try clear hcz30_1
         try clear hcz32_0
         try clear hcz32_1
         try clear hcz33_0
         try clear hcz36_0
         try clear hcz36_1
         try clear hcz7_0
         try clear hcz9_0
         try clear hfz14_0
         try clear hfz17_0
         try clear hfz17_1
         try clear hfz22_0
         try clear hfz22_1
         try clear hfz27_0
         try clear hfz27_1
         try clear hfz28_0
         try clear hfz30_0
         try clear hfz30_1
         try clear hfz32_0
         try clear hfz32_1
         try clear hfz33_0
         try clear hfz36_0
         try clear hfz36_1
         try clear hfz7_0
         try clear hfz9_0
         try clear hx104_0
         try clear hx104_1
         try clear p104
         try clear p2
         try clear q104
         obtain ⟨kq, x53_12, rfl, HA, HJ12, BK101, BK105, HB⟩ := hcut
         cases kq with
         | zero => exact absurd HA.out (by simp [spec_SchemaOK.j2])
         | succ kj12 =>
          have H := HA.out; clear HA; simp only [spec_SchemaOK.j2] at H
          by_cases c37 : x53_12 = true
          ·subst c37
           have H1 : (some false) = some r := by rw [if_pos rfl] at H; exact H
           clear H; have H := H1; clear H1; obtain rfl := Option.some.inj H; go_wp2
           go_ret
           exact ⟨qa5, qa21⟩
          ·replace c37 := Bool.eq_false_iff.mpr c37
           subst c37; have H1 : (spec_SchemaOK.l1 kj12 x3_2 0 l0_0 ((rd_T41 l0_0 x3_2).f0) ((rd_T41 l0_0 x3_2).f1)) = some r := by rw [if_neg (show ¬ (false = true) by decide)] at H; exact H
           clear H; have H := H1; clear H1; have H' := qO H; clear H; go_wp2
           go_loopg [5] kj12 (fun kq v5 w' => ∃ (x5_4 : Int), v5 = .int .i64 x5_4 ∧ Aside0 (spec_SchemaOK.l1 kq x3_2 x5_4 l0_0 ((rd_T41 l0_0 x3_2).f0) ((rd_T41 l0_0 x3_2).f1) = some r) ∧ Aside0 (kq ≤ kj12) ∧ Aside0 (w'.heap[gb101]? = some (.cells #[(.slice (some ad104) l0_0.length c0_0)] 30 (0, 0))) ∧ Aside0 (w'.heap[gb105]? = some (.cells #[.string ((rd_T41 l0_0 x3_2).f0), (.slice A104_1 ((rd_T41 l0_0 x3_2).f1).length c104_1)] 41 (0, 0))) ∧ Aside0 (Below w.heap.size w w'))
           case atStart => exact ⟨(0), qa10, H', ⟨Nat.le_refl _⟩, ⟨qa4⟩, ⟨qa32⟩, ⟨qa21⟩⟩
           case round =>
            clear H'
            try clear c1
            try clear p1
            try clear q1
            try clear hx1
            try clear c2
            try clear p2
            try clear c3
            try clear c5
            try clear c10
            try clear p10
            try clear q10
            try clear hx10
            try clear c11
            try clear c11b0
            try clear c12
            try clear c12b0
            try clear c16
            try clear c19
            try clear c20
            try clear c20b0
            try clear c20b1
            try clear c21
            try clear c22
            try clear c24
            try clear c24b0
            try clear c24b1
            try clear c26
            try clear c31
            try clear c35
            try clear c37
            try clear hcz14_0
            try clear hcz17_0
            try clear hcz17_1
            try clear hcz22_0
            try clear hcz22_1
            try clear hcz27_0
            try clear hcz27_1
            try clear hcz28_0
            try clear hcz30_0
            try clear hcz30_1
            try clear hcz32_0
            try clear hcz32_1
            try clear hcz33_0
            try clear hcz36_0
            try clear hcz36_1
            try clear hcz7_0
            try clear hcz9_0
            try clear hfz14_0
            try clear hfz17_0
            try clear hfz17_1
            try clear hfz22_0
            try clear hfz22_1
            try clear hfz27_0
            try clear hfz27_1
            try clear hfz28_0
            try clear hfz30_0
            try clear hfz30_1
            try clear hfz32_0
            try clear hfz32_1
            try clear hfz33_0
            try clear hfz36_0
            try clear hfz36_1
            try clear hfz7_0
            try clear hfz9_0
            try clear hx104_0
            try clear hx104_1
            try clear p1
            try clear p10
            try clear p104
            try clear p2
            try clear q1
            try clear q10
            try clear q104
            obtain ⟨x5_4, rfl, HA, HK4, BK101, BK105, HB⟩ := hrel
            cases gk with
            | zero => exact absurd HA.out (by simp [spec_SchemaOK.l1])
            | succ k4 =>
             have H := HA.out; clear HA; simp only [spec_SchemaOK.l1] at H
             by_cases c38 : x5_4 < (((rd_T41 l0_0 x3_2).f1).length : Int)
             ·rw [if_pos c38] at H
              have c38b0 : decide (x5_4 < (((rd_T41 l0_0 x3_2).f1).length : Int)) = true := decide_eq_true c38; clear c38
              by_cases c39 : 0 ≤ x5_4
              ·rw [if_pos c39] at H
               have c39b0 : decide (0 ≤ x5_4) = true := decide_eq_true c39; clear c39; have HC40 := qO H; clear H; have hnb41 := NB105_101.out; have hnc41 := NB101_105.out; have hcz42_0 : wr.cell? ⟨gb105, 0, none⟩ = some (.string ((rd_T41 l0_0 x3_2).f0)) := (blk_cell BK105.out 0).trans rfl; have hcz42_1 : wr.cell? ⟨gb105, 1, none⟩ = some (.slice A104_1 ((rd_T41 l0_0 x3_2).f1).length c104_1) := (blk_cell BK105.out 1).trans rfl; have hfz42_0 := blk_frozen BK105.out 0; have hfz42_1 := blk_frozen BK105.out 1; have p109 : 0 ≤ (x5_4 : Int) := qT qa6; have q109 : x5_4 < (((rd_T41 l0_0 x3_2).f1).length : Int) := qT qa6; obtain ⟨ad109, A109_1, c109_1, e109, hx109_0, hx109_1, hx109_2, hx109_3, hx109_4, hl109_1, hi109_1⟩ := at_T47 HR104_1.out x5_4 p109 q109
               cases e109
               replace hx109_0 := (HB.out.cell (qL w _ hx109_0)).trans hx109_0; replace hx109_1 := (HB.out.cell (qL w _ hx109_1)).trans hx109_1; replace hx109_2 := (HB.out.cell (qL w _ hx109_2)).trans hx109_2; replace hx109_3 := (HB.out.cell (qL w _ hx109_3)).trans hx109_3; replace hx109_4 := (HB.out.cell (qL w _ hx109_4)).trans hx109_4; have HR109_1 := qO hi109_1; have HC109_1 := qO hl109_1; clear hi109_1 hl109_1; replace p109 := eq_true p109; replace q109 := eq_true q109
               go_upto_region 13 with (first | ((with_reducible refine gate_dst (N := 6) rfl ?_); (try (refine gate_guard (by rfl) ?_; dsimp only)); refine box_event ?hg (N := 6) ?hd (cs := #[.string (⟨#[]⟩ : ByteArray), .slice none 0 0, .string (⟨#[]⟩ : ByteArray), .bool false, .bool false]) (t := 47) ?hr ?_; (case hd => rfl); (case hg => rfl); (case hr => exact qa18); intro gb110 hg w43 hbox hb; have n0_ := qO (blk_below (g := gb101) (o := .cells #[.slice (some ad104) l0_0.length c0_0] 30 (0, 0)) qa4 hb); have n1_ := qO (blk_below (g := gb105) (o := .cells #[.string ((rd_T41 l0_0 x3_2).f0), .slice (some ad109) ((rd_T41 l0_0 x3_2).f1).length c104_1] 41 (0, 0)) qa32 hb); have n2_ := qO (below_step qa21 hb); have n3_ := qO (hbox); have n4_ := qO ((qa100 : w.heap.size ≤ gb110)); have n5_ := qO ((qa100 : w.heap.size ≤ gb110)); have n6_ := qO ((qa36 : gb101 ≠ gb110)); have n7_ := qO ((qa67 : gb110 ≠ gb101)); have n8_ := qO ((by rw [hg]; exact Nat.ne_of_lt (blk_lt (g := gb105) (o := .cells #[.string ((rd_T41 l0_0 x3_2).f0), .slice (some ad109) ((rd_T41 l0_0 x3_2).f1).length c104_1] 41 (0, 0)) (by (with_reducible repeat (first | refine qkN ?_ _ | refine qkD ?_ | refine qkA ?_ _)); exact BK105.out)) : gb105 ≠ gb110)); have n9_ := qO ((by rw [hg]; exact Nat.ne_of_gt (blk_lt (g := gb105) (o := .cells #[.string ((rd_T41 l0_0 x3_2).f0), .slice (some ad109) ((rd_T41 l0_0 x3_2).f1).length c104_1] 41 (0, 0)) (by (with_reducible repeat (first | refine qkN ?_ _ | refine qkD ?_ | refine qkA ?_ _)); exact BK105.out)) : gb110 ≠ gb105)); clear BK101; clear BK105; clear HB; have BK101 := n0_; have BK105 := n1_; have HB := n2_; have BK110 := n3_; have GW110 := n4_; have GE110 := n5_; have NB101_110 := n6_; have NB110_101 := n7_; have NB105_110 := n8_; have NB110_105 := n9_; clear n0_ n1_ n2_ n3_ n4_ n5_ n6_ n7_ n8_ n9_; clear hb hbox hg; have hnb44 := NB110_101.out; have hnc44 := NB101_110.out; have hnb45 := NB110_105.out; have hnc45 := NB105_110.out; have hcz46_0 : w43.cell? ⟨gb110, 0, none⟩ = some (.string (⟨#[]⟩ : ByteArray)) := (blk_cell BK110.out 0).trans rfl; have hcz46_1 : w43.cell? ⟨gb110, 1, none⟩ = some (.slice none 0 0) := (blk_cell BK110.out 1).trans rfl; have hcz46_2 : w43.cell? ⟨gb110, 2, none⟩ = some (.string (⟨#[]⟩ : ByteArray)) := (blk_cell BK110.out 2).trans rfl; have hcz46_3 : w43.cell? ⟨gb110, 3, none⟩ = some (.bool false) := (blk_cell BK110.out 3).trans rfl; have hcz46_4 : w43.cell? ⟨gb110, 4, none⟩ = some (.bool false) := (blk_cell BK110.out 4).trans rfl; have hfz46_0 := blk_frozen BK110.out 0; have hfz46_1 := blk_frozen BK110.out 1; have hfz46_2 := blk_frozen BK110.out 2; have hfz46_3 := blk_frozen BK110.out 3; have hfz46_4 := blk_frozen BK110.out 4))
               (try simp only [Act.put, qzA, qzB, qzC])
               go_cut [100] (fun v100 wc => ∃ (kq : Nat) (x100_39 : Bool), v100 = .bool x100_39 ∧ Aside0 (spec_SchemaOK.j4 kq x3_2 x5_4 x100_39 l0_0 ((rd_T41 l0_0 x3_2).f0) ((rd_T41 l0_0 x3_2).f1) ((rd_T47 ((rd_T41 l0_0 x3_2).f1) x5_4).f0) ((rd_T47 ((rd_T41 l0_0 x3_2).f1) x5_4).f1) ((rd_T47 ((rd_T41 l0_0 x3_2).f1) x5_4).f2) ((rd_T47 ((rd_T41 l0_0 x3_2).f1) x5_4).f3) ((rd_T47 ((rd_T41 l0_0 x3_2).f1) x5_4).f4) = some r) ∧ Aside0 (kq ≤ k4) ∧ Aside0 (wc.heap[gb101]? = some (.cells #[(.slice (some ad104) l0_0.length c0_0)] 30 (0, 0))) ∧ Aside0 (wc.heap[gb105]? = some (.cells #[.string ((rd_T41 l0_0 x3_2).f0), (.slice (some ad109) ((rd_T41 l0_0 x3_2).f1).length c104_1)] 41 (0, 0))) ∧ Aside0 (wc.heap[gb110]? = some (.cells #[.string ((rd_T47 ((rd_T41 l0_0 x3_2).f1) x5_4).f0), (.slice A109_1 ((rd_T47 ((rd_T41 l0_0 x3_2).f1) x5_4).f1).length c109_1), .string ((rd_T47 ((rd_T41 l0_0 x3_2).f1) x5_4).f2), .bool ((rd_T47 ((rd_T41 l0_0 x3_2).f1) x5_4).f3), .bool ((rd_T47 ((rd_T41 l0_0 x3_2).f1) x5_4).f4)] 47 (0, 0))) ∧ Aside0 (Below w.heap.size w wc))
               case first =>
                have H := HC40.out; clear HC40; replace H := Option.bind_eq_some_iff.mp H; obtain ⟨t111, A470, H⟩ := H; replace H : (if t111 = true then (if ((rd_T47 ((rd_T41 l0_0 x3_2).f1) x5_4).f0).toList = ([95, 95, 116, 121, 112, 101, 110, 97, 109, 101] : List UInt8) then (spec_SchemaOK.j4 k4 x3_2 x5_4 true l0_0 ((rd_T41 l0_0 x3_2).f0) ((rd_T41 l0_0 x3_2).f1) ((rd_T47 ((rd_T41 l0_0 x3_2).f1) x5_4).f0) ((rd_T47 ((rd_T41 l0_0 x3_2).f1) x5_4).f1) ((rd_T47 ((rd_T41 l0_0 x3_2).f1) x5_4).f2) ((rd_T47 ((rd_T41 l0_0 x3_2).f1) x5_4).f3) ((rd_T47 ((rd_T41 l0_0 x3_2).f1) x5_4).f4)) else ((spec_l03Field.f k4 ((rd_T41 l0_0 x3_2).f0) ((rd_T41 l0_0 x3_2).f1) ((rd_T47 ((rd_T41 l0_0 x3_2).f1) x5_4).f0)).bind fun t112 => (if t112 = x5_4 then (if ((rd_T47 ((rd_T41 l0_0 x3_2).f1) x5_4).f2).toList = ([73, 110, 116] : List UInt8) then (spec_SchemaOK.j4 k4 x3_2 x5_4 (decide ((((rd_T47 ((rd_T41 l0_0 x3_2).f1) x5_4).f1).length : Int) > 4)) l0_0 ((rd_T41 l0_0 x3_2).f0) ((rd_T41 l0_0 x3_2).f1) ((rd_T47 ((rd_T41 l0_0 x3_2).f1) x5_4).f0) ((rd_T47 ((rd_T41 l0_0 x3_2).f1) x5_4).f1) ((rd_T47 ((rd_T41 l0_0 x3_2).f1) x5_4).f2) ((rd_T47 ((rd_T41 l0_0 x3_2).f1) x5_4).f3) ((rd_T47 ((rd_T41 l0_0 x3_2).f1) x5_4).f4)) else ((spec_l03Find.f k4 l0_0 ((rd_T47 ((rd_T41 l0_0 x3_2).f1) x5_4).f2)).bind fun t113 => (if t113 < 0 then (spec_SchemaOK.j4 k4 x3_2 x5_4 true l0_0 ((rd_T41 l0_0 x3_2).f0) ((rd_T41 l0_0 x3_2).f1) ((rd_T47 ((rd_T41 l0_0 x3_2).f1) x5_4).f0) ((rd_T47 ((rd_T41 l0_0 x3_2).f1) x5_4).f1) ((rd_T47 ((rd_T41 l0_0 x3_2).f1) x5_4).f2) ((rd_T47 ((rd_T41 l0_0 x3_2).f1) x5_4).f3) ((rd_T47 ((rd_T41 l0_0 x3_2).f1) x5_4).f4)) else (spec_SchemaOK.j4 k4 x3_2 x5_4 (decide ((((rd_T47 ((rd_T41 l0_0 x3_2).f1) x5_4).f1).length : Int) > 4)) l0_0 ((rd_T41 l0_0 x3_2).f0) ((rd_T41 l0_0 x3_2).f1) ((rd_T47 ((rd_T41 l0_0 x3_2).f1) x5_4).f0) ((rd_T47 ((rd_T41 l0_0 x3_2).f1) x5_4).f1) ((rd_T47 ((rd_T41 l0_0 x3_2).f1) x5_4).f2) ((rd_T47 ((rd_T41 l0_0 x3_2).f1) x5_4).f3) ((rd_T47 ((rd_T41 l0_0 x3_2).f1) x5_4).f4))))) else (spec_SchemaOK.j4 k4 x3_2 x5_4 true l0_0 ((rd_T41 l0_0 x3_2).f0) ((rd_T41 l0_0 x3_2).f1) ((rd_T47 ((rd_T41 l0_0 x3_2).f1) x5_4).f0) ((rd_T47 ((rd_T41 l0_0 x3_2).f1) x5_4).f1) ((rd_T47 ((rd_T41 l0_0 x3_2).f1) x5_4).f2) ((rd_T47 ((rd_T41 l0_0 x3_2).f1) x5_4).f3) ((rd_T47 ((rd_T41 l0_0 x3_2).f1) x5_4).f4))))) else (spec_SchemaOK.j4 k4 x3_2 x5_4 true l0_0 ((rd_T41 l0_0 x3_2).f0) ((rd_T41 l0_0 x3_2).f1) ((rd_T47 ((rd_T41 l0_0 x3_2).f1) x5_4).f0) ((rd_T47 ((rd_T41 l0_0 x3_2).f1) x5_4).f1) ((rd_T47 ((rd_T41 l0_0 x3_2).f1) x5_4).f2) ((rd_T47 ((rd_T41 l0_0 x3_2).f1) x5_4).f3) ((rd_T47 ((rd_T41 l0_0 x3_2).f1) x5_4).f4))) = some r := H; have A47 := qO A470; clear A470
                by_cases c48 : t111 = true
                ·subst c48
                 have H1 : (if ((rd_T47 ((rd_T41 l0_0 x3_2).f1) x5_4).f0).toList = ([95, 95, 116, 121, 112, 101, 110, 97, 109, 101] : List UInt8) then (spec_SchemaOK.j4 k4 x3_2 x5_4 true l0_0 ((rd_T41 l0_0 x3_2).f0) ((rd_T41 l0_0 x3_2).f1) ((rd_T47 ((rd_T41 l0_0 x3_2).f1) x5_4).f0) ((rd_T47 ((rd_T41 l0_0 x3_2).f1) x5_4).f1) ((rd_T47 ((rd_T41 l0_0 x3_2).f1) x5_4).f2) ((rd_T47 ((rd_T41 l0_0 x3_2).f1) x5_4).f3) ((rd_T47 ((rd_T41 l0_0 x3_2).f1) x5_4).f4)) else ((spec_l03Field.f k4 ((rd_T41 l0_0 x3_2).f0) ((rd_T41 l0_0 x3_2).f1) ((rd_T47 ((rd_T41 l0_0 x3_2).f1) x5_4).f0)).bind fun t112 => (if t112 = x5_4 then (if ((rd_T47 ((rd_T41 l0_0 x3_2).f1) x5_4).f2).toList = ([73, 110, 116] : List UInt8) then (spec_SchemaOK.j4 k4 x3_2 x5_4 (decide ((((rd_T47 ((rd_T41 l0_0 x3_2).f1) x5_4).f1).length : Int) > 4)) l0_0 ((rd_T41 l0_0 x3_2).f0) ((rd_T41 l0_0 x3_2).f1) ((rd_T47 ((rd_T41 l0_0 x3_2).f1) x5_4).f0) ((rd_T47 ((rd_T41 l0_0 x3_2).f1) x5_4).f1) ((rd_T47 ((rd_T41 l0_0 x3_2).f1) x5_4).f2) ((rd_T47 ((rd_T41 l0_0 x3_2).f1) x5_4).f3) ((rd_T47 ((rd_T41 l0_0 x3_2).f1) x5_4).f4)) else ((spec_l03Find.f k4 l0_0 ((rd_T47 ((rd_T41 l0_0 x3_2).f1) x5_4).f2)).bind fun t113 => (if t113 < 0 then (spec_SchemaOK.j4 k4 x3_2 x5_4 true l0_0 ((rd_T41 l0_0 x3_2).f0) ((rd_T41 l0_0 x3_2).f1) ((rd_T47 ((rd_T41 l0_0 x3_2).f1) x5_4).f0) ((rd_T47 ((rd_T41 l0_0 x3_2).f1) x5_4).f1) ((rd_T47 ((rd_T41 l0_0 x3_2).f1) x5_4).f2) ((rd_T47 ((rd_T41 l0_0 x3_2).f1) x5_4).f3) ((rd_T47 ((rd_T41 l0_0 x3_2).f1) x5_4).f4)) else (spec_SchemaOK.j4 k4 x3_2 x5_4 (decide ((((rd_T47 ((rd_T41 l0_0 x3_2).f1) x5_4).f1).length : Int) > 4)) l0_0 ((rd_T41 l0_0 x3_2).f0) ((rd_T41 l0_0 x3_2).f1) ((rd_T47 ((rd_T41 l0_0 x3_2).f1) x5_4).f0) ((rd_T47 ((rd_T41 l0_0 x3_2).f1) x5_4).f1) ((rd_T47 ((rd_T41 l0_0 x3_2).f1) x5_4).f2) ((rd_T47 ((rd_T41 l0_0 x3_2).f1) x5_4).f3) ((rd_T47 ((rd_T41 l0_0 x3_2).f1) x5_4).f4))))) else (spec_SchemaOK.j4 k4 x3_2 x5_4 true l0_0 ((rd_T41 l0_0 x3_2).f0) ((rd_T41 l0_0 x3_2).f1) ((rd_T47 ((rd_T41 l0_0 x3_2).f1) x5_4).f0) ((rd_T47 ((rd_T41 l0_0 x3_2).f1) x5_4).f1) ((rd_T47 ((rd_T41 l0_0 x3_2).f1) x5_4).f2) ((rd_T47 ((rd_T41 l0_0 x3_2).f1) x5_4).f3) ((rd_T47 ((rd_T41 l0_0 x3_2).f1) x5_4).f4))))) = some r := by rw [if_pos rfl] at H; exact H
                 clear H; have H := H1; clear H1
                 by_cases c49 : ((rd_T47 ((rd_T41 l0_0 x3_2).f1) x5_4).f0).toList = ([95, 95, 116, 121, 112, 101, 110, 97, 109, 101] : List UInt8)
                 ·rw [if_pos c49] at H
                  have c49b0 : (((rd_T47 ((rd_T41 l0_0 x3_2).f1) x5_4).f0).toList == ([95, 95, 116, 121, 112, 101, 110, 97, 109, 101] : List UInt8)) = true := beq_iff_eq.mpr c49; have c49b1 : (((rd_T47 ((rd_T41 l0_0 x3_2).f1) x5_4).f0).toList != ([95, 95, 116, 121, 112, 101, 110, 97, 109, 101] : List UInt8)) = false := bne_eq_false_iff_eq.mpr c49; clear c49; (first | rw [c49b0] | (simp only [i64_w, i32_w]; rw [c49b0]) | skip); have H' := qO H; clear H; have hnb50 := NB110_101.out; have hnc50 := NB101_110.out; have hnb51 := NB110_105.out; have hnc51 := NB105_110.out; have hcz52_0 : w43.cell? ⟨gb110, 0, none⟩ = some (.string (⟨#[]⟩ : ByteArray)) := (blk_cell BK110.out 0).trans rfl; have hcz52_1 : w43.cell? ⟨gb110, 1, none⟩ = some (.slice none 0 0) := (blk_cell BK110.out 1).trans rfl; have hcz52_2 : w43.cell? ⟨gb110, 2, none⟩ = some (.string (⟨#[]⟩ : ByteArray)) := (blk_cell BK110.out 2).trans rfl; have hcz52_3 : w43.cell? ⟨gb110, 3, none⟩ = some (.bool false) := (blk_cell BK110.out 3).trans rfl; have hcz52_4 : w43.cell? ⟨gb110, 4, none⟩ = some (.bool false) := (blk_cell BK110.out 4).trans rfl; have hfz52_0 := blk_frozen BK110.out 0; have hfz52_1 := blk_frozen BK110.out 1; have hfz52_2 := blk_frozen BK110.out 2; have hfz52_3 := blk_frozen BK110.out 3; have hfz52_4 := blk_frozen BK110.out 4
                  go_wp2_with (first | ((with_reducible refine gate_callee (f := 22) rfl ?_); refine goesL_ (some 68) rfl rfl Tryd.func22 qa16 rfl #[.string ((rd_T47 ((rd_T41 l0_0 x3_2).f1) x5_4).f0)] rfl qa0 ?_; (with_reducible refine (spec_NameOK.calls k4 ((rd_T47 ((rd_T41 l0_0 x3_2).f1) x5_4).f0) true _ A47.out).mono ?_); rintro e w' ⟨rfl, ⟨nd, rfl⟩⟩; refine ⟨_, rfl, ?_⟩))
                  go_meet
                  case rel => exact ⟨_, (true), qa10, H', ⟨qa73⟩, ⟨qa8⟩, ⟨qa9⟩, ⟨qa3⟩, ⟨qa15⟩⟩
                 ·rw [if_neg c49] at H
                  have c49b0 : (((rd_T47 ((rd_T41 l0_0 x3_2).f1) x5_4).f0).toList == ([95, 95, 116, 121, 112, 101, 110, 97, 109, 101] : List UInt8)) = false := beq_eq_false_iff_ne.mpr c49; have c49b1 : (((rd_T47 ((rd_T41 l0_0 x3_2).f1) x5_4).f0).toList != ([95, 95, 116, 121, 112, 101, 110, 97, 109, 101] : List UInt8)) = true := bne_iff_ne.mpr c49; (first | rw [c49b0] | (simp only [i64_w, i32_w]; rw [c49b0]) | skip); replace H := Option.bind_eq_some_iff.mp H; obtain ⟨t112, A530, H⟩ := H; replace H : (if t112 = x5_4 then (if ((rd_T47 ((rd_T41 l0_0 x3_2).f1) x5_4).f2).toList = ([73, 110, 116] : List UInt8) then (spec_SchemaOK.j4 k4 x3_2 x5_4 (decide ((((rd_T47 ((rd_T41 l0_0 x3_2).f1) x5_4).f1).length : Int) > 4)) l0_0 ((rd_T41 l0_0 x3_2).f0) ((rd_T41 l0_0 x3_2).f1) ((rd_T47 ((rd_T41 l0_0 x3_2).f1) x5_4).f0) ((rd_T47 ((rd_T41 l0_0 x3_2).f1) x5_4).f1) ((rd_T47 ((rd_T41 l0_0 x3_2).f1) x5_4).f2) ((rd_T47 ((rd_T41 l0_0 x3_2).f1) x5_4).f3) ((rd_T47 ((rd_T41 l0_0 x3_2).f1) x5_4).f4)) else ((spec_l03Find.f k4 l0_0 ((rd_T47 ((rd_T41 l0_0 x3_2).f1) x5_4).f2)).bind fun t113 => (if t113 < 0 then (spec_SchemaOK.j4 k4 x3_2 x5_4 true l0_0 ((rd_T41 l0_0 x3_2).f0) ((rd_T41 l0_0 x3_2).f1) ((rd_T47 ((rd_T41 l0_0 x3_2).f1) x5_4).f0) ((rd_T47 ((rd_T41 l0_0 x3_2).f1) x5_4).f1) ((rd_T47 ((rd_T41 l0_0 x3_2).f1) x5_4).f2) ((rd_T47 ((rd_T41 l0_0 x3_2).f1) x5_4).f3) ((rd_T47 ((rd_T41 l0_0 x3_2).f1) x5_4).f4)) else (spec_SchemaOK.j4 k4 x3_2 x5_4 (decide ((((rd_T47 ((rd_T41 l0_0 x3_2).f1) x5_4).f1).length : Int) > 4)) l0_0 ((rd_T41 l0_0 x3_2).f0) ((rd_T41 l0_0 x3_2).f1) ((rd_T47 ((rd_T41 l0_0 x3_2).f1) x5_4).f0) ((rd_T47 ((rd_T41 l0_0 x3_2).f1) x5_4).f1) ((rd_T47 ((rd_T41 l0_0 x3_2).f1) x5_4).f2) ((rd_T47 ((rd_T41 l0_0 x3_2).f1) x5_4).f3) ((rd_T47 ((rd_T41 l0_0 x3_2).f1) x5_4).f4))))) else (spec_SchemaOK.j4 k4 x3_2 x5_4 true l0_0 ((rd_T41 l0_0 x3_2).f0) ((rd_T41 l0_0 x3_2).f1) ((rd_T47 ((rd_T41 l0_0 x3_2).f1) x5_4).f0) ((rd_T47 ((rd_T41 l0_0 x3_2).f1) x5_4).f1) ((rd_T47 ((rd_T41 l0_0 x3_2).f1) x5_4).f2) ((rd_T47 ((rd_T41 l0_0 x3_2).f1) x5_4).f3) ((rd_T47 ((rd_T41 l0_0 x3_2).f1) x5_4).f4))) = some r := H; have A53 := qO A530; clear A530
                  by_cases c54 : t112 = x5_4
                  ·rw [if_pos c54] at H
                   have c54b0 : (t112 == x5_4) = true := beq_iff_eq.mpr c54; have c54b1 : (t112 != x5_4) = false := bne_eq_false_iff_eq.mpr c54; clear c54
                   by_cases c55 : ((rd_T47 ((rd_T41 l0_0 x3_2).f1) x5_4).f2).toList = ([73, 110, 116] : List UInt8)
                   ·rw [if_pos c55] at H
                    have c55b0 : (((rd_T47 ((rd_T41 l0_0 x3_2).f1) x5_4).f2).toList == ([73, 110, 116] : List UInt8)) = true := beq_iff_eq.mpr c55; have c55b1 : (((rd_T47 ((rd_T41 l0_0 x3_2).f1) x5_4).f2).toList != ([73, 110, 116] : List UInt8)) = false := bne_eq_false_iff_eq.mpr c55; clear c55; have H' := qO H; clear H; have hnb56 := NB110_101.out; have hnc56 := NB101_110.out; have hnb57 := NB110_105.out; have hnc57 := NB105_110.out; have hcz58_0 : w43.cell? ⟨gb110, 0, none⟩ = some (.string (⟨#[]⟩ : ByteArray)) := (blk_cell BK110.out 0).trans rfl; have hcz58_1 : w43.cell? ⟨gb110, 1, none⟩ = some (.slice none 0 0) := (blk_cell BK110.out 1).trans rfl; have hcz58_2 : w43.cell? ⟨gb110, 2, none⟩ = some (.string (⟨#[]⟩ : ByteArray)) := (blk_cell BK110.out 2).trans rfl; have hcz58_3 : w43.cell? ⟨gb110, 3, none⟩ = some (.bool false) := (blk_cell BK110.out 3).trans rfl; have hcz58_4 : w43.cell? ⟨gb110, 4, none⟩ = some (.bool false) := (blk_cell BK110.out 4).trans rfl; have hfz58_0 := blk_frozen BK110.out 0; have hfz58_1 := blk_frozen BK110.out 1; have hfz58_2 := blk_frozen BK110.out 2; have hfz58_3 := blk_frozen BK110.out 3; have hfz58_4 := blk_frozen BK110.out 4
                    go_wp2_with (first | ((with_reducible refine gate_callee (f := 22) rfl ?_); refine goesL_ (some 68) rfl rfl Tryd.func22 qa16 rfl #[.string ((rd_T47 ((rd_T41 l0_0 x3_2).f1) x5_4).f0)] rfl qa0 ?_; (with_reducible refine (spec_NameOK.calls k4 ((rd_T47 ((rd_T41 l0_0 x3_2).f1) x5_4).f0) true _ A47.out).mono ?_); rintro e w' ⟨rfl, ⟨nd, rfl⟩⟩; refine ⟨_, rfl, ?_⟩; have hnb59 := NB105_101.out; have hnc59 := NB101_105.out; have hcz60_0 : w43.cell? ⟨gb105, 0, none⟩ = some (.string ((rd_T41 l0_0 x3_2).f0)) := (blk_cell BK105.out 0).trans rfl; have hcz60_1 : w43.cell? ⟨gb105, 1, none⟩ = some (.slice (some ad109) ((rd_T41 l0_0 x3_2).f1).length c104_1) := (blk_cell BK105.out 1).trans rfl; have hfz60_0 := blk_frozen BK105.out 0; have hfz60_1 := blk_frozen BK105.out 1) | (go_at_call 23; (with_reducible refine (spec_l03Field.calls k4 ((rd_T41 l0_0 x3_2).f0) _ _ ((rd_T41 l0_0 x3_2).f1) ((rd_T47 ((rd_T41 l0_0 x3_2).f1) x5_4).f0) t112 _ ?side1 ?side2 A53.out).mono ?_); (case side1 => exact qa56); (case side2 => exact HC104_1.out); rintro e w61 ⟨rfl, hb⟩; have n0_ := qO (blk_below (g := gb101) (o := .cells #[.slice (some ad104) l0_0.length c0_0] 30 (0, 0)) qa8 hb); have n1_ := qO (blk_below (g := gb105) (o := .cells #[.string ((rd_T41 l0_0 x3_2).f0), .slice (some ad109) ((rd_T41 l0_0 x3_2).f1).length c104_1] 41 (0, 0)) qa9 hb); have n2_ := qO (blk_below (g := gb110) (o := .cells #[.string ((rd_T47 ((rd_T41 l0_0 x3_2).f1) x5_4).f0), .slice A109_1 ((rd_T47 ((rd_T41 l0_0 x3_2).f1) x5_4).f1).length c109_1, .string ((rd_T47 ((rd_T41 l0_0 x3_2).f1) x5_4).f2), .bool ((rd_T47 ((rd_T41 l0_0 x3_2).f1) x5_4).f3), .bool ((rd_T47 ((rd_T41 l0_0 x3_2).f1) x5_4).f4)] 47 (0, 0)) qa3 hb); have n3_ := qO (below_step qa15 hb); clear BK101; clear BK105; clear BK110; clear HB; have BK101 := n0_; have BK105 := n1_; have BK110 := n2_; have HB := n3_; clear n0_ n1_ n2_ n3_; (try clear hb); (try clear hb2); (try clear hk); (try clear hi); have hcz62_0 : w61.cell? ⟨gb110, 0, none⟩ = some (.string ((rd_T47 ((rd_T41 l0_0 x3_2).f1) x5_4).f0)) := (blk_cell BK110.out 0).trans rfl; have hcz62_1 : w61.cell? ⟨gb110, 1, none⟩ = some (.slice A109_1 ((rd_T47 ((rd_T41 l0_0 x3_2).f1) x5_4).f1).length c109_1) := (blk_cell BK110.out 1).trans rfl; have hcz62_2 : w61.cell? ⟨gb110, 2, none⟩ = some (.string ((rd_T47 ((rd_T41 l0_0 x3_2).f1) x5_4).f2)) := (blk_cell BK110.out 2).trans rfl; have hcz62_3 : w61.cell? ⟨gb110, 3, none⟩ = some (.bool ((rd_T47 ((rd_T41 l0_0 x3_2).f1) x5_4).f3)) := (blk_cell BK110.out 3).trans rfl; have hcz62_4 : w61.cell? ⟨gb110, 4, none⟩ = some (.bool ((rd_T47 ((rd_T41 l0_0 x3_2).f1) x5_4).f4)) := (blk_cell BK110.out 4).trans rfl; have hfz62_0 := blk_frozen BK110.out 0; have hfz62_1 := blk_frozen BK110.out 1; have hfz62_2 := blk_frozen BK110.out 2; have hfz62_3 := blk_frozen BK110.out 3; have hfz62_4 := blk_frozen BK110.out 4))
                    go_meet
                    case rel => exact ⟨_, (decide ((((rd_T47 ((rd_T41 l0_0 x3_2).f1) x5_4).f1).length : Int) > 4)), qa10, H', ⟨qa73⟩, ⟨qa4⟩, ⟨qa32⟩, ⟨qa40⟩, ⟨qa15⟩⟩
                   ·rw [if_neg c55] at H
                    have c55b0 : (((rd_T47 ((rd_T41 l0_0 x3_2).f1) x5_4).f2).toList == ([73, 110, 116] : List UInt8)) = false := beq_eq_false_iff_ne.mpr c55; have c55b1 : (((rd_T47 ((rd_T41 l0_0 x3_2).f1) x5_4).f2).toList != ([73, 110, 116] : List UInt8)) = true := bne_iff_ne.mpr c55; replace H := Option.bind_eq_some_iff.mp H; obtain ⟨t113, A630, H⟩ := H; replace H : (if t113 < 0 then (spec_SchemaOK.j4 k4 x3_2 x5_4 true l0_0 ((rd_T41 l0_0 x3_2).f0) ((rd_T41 l0_0 x3_2).f1) ((rd_T47 ((rd_T41 l0_0 x3_2).f1) x5_4).f0) ((rd_T47 ((rd_T41 l0_0 x3_2).f1) x5_4).f1) ((rd_T47 ((rd_T41 l0_0 x3_2).f1) x5_4).f2) ((rd_T47 ((rd_T41 l0_0 x3_2).f1) x5_4).f3) ((rd_T47 ((rd_T41 l0_0 x3_2).f1) x5_4).f4)) else (spec_SchemaOK.j4 k4 x3_2 x5_4 (decide ((((rd_T47 ((rd_T41 l0_0 x3_2).f1) x5_4).f1).length : Int) > 4)) l0_0 ((rd_T41 l0_0 x3_2).f0) ((rd_T41 l0_0 x3_2).f1) ((rd_T47 ((rd_T41 l0_0 x3_2).f1) x5_4).f0) ((rd_T47 ((rd_T41 l0_0 x3_2).f1) x5_4).f1) ((rd_T47 ((rd_T41 l0_0 x3_2).f1) x5_4).f2) ((rd_T47 ((rd_T41 l0_0 x3_2).f1) x5_4).f3) ((rd_T47 ((rd_T41 l0_0 x3_2).f1) x5_4).f4))) = some r := H; have A63 := qO A630; clear A630
                    by_cases c64 : t113 < 0
                    ·rw [if_pos c64] at H
                     have c64b0 : decide (t113 < 0) = true := decide_eq_true c64; clear c64; have H' := qO H; clear H; have hnb65 := NB110_101.out; have hnc65 := NB101_110.out; have hnb66 := NB110_105.out; have hnc66 := NB105_110.out; have hcz67_0 : w43.cell? ⟨gb110, 0, none⟩ = some (.string (⟨#[]⟩ : ByteArray)) := (blk_cell BK110.out 0).trans rfl; have hcz67_1 : w43.cell? ⟨gb110, 1, none⟩ = some (.slice none 0 0) := (blk_cell BK110.out 1).trans rfl; have hcz67_2 : w43.cell? ⟨gb110, 2, none⟩ = some (.string (⟨#[]⟩ : ByteArray)) := (blk_cell BK110.out 2).trans rfl; have hcz67_3 : w43.cell? ⟨gb110, 3, none⟩ = some (.bool false) := (blk_cell BK110.out 3).trans rfl; have hcz67_4 : w43.cell? ⟨gb110, 4, none⟩ = some (.bool false) := (blk_cell BK110.out 4).trans rfl; have hfz67_0 := blk_frozen BK110.out 0; have hfz67_1 := blk_frozen BK110.out 1; have hfz67_2 := blk_frozen BK110.out 2; have hfz67_3 := blk_frozen BK110.out 3; have hfz67_4 := blk_frozen BK110.out 4
                     go_wp2_with (first | ((with_reducible refine gate_callee (f := 22) rfl ?_); refine goesL_ (some 68) rfl rfl Tryd.func22 qa16 rfl #[.string ((rd_T47 ((rd_T41 l0_0 x3_2).f1) x5_4).f0)] rfl qa0 ?_; (with_reducible refine (spec_NameOK.calls k4 ((rd_T47 ((rd_T41 l0_0 x3_2).f1) x5_4).f0) true _ A47.out).mono ?_); rintro e w' ⟨rfl, ⟨nd, rfl⟩⟩; refine ⟨_, rfl, ?_⟩; have hnb68 := NB105_101.out; have hnc68 := NB101_105.out; have hcz69_0 : w43.cell? ⟨gb105, 0, none⟩ = some (.string ((rd_T41 l0_0 x3_2).f0)) := (blk_cell BK105.out 0).trans rfl; have hcz69_1 : w43.cell? ⟨gb105, 1, none⟩ = some (.slice (some ad109) ((rd_T41 l0_0 x3_2).f1).length c104_1) := (blk_cell BK105.out 1).trans rfl; have hfz69_0 := blk_frozen BK105.out 0; have hfz69_1 := blk_frozen BK105.out 1) | (go_at_call 23; (with_reducible refine (spec_l03Field.calls k4 ((rd_T41 l0_0 x3_2).f0) _ _ ((rd_T41 l0_0 x3_2).f1) ((rd_T47 ((rd_T41 l0_0 x3_2).f1) x5_4).f0) t112 _ ?side1 ?side2 A53.out).mono ?_); (case side1 => exact qa56); (case side2 => exact HC104_1.out); rintro e w70 ⟨rfl, hb⟩; have n0_ := qO (blk_below (g := gb101) (o := .cells #[.slice (some ad104) l0_0.length c0_0] 30 (0, 0)) qa8 hb); have n1_ := qO (blk_below (g := gb105) (o := .cells #[.string ((rd_T41 l0_0 x3_2).f0), .slice (some ad109) ((rd_T41 l0_0 x3_2).f1).length c104_1] 41 (0, 0)) qa9 hb); have n2_ := qO (blk_below (g := gb110) (o := .cells #[.string ((rd_T47 ((rd_T41 l0_0 x3_2).f1) x5_4).f0), .slice A109_1 ((rd_T47 ((rd_T41 l0_0 x3_2).f1) x5_4).f1).length c109_1, .string ((rd_T47 ((rd_T41 l0_0 x3_2).f1) x5_4).f2), .bool ((rd_T47 ((rd_T41 l0_0 x3_2).f1) x5_4).f3), .bool ((rd_T47 ((rd_T41 l0_0 x3_2).f1) x5_4).f4)] 47 (0, 0)) qa3 hb); have n3_ := qO (below_step qa15 hb); clear BK101; clear BK105; clear BK110; clear HB; have BK101 := n0_; have BK105 := n1_; have BK110 := n2_; have HB := n3_; clear n0_ n1_ n2_ n3_; (try clear hb); (try clear hb2); (try clear hk); (try clear hi); have hcz71_0 : w70.cell? ⟨gb110, 0, none⟩ = some (.string ((rd_T47 ((rd_T41 l0_0 x3_2).f1) x5_4).f0)) := (blk_cell BK110.out 0).trans rfl; have hcz71_1 : w70.cell? ⟨gb110, 1, none⟩ = some (.slice A109_1 ((rd_T47 ((rd_T41 l0_0 x3_2).f1) x5_4).f1).length c109_1) := (blk_cell BK110.out 1).trans rfl; have hcz71_2 : w70.cell? ⟨gb110, 2, none⟩ = some (.string ((rd_T47 ((rd_T41 l0_0 x3_2).f1) x5_4).f2)) := (blk_cell BK110.out 2).trans rfl; have hcz71_3 : w70.cell? ⟨gb110, 3, none⟩ = some (.bool ((rd_T47 ((rd_T41 l0_0 x3_2).f1) x5_4).f3)) := (blk_cell BK110.out 3).trans rfl; have hcz71_4 : w70.cell? ⟨gb110, 4, none⟩ = some (.bool ((rd_T47 ((rd_T41 l0_0 x3_2).f1) x5_4).f4)) := (blk_cell BK110.out 4).trans rfl; have hfz71_0 := blk_frozen BK110.out 0; have hfz71_1 := blk_frozen BK110.out 1; have hfz71_2 := blk_frozen BK110.out 2; have hfz71_3 := blk_frozen BK110.out 3; have hfz71_4 := blk_frozen BK110.out 4; have hcz72_0 : w70.cell? ⟨gb101, 0, none⟩ = some (.slice (some ad104) l0_0.length c0_0) := (blk_cell BK101.out 0).trans rfl; have hfz72_0 := blk_frozen BK101.out 0) | (go_at_call 21; (with_reducible refine (spec_l03Find.calls k4 _ _ l0_0 ((rd_T47 ((rd_T41 l0_0 x3_2).f1) x5_4).f2) t113 _ ?side1 ?side2 A63.out).mono ?_); (case side1 => exact qa23); (case side2 => exact HC0_0.out); rintro e w73 ⟨rfl, hb⟩; have hx_ := qHX HB hb qa1; have n0_ := qO (qB BK101.out hx_ hb); have n1_ := qO (qB BK105.out hx_ hb); have n2_ := qO (blk_below (g := gb110) (o := .cells #[.string ((rd_T47 ((rd_T41 l0_0 x3_2).f1) x5_4).f0), .slice A109_1 ((rd_T47 ((rd_T41 l0_0 x3_2).f1) x5_4).f1).length c109_1, .string ((rd_T47 ((rd_T41 l0_0 x3_2).f1) x5_4).f2), .bool ((rd_T47 ((rd_T41 l0_0 x3_2).f1) x5_4).f3), .bool ((rd_T47 ((rd_T41 l0_0 x3_2).f1) x5_4).f4)] 47 (0, 0)) qa40 hb); have n3_ := qO (below_step (below_step HB.out hx_) hb); clear BK101; clear BK105; clear BK110; clear HB; have BK101 := n0_; have BK105 := n1_; have BK110 := n2_; have HB := n3_; clear n0_ n1_ n2_ n3_; clear hx_; (try clear hb); (try clear hb2); (try clear hk); (try clear hi)))
                     go_meet
                     case rel => exact ⟨_, (true), qa10, H', ⟨qa73⟩, ⟨qa4⟩, ⟨qa32⟩, ⟨qa40⟩, ⟨qa15⟩⟩
                    ·rw [if_neg c64] at H
                     have c64b0 : decide (t113 < 0) = false := decide_eq_false c64; clear c64; have H' := qO H; clear H; have hnb74 := NB110_101.out; have hnc74 := NB101_110.out; have hnb75 := NB110_105.out; have hnc75 := NB105_110.out; have hcz76_0 : w43.cell? ⟨gb110, 0, none⟩ = some (.string (⟨#[]⟩ : ByteArray)) := (blk_cell BK110.out 0).trans rfl; have hcz76_1 : w43.cell? ⟨gb110, 1, none⟩ = some (.slice none 0 0) := (blk_cell BK110.out 1).trans rfl; have hcz76_2 : w43.cell? ⟨gb110, 2, none⟩ = some (.string (⟨#[]⟩ : ByteArray)) := (blk_cell BK110.out 2).trans rfl; have hcz76_3 : w43.cell? ⟨gb110, 3, none⟩ = some (.bool false) := (blk_cell BK110.out 3).trans rfl; have hcz76_4 : w43.cell? ⟨gb110, 4, none⟩ = some (.bool false) := (blk_cell BK110.out 4).trans rfl; have hfz76_0 := blk_frozen BK110.out 0; have hfz76_1 := blk_frozen BK110.out 1; have hfz76_2 := blk_frozen BK110.out 2; have hfz76_3 := blk_frozen BK110.out 3; have hfz76_4 := blk_frozen BK110.out 4
                     go_wp2_with (first | ((with_reducible refine gate_callee (f := 22) rfl ?_); refine goesL_ (some 68) rfl rfl Tryd.func22 qa16 rfl #[.string ((rd_T47 ((rd_T41 l0_0 x3_2).f1) x5_4).f0)] rfl qa0 ?_; (with_reducible refine (spec_NameOK.calls k4 ((rd_T47 ((rd_T41 l0_0 x3_2).f1) x5_4).f0) true _ A47.out).mono ?_); rintro e w' ⟨rfl, ⟨nd, rfl⟩⟩; refine ⟨_, rfl, ?_⟩; have hnb77 := NB105_101.out; have hnc77 := NB101_105.out; have hcz78_0 : w43.cell? ⟨gb105, 0, none⟩ = some (.string ((rd_T41 l0_0 x3_2).f0)) := (blk_cell BK105.out 0).trans rfl; have hcz78_1 : w43.cell? ⟨gb105, 1, none⟩ = some (.slice (some ad109) ((rd_T41 l0_0 x3_2).f1).length c104_1) := (blk_cell BK105.out 1).trans rfl; have hfz78_0 := blk_frozen BK105.out 0; have hfz78_1 := blk_frozen BK105.out 1) | (go_at_call 23; (with_reducible refine (spec_l03Field.calls k4 ((rd_T41 l0_0 x3_2).f0) _ _ ((rd_T41 l0_0 x3_2).f1) ((rd_T47 ((rd_T41 l0_0 x3_2).f1) x5_4).f0) t112 _ ?side1 ?side2 A53.out).mono ?_); (case side1 => exact qa56); (case side2 => exact HC104_1.out); rintro e w79 ⟨rfl, hb⟩; have n0_ := qO (blk_below (g := gb101) (o := .cells #[.slice (some ad104) l0_0.length c0_0] 30 (0, 0)) qa8 hb); have n1_ := qO (blk_below (g := gb105) (o := .cells #[.string ((rd_T41 l0_0 x3_2).f0), .slice (some ad109) ((rd_T41 l0_0 x3_2).f1).length c104_1] 41 (0, 0)) qa9 hb); have n2_ := qO (blk_below (g := gb110) (o := .cells #[.string ((rd_T47 ((rd_T41 l0_0 x3_2).f1) x5_4).f0), .slice A109_1 ((rd_T47 ((rd_T41 l0_0 x3_2).f1) x5_4).f1).length c109_1, .string ((rd_T47 ((rd_T41 l0_0 x3_2).f1) x5_4).f2), .bool ((rd_T47 ((rd_T41 l0_0 x3_2).f1) x5_4).f3), .bool ((rd_T47 ((rd_T41 l0_0 x3_2).f1) x5_4).f4)] 47 (0, 0)) qa3 hb); have n3_ := qO (below_step qa15 hb); clear BK101; clear BK105; clear BK110; clear HB; have BK101 := n0_; have BK105 := n1_; have BK110 := n2_; have HB := n3_; clear n0_ n1_ n2_ n3_; (try clear hb); (try clear hb2); (try clear hk); (try clear hi); have hcz80_0 : w79.cell? ⟨gb110, 0, none⟩ = some (.string ((rd_T47 ((rd_T41 l0_0 x3_2).f1) x5_4).f0)) := (blk_cell BK110.out 0).trans rfl; have hcz80_1 : w79.cell? ⟨gb110, 1, none⟩ = some (.slice A109_1 ((rd_T47 ((rd_T41 l0_0 x3_2).f1) x5_4).f1).length c109_1) := (blk_cell BK110.out 1).trans rfl; have hcz80_2 : w79.cell? ⟨gb110, 2, none⟩ = some (.string ((rd_T47 ((rd_T41 l0_0 x3_2).f1) x5_4).f2)) := (blk_cell BK110.out 2).trans rfl; have hcz80_3 : w79.cell? ⟨gb110, 3, none⟩ = some (.bool ((rd_T47 ((rd_T41 l0_0 x3_2).f1) x5_4).f3)) := (blk_cell BK110.out 3).trans rfl; have hcz80_4 : w79.cell? ⟨gb110, 4, none⟩ = some (.bool ((rd_T47 ((rd_T41 l0_0 x3_2).f1) x5_4).f4)) := (blk_cell BK110.out 4).trans rfl; have hfz80_0 := blk_frozen BK110.out 0; have hfz80_1 := blk_frozen BK110.out 1; have hfz80_2 := blk_frozen BK110.out 2; have hfz80_3 := blk_frozen BK110.out 3; have hfz80_4 := blk_frozen BK110.out 4; have hcz81_0 : w79.cell? ⟨gb101, 0, none⟩ = some (.slice (some ad104) l0_0.length c0_0) := (blk_cell BK101.out 0).trans rfl; have hfz81_0 := blk_frozen BK101.out 0) | (go_at_call 21; (with_reducible refine (spec_l03Find.calls k4 _ _ l0_0 ((rd_T47 ((rd_T41 l0_0 x3_2).f1) x5_4).f2) t113 _ ?side1 ?side2 A63.out).mono ?_); (case side1 => exact qa23); (case side2 => exact HC0_0.out); rintro e w82 ⟨rfl, hb⟩; have hx_ := qHX HB hb qa1; have n0_ := qO (qB BK101.out hx_ hb); have n1_ := qO (qB BK105.out hx_ hb); have n2_ := qO (blk_below (g := gb110) (o := .cells #[.string ((rd_T47 ((rd_T41 l0_0 x3_2).f1) x5_4).f0), .slice A109_1 ((rd_T47 ((rd_T41 l0_0 x3_2).f1) x5_4).f1).length c109_1, .string ((rd_T47 ((rd_T41 l0_0 x3_2).f1) x5_4).f2), .bool ((rd_T47 ((rd_T41 l0_0 x3_2).f1) x5_4).f3), .bool ((rd_T47 ((rd_T41 l0_0 x3_2).f1) x5_4).f4)] 47 (0, 0)) qa40 hb); have n3_ := qO (below_step (below_step HB.out hx_) hb); clear BK101; clear BK105; clear BK110; clear HB; have BK101 := n0_; have BK105 := n1_; have BK110 := n2_; have HB := n3_; clear n0_ n1_ n2_ n3_; clear hx_; (try clear hb); (try clear hb2); (try clear hk); (try clear hi); have hcz83_0 : w82.cell? ⟨gb110, 0, none⟩ = some (.string ((rd_T47 ((rd_T41 l0_0 x3_2).f1) x5_4).f0)) := (blk_cell BK110.out 0).trans rfl; have hcz83_1 : w82.cell? ⟨gb110, 1, none⟩ = some (.slice A109_1 ((rd_T47 ((rd_T41 l0_0 x3_2).f1) x5_4).f1).length c109_1) := (blk_cell BK110.out 1).trans rfl; have hcz83_2 : w82.cell? ⟨gb110, 2, none⟩ = some (.string ((rd_T47 ((rd_T41 l0_0 x3_2).f1) x5_4).f2)) := (blk_cell BK110.out 2).trans rfl; have hcz83_3 : w82.cell? ⟨gb110, 3, none⟩ = some (.bool ((rd_T47 ((rd_T41 l0_0 x3_2).f1) x5_4).f3)) := (blk_cell BK110.out 3).trans rfl; have hcz83_4 : w82.cell? ⟨gb110, 4, none⟩ = some (.bool ((rd_T47 ((rd_T41 l0_0 x3_2).f1) x5_4).f4)) := (blk_cell BK110.out 4).trans rfl; have hfz83_0 := blk_frozen BK110.out 0; have hfz83_1 := blk_frozen BK110.out 1; have hfz83_2 := blk_frozen BK110.out 2; have hfz83_3 := blk_frozen BK110.out 3; have hfz83_4 := blk_frozen BK110.out 4))
                     go_meet
                     case rel => exact ⟨_, (decide ((((rd_T47 ((rd_T41 l0_0 x3_2).f1) x5_4).f1).length : Int) > 4)), qa10, H', ⟨qa73⟩, ⟨qa4⟩, ⟨qa32⟩, ⟨qa40⟩, ⟨qa15⟩⟩
                  ·rw [if_neg c54] at H
                   have c54b0 : (t112 == x5_4) = false := beq_eq_false_iff_ne.mpr c54; have c54b1 : (t112 != x5_4) = true := bne_iff_ne.mpr c54; have H' := qO H; clear H; have hnb84 := NB110_101.out; have hnc84 := NB101_110.out; have hnb85 := NB110_105.out; have hnc85 := NB105_110.out; have hcz86_0 : w43.cell? ⟨gb110, 0, none⟩ = some (.string (⟨#[]⟩ : ByteArray)) := (blk_cell BK110.out 0).trans rfl; have hcz86_1 : w43.cell? ⟨gb110, 1, none⟩ = some (.slice none 0 0) := (blk_cell BK110.out 1).trans rfl; have hcz86_2 : w43.cell? ⟨gb110, 2, none⟩ = some (.string (⟨#[]⟩ : ByteArray)) := (blk_cell BK110.out 2).trans rfl; have hcz86_3 : w43.cell? ⟨gb110, 3, none⟩ = some (.bool false) := (blk_cell BK110.out 3).trans rfl; have hcz86_4 : w43.cell? ⟨gb110, 4, none⟩ = some (.bool false) := (blk_cell BK110.out 4).trans rfl; have hfz86_0 := blk_frozen BK110.out 0; have hfz86_1 := blk_frozen BK110.out 1; have hfz86_2 := blk_frozen BK110.out 2; have hfz86_3 := blk_frozen BK110.out 3; have hfz86_4 := blk_frozen BK110.out 4
                   go_wp2_with (first | ((with_reducible refine gate_callee (f := 22) rfl ?_); refine goesL_ (some 68) rfl rfl Tryd.func22 qa16 rfl #[.string ((rd_T47 ((rd_T41 l0_0 x3_2).f1) x5_4).f0)] rfl qa0 ?_; (with_reducible refine (spec_NameOK.calls k4 ((rd_T47 ((rd_T41 l0_0 x3_2).f1) x5_4).f0) true _ A47.out).mono ?_); rintro e w' ⟨rfl, ⟨nd, rfl⟩⟩; refine ⟨_, rfl, ?_⟩; have hnb87 := NB105_101.out; have hnc87 := NB101_105.out; have hcz88_0 : w43.cell? ⟨gb105, 0, none⟩ = some (.string ((rd_T41 l0_0 x3_2).f0)) := (blk_cell BK105.out 0).trans rfl; have hcz88_1 : w43.cell? ⟨gb105, 1, none⟩ = some (.slice (some ad109) ((rd_T41 l0_0 x3_2).f1).length c104_1) := (blk_cell BK105.out 1).trans rfl; have hfz88_0 := blk_frozen BK105.out 0; have hfz88_1 := blk_frozen BK105.out 1) | (go_at_call 23; (with_reducible refine (spec_l03Field.calls k4 ((rd_T41 l0_0 x3_2).f0) _ _ ((rd_T41 l0_0 x3_2).f1) ((rd_T47 ((rd_T41 l0_0 x3_2).f1) x5_4).f0) t112 _ ?side1 ?side2 A53.out).mono ?_); (case side1 => exact qa56); (case side2 => exact HC104_1.out); rintro e w89 ⟨rfl, hb⟩; have n0_ := qO (blk_below (g := gb101) (o := .cells #[.slice (some ad104) l0_0.length c0_0] 30 (0, 0)) qa8 hb); have n1_ := qO (blk_below (g := gb105) (o := .cells #[.string ((rd_T41 l0_0 x3_2).f0), .slice (some ad109) ((rd_T41 l0_0 x3_2).f1).length c104_1] 41 (0, 0)) qa9 hb); have n2_ := qO (blk_below (g := gb110) (o := .cells #[.string ((rd_T47 ((rd_T41 l0_0 x3_2).f1) x5_4).f0), .slice A109_1 ((rd_T47 ((rd_T41 l0_0 x3_2).f1) x5_4).f1).length c109_1, .string ((rd_T47 ((rd_T41 l0_0 x3_2).f1) x5_4).f2), .bool ((rd_T47 ((rd_T41 l0_0 x3_2).f1) x5_4).f3), .bool ((rd_T47 ((rd_T41 l0_0 x3_2).f1) x5_4).f4)] 47 (0, 0)) qa3 hb); have n3_ := qO (below_step qa15 hb); clear BK101; clear BK105; clear BK110; clear HB; have BK101 := n0_; have BK105 := n1_; have BK110 := n2_; have HB := n3_; clear n0_ n1_ n2_ n3_; (try clear hb); (try clear hb2); (try clear hk); (try clear hi)))
                   go_meet
                   case rel => exact ⟨_, (true), qa10, H', ⟨qa73⟩, ⟨qa4⟩, ⟨qa32⟩, ⟨qa40⟩, ⟨qa15⟩⟩
                ·replace c48 := Bool.eq_false_iff.mpr c48
                 subst c48; have H1 : (spec_SchemaOK.j4 k4 x3_2 x5_4 true l0_0 ((rd_T41 l0_0 x3_2).f0) ((rd_T41 l0_0 x3_2).f1) ((rd_T47 ((rd_T41 l0_0 x3_2).f1) x5_4).f0) ((rd_T47 ((rd_T41 l0_0 x3_2).f1) x5_4).f1) ((rd_T47 ((rd_T41 l0_0 x3_2).f1) x5_4).f2) ((rd_T47 ((rd_T41 l0_0 x3_2).f1) x5_4).f3) ((rd_T47 ((rd_T41 l0_0 x3_2).f1) x5_4).f4)) = some r := by rw [if_neg (show ¬ (false = true) by decide)] at H; exact H
                 clear H; have H := H1; clear H1; have H' := qO H; clear H; have hnb90 := NB110_101.out; have hnc90 := NB101_110.out; have hnb91 := NB110_105.out; have hnc91 := NB105_110.out; have hcz92_0 : w43.cell? ⟨gb110, 0, none⟩ = some (.string (⟨#[]⟩ : ByteArray)) := (blk_cell BK110.out 0).trans rfl; have hcz92_1 : w43.cell? ⟨gb110, 1, none⟩ = some (.slice none 0 0) := (blk_cell BK110.out 1).trans rfl; have hcz92_2 : w43.cell? ⟨gb110, 2, none⟩ = some (.string (⟨#[]⟩ : ByteArray)) := (blk_cell BK110.out 2).trans rfl; have hcz92_3 : w43.cell? ⟨gb110, 3, none⟩ = some (.bool false) := (blk_cell BK110.out 3).trans rfl; have hcz92_4 : w43.cell? ⟨gb110, 4, none⟩ = some (.bool false) := (blk_cell BK110.out 4).trans rfl; have hfz92_0 := blk_frozen BK110.out 0; have hfz92_1 := blk_frozen BK110.out 1; have hfz92_2 := blk_frozen BK110.out 2; have hfz92_3 := blk_frozen BK110.out 3; have hfz92_4 := blk_frozen BK110.out 4
                 go_wp2_with (first | ((with_reducible refine gate_callee (f := 22) rfl ?_); refine goesL_ (some 68) rfl rfl Tryd.func22 qa16 rfl #[.string ((rd_T47 ((rd_T41 l0_0 x3_2).f1) x5_4).f0)] rfl qa0 ?_; (with_reducible refine (spec_NameOK.calls k4 ((rd_T47 ((rd_T41 l0_0 x3_2).f1) x5_4).f0) false _ A47.out).mono ?_); rintro e w' ⟨rfl, ⟨nd, rfl⟩⟩; refine ⟨_, rfl, ?_⟩))
                 go_meet
                 case rel => exact ⟨_, (true), qa10, H', ⟨qa73⟩, ⟨qa8⟩, ⟨qa9⟩, ⟨qa3⟩, ⟨qa15⟩⟩
               case rest =>
                clear HC40
                try clear c1
                try clear p1
                try clear q1
                try clear hx1
                try clear c2
                try clear p2
                try clear c3
                try clear c4
                try clear c5
                try clear c6
                try clear c7
                try clear c8
                try clear c9
                try clear c10
                try clear p10
                try clear q10
                try clear hx10
                try clear c11
                try clear c11b0
                try clear c12
                try clear c12b0
                try clear c16
                try clear c19
                try clear c20
                try clear c20b0
                try clear c20b1
                try clear c21
                try clear c22
                try clear c24
                try clear c24b0
                try clear c24b1
                try clear c26
                try clear c31
                try clear c35
                try clear c37
                try clear c38
                try clear c38b0
                try clear c39
                try clear c39b0
                try clear c41
                try clear c44
                try clear c45
                try clear c48
                try clear c49
                try clear c49b0
                try clear c49b1
                try clear c50
                try clear c51
                try clear c54
                try clear c54b0
                try clear c54b1
                try clear c55
                try clear c55b0
                try clear c55b1
                try clear c56
                try clear c57
                try clear c59
                try clear c64
                try clear c64b0
                try clear c65
                try clear c66
                try clear c68
                try clear c74
                try clear c75
                try clear c77
                try clear c84
                try clear c85
                try clear c87
                try clear c90
                try clear c91
                try clear hcz14_0
                try clear hcz17_0
                try clear hcz17_1
                try clear hcz22_0
                try clear hcz22_1
                try clear hcz27_0
                try clear hcz27_1
                try clear hcz28_0
                try clear hcz30_0
                try clear hcz30_1
                try clear hcz32_0
                try clear hcz32_1
                try clear hcz33_0
                try clear hcz36_0
                try clear hcz36_1
                try clear hcz42_0
                try clear hcz42_1
                try clear hcz46_0
                try clear hcz46_1
                try clear hcz46_2
                try clear hcz46_3
                try clear hcz46_4
                try clear hcz52_0
                try clear hcz52_1
                try clear hcz52_2
                try clear hcz52_3
                try clear hcz52_4
                try clear hcz58_0
                try clear hcz58_1
                try clear hcz58_2
                try clear hcz58_3
                try clear hcz58_4
                try clear hcz60_0
                try clear hcz60_1
                try clear hcz62_0
                try clear hcz62_1
                try clear hcz62_2
                try clear hcz62_3
                try clear hcz62_4
                try clear hcz67_0
                try clear hcz67_1
                try clear hcz67_2
                try clear hcz67_3
                try clear hcz67_4
                try clear hcz69_0
                try clear hcz69_1
                try clear hcz71_0
                try clear hcz71_1
                try clear hcz71_2
                try clear hcz71_3
                try clear hcz71_4
                try clear hcz72_0
                try clear hcz76_0
                try clear hcz76_1
                try clear hcz76_2
                try clear hcz76_3
                try clear hcz76_4
                try clear hcz78_0
                try clear hcz78_1
                try clear hcz7_0
                try clear hcz80_0
                try clear hcz80_1
                try clear hcz80_2
                try clear hcz80_3
                try clear hcz80_4
                try clear hcz81_0
                try clear hcz83_0
                try clear hcz83_1
                try clear hcz83_2
                try clear hcz83_3
                try clear hcz83_4
                try clear hcz86_0
                try clear hcz86_1
                try clear hcz86_2
                try clear hcz86_3
                try clear hcz86_4
                try clear hcz88_0
                try clear hcz88_1
                try clear hcz92_0
                try clear hcz92_1
                try clear hcz92_2
                try clear hcz92_3
                try clear hcz92_4
                try clear hcz9_0
                try clear hfz14_0
                try clear hfz17_0
                try clear hfz17_1
                try clear hfz22_0
                try clear hfz22_1
                try clear hfz27_0
                try clear hfz27_1
                try clear hfz28_0
                try clear hfz30_0
                try clear hfz30_1
                try clear hfz32_0
                try clear hfz32_1
                try clear hfz33_0
                try clear hfz36_0
                try clear hfz36_1
                try clear hfz42_0
                try clear hfz42_1
                try clear hfz46_0
                try clear hfz46_1
                try clear hfz46_2
                try clear hfz46_3
                try clear hfz46_4
                try clear hfz52_0
                try clear hfz52_1
                try clear hfz52_2
                try clear hfz52_3
                try clear hfz52_4
                try clear hfz58_0
                try clear hfz58_1
                try clear hfz58_2
                try clear hfz58_3
                try clear hfz58_4
                try clear hfz60_0
                try clear hfz60_1
                try clear hfz62_0
                try clear hfz62_1
                try clear hfz62_2
                try clear hfz62_3
                try clear hfz62_4
                try clear hfz67_0
                try clear hfz67_1
                try clear hfz67_2
                try clear hfz67_3
                try clear hfz67_4
                try clear hfz69_0
                try clear hfz69_1
                try clear hfz71_0
                try clear hfz71_1
                try clear hfz71_2
                try clear hfz71_3
                try clear hfz71_4
                try clear hfz72_0
                try clear hfz76_0
                try clear hfz76_1
                try clear hfz76_2
                try clear hfz76_3
                try clear hfz76_4
                try clear hfz78_0
                try clear hfz78_1
                try clear hfz7_0
                try clear hfz80_0
                try clear hfz80_1
                try clear hfz80_2
                try clear hfz80_3
                try clear hfz80_4
                try clear hfz81_0
                try clear hfz83_0
                try clear hfz83_1
                try clear hfz83_2
                try clear hfz83_3
                try clear hfz83_4
                try clear hfz86_0
                try clear hfz86_1
                try clear hfz86_2
                try clear hfz86_3
                try clear hfz86_4
                try clear hfz88_0
                try clear hfz88_1
                try clear hfz92_0
                try clear hfz92_1
                try clear hfz92_2
                try clear hfz92_3
                try clear hfz92_4
                try clear hfz9_0
                try clear hx104_0
                try clear hx104_1
                try clear hx109_0
                try clear hx109_1
                try clear hx109_2
                try clear hx109_3
                try clear hx109_4
                try clear p1
                try clear p10
                try clear p104
                try clear p109
                try clear p2
                try clear q1
                try clear q10
                try clear q104
                try clear q109
                obtain ⟨kq, x100_39, rfl, HA, HJ39, BK101, BK105, BK110, HB⟩ := hcut
                cases kq with
                | zero => exact absurd HA.out (by simp [spec_SchemaOK.j4])
                | succ kj39 =>
                 have H := HA.out; clear HA; simp only [spec_SchemaOK.j4] at H
                 by_cases c93 : x100_39 = true
                 ·subst c93
                  have H1 : (some false) = some r := by rw [if_pos rfl] at H; exact H
                  clear H; have H := H1; clear H1; obtain rfl := Option.some.inj H; go_wp2
                  go_ret
                  exact ⟨qa5, qa15⟩
                 ·replace c93 := Bool.eq_false_iff.mpr c93
                  subst c93; have H1 : (spec_SchemaOK.l2 kj39 x3_2 x5_4 0 l0_0 ((rd_T41 l0_0 x3_2).f0) ((rd_T41 l0_0 x3_2).f1) ((rd_T47 ((rd_T41 l0_0 x3_2).f1) x5_4).f0) ((rd_T47 ((rd_T41 l0_0 x3_2).f1) x5_4).f1) ((rd_T47 ((rd_T41 l0_0 x3_2).f1) x5_4).f2) ((rd_T47 ((rd_T41 l0_0 x3_2).f1) x5_4).f3) ((rd_T47 ((rd_T41 l0_0 x3_2).f1) x5_4).f4)) = some r := by rw [if_neg (show ¬ (false = true) by decide)] at H; exact H
                  clear H; have H := H1; clear H1; have H' := qO H; clear H; go_wp2
                  go_loopg [7] kj39 (fun kq v7 w' => ∃ (x7_6 : Int), v7 = .int .i64 x7_6 ∧ Aside0 (spec_SchemaOK.l2 kq x3_2 x5_4 x7_6 l0_0 ((rd_T41 l0_0 x3_2).f0) ((rd_T41 l0_0 x3_2).f1) ((rd_T47 ((rd_T41 l0_0 x3_2).f1) x5_4).f0) ((rd_T47 ((rd_T41 l0_0 x3_2).f1) x5_4).f1) ((rd_T47 ((rd_T41 l0_0 x3_2).f1) x5_4).f2) ((rd_T47 ((rd_T41 l0_0 x3_2).f1) x5_4).f3) ((rd_T47 ((rd_T41 l0_0 x3_2).f1) x5_4).f4) = some r) ∧ Aside0 (kq ≤ kj39) ∧ Aside0 (w'.heap[gb101]? = some (.cells #[(.slice (some ad104) l0_0.length c0_0)] 30 (0, 0))) ∧ Aside0 (w'.heap[gb105]? = some (.cells #[.string ((rd_T41 l0_0 x3_2).f0), (.slice (some ad109) ((rd_T41 l0_0 x3_2).f1).length c104_1)] 41 (0, 0))) ∧ Aside0 (w'.heap[gb110]? = some (.cells #[.string ((rd_T47 ((rd_T41 l0_0 x3_2).f1) x5_4).f0), (.slice A109_1 ((rd_T47 ((rd_T41 l0_0 x3_2).f1) x5_4).f1).length c109_1), .string ((rd_T47 ((rd_T41 l0_0 x3_2).f1) x5_4).f2), .bool ((rd_T47 ((rd_T41 l0_0 x3_2).f1) x5_4).f3), .bool ((rd_T47 ((rd_T41 l0_0 x3_2).f1) x5_4).f4)] 47 (0, 0))) ∧ Aside0 (Below w.heap.size w w'))
                  case atStart => exact ⟨(0), qa10, H', ⟨Nat.le_refl _⟩, ⟨qa4⟩, ⟨qa32⟩, ⟨qa40⟩, ⟨qa15⟩⟩
                  case round =>
                   clear H'
                   try clear c1
                   try clear p1
                   try clear q1
                   try clear hx1
                   try clear c2
                   try clear p2
                   try clear c3
                   try clear c4
                   try clear c5
                   try clear c6
                   try clear c7
                   try clear c8
                   try clear c9
                   try clear c10
                   try clear p10
                   try clear q10
                   try clear hx10
                   try clear c11
                   try clear c11b0
                   try clear c12
                   try clear c12b0
                   try clear c16
                   try clear c19
                   try clear c20
                   try clear c20b0
                   try clear c20b1
                   try clear c21
                   try clear c22
                   try clear c24
                   try clear c24b0
                   try clear c24b1
                   try clear c26
                   try clear c31
                   try clear c35
                   try clear c37
                   try clear c38
                   try clear c38b0
                   try clear c39
                   try clear c39b0
                   try clear c41
                   try clear c44
                   try clear c45
                   try clear c48
                   try clear c49
                   try clear c49b0
                   try clear c49b1
                   try clear c50
                   try clear c51
                   try clear c54
                   try clear c54b0
                   try clear c54b1
                   try clear c55
                   try clear c55b0
                   try clear c55b1
                   try clear c56
                   try clear c57
                   try clear c59
                   try clear c64
                   try clear c64b0
                   try clear c65
                   try clear c66
                   try clear c68
                   try clear c74
                   try clear c75
                   try clear c77
                   try clear c84
                   try clear c85
                   try clear c87
                   try clear c90
                   try clear c91
                   try clear c93
                   try clear hcz14_0
                   try clear hcz17_0
                   try clear hcz17_1
                   try clear hcz22_0
                   try clear hcz22_1
                   try clear hcz27_0
                   try clear hcz27_1
                   try clear hcz28_0
                   try clear hcz30_0
                   try clear hcz30_1
                   try clear hcz32_0
                   try clear hcz32_1
                   try clear hcz33_0
                   try clear hcz36_0
                   try clear hcz36_1
                   try clear hcz42_0
                   try clear hcz42_1
                   try clear hcz46_0
                   try clear hcz46_1
                   try clear hcz46_2
                   try clear hcz46_3
                   try clear hcz46_4
                   try clear hcz52_0
                   try clear hcz52_1
                   try clear hcz52_2
                   try clear hcz52_3
                   try clear hcz52_4
                   try clear hcz58_0
                   try clear hcz58_1
                   try clear hcz58_2
                   try clear hcz58_3
                   try clear hcz58_4
                   try clear hcz60_0
                   try clear hcz60_1
                   try clear hcz62_0
                   try clear hcz62_1
                   try clear hcz62_2
                   try clear hcz62_3
                   try clear hcz62_4
                   try clear hcz67_0
                   try clear hcz67_1
                   try clear hcz67_2
                   try clear hcz67_3
                   try clear hcz67_4
                   try clear hcz69_0
                   try clear hcz69_1
                   try clear hcz71_0
                   try clear hcz71_1
                   try clear hcz71_2
                   try clear hcz71_3
                   try clear hcz71_4
                   try clear hcz72_0
                   try clear hcz76_0
                   try clear hcz76_1
                   try clear hcz76_2
                   try clear hcz76_3
                   try clear hcz76_4
                   try clear hcz78_0
                   try clear hcz78_1
                   try clear hcz7_0
                   try clear hcz80_0
                   try clear hcz80_1
                   try clear hcz80_2
                   try clear hcz80_3
                   try clear hcz80_4
                   try clear hcz81_0
                   try clear hcz83_0
                   try clear hcz83_1
                   try clear hcz83_2
                   try clear hcz83_3
                   try clear hcz83_4
                   try clear hcz86_0
                   try clear hcz86_1
                   try clear hcz86_2
                   try clear hcz86_3
                   try clear hcz86_4
                   try clear hcz88_0
                   try clear hcz88_1
                   try clear hcz92_0
                   try clear hcz92_1
                   try clear hcz92_2
                   try clear hcz92_3
                   try clear hcz92_4
                   try clear hcz9_0
                   try clear hfz14_0
                   try clear hfz17_0
                   try clear hfz17_1
                   try clear hfz22_0
                   try clear hfz22_1
                   try clear hfz27_0
                   try clear hfz27_1
                   try clear hfz28_0
                   try clear hfz30_0
                   try clear hfz30_1
                   try clear hfz32_0
                   try clear hfz32_1
                   try clear hfz33_0
                   try clear hfz36_0
                   try clear hfz36_1
                   try clear hfz42_0
                   try clear hfz42_1
                   try clear hfz46_0
                   try clear hfz46_1
                   try clear hfz46_2
                   try clear hfz46_3
                   try clear hfz46_4
                   try clear hfz52_0
                   try clear hfz52_1
                   try clear hfz52_2
                   try clear hfz52_3
                   try clear hfz52_4
                   try clear hfz58_0
                   try clear hfz58_1
                   try clear hfz58_2
                   try clear hfz58_3
                   try clear hfz58_4
                   try clear hfz60_0
                   try clear hfz60_1
                   try clear hfz62_0
                   try clear hfz62_1
                   try clear hfz62_2
                   try clear hfz62_3
                   try clear hfz62_4
                   try clear hfz67_0
                   try clear hfz67_1
                   try clear hfz67_2
                   try clear hfz67_3
                   try clear hfz67_4
                   try clear hfz69_0
                   try clear hfz69_1
                   try clear hfz71_0
                   try clear hfz71_1
                   try clear hfz71_2
                   try clear hfz71_3
                   try clear hfz71_4
                   try clear hfz72_0
                   try clear hfz76_0
                   try clear hfz76_1
                   try clear hfz76_2
                   try clear hfz76_3
                   try clear hfz76_4
                   try clear hfz78_0
                   try clear hfz78_1
                   try clear hfz7_0
                   try clear hfz80_0
                   try clear hfz80_1
                   try clear hfz80_2
                   try clear hfz80_3
                   try clear hfz80_4
                   try clear hfz81_0
                   try clear hfz83_0
                   try clear hfz83_1
                   try clear hfz83_2
                   try clear hfz83_3
                   try clear hfz83_4
                   try clear hfz86_0
                   try clear hfz86_1
                   try clear hfz86_2
                   try clear hfz86_3
                   try clear hfz86_4
                   try clear hfz88_0
                   try clear hfz88_1
                   try clear hfz92_0
                   try clear hfz92_1
                   try clear hfz92_2
                   try clear hfz92_3
                   try clear hfz92_4
                   try clear hfz9_0
                   try clear hx104_0
                   try clear hx104_1
                   try clear hx109_0
                   try clear hx109_1
                   try clear hx109_2
                   try clear hx109_3
                   try clear hx109_4
                   try clear p1
                   try clear p10
                   try clear p104
                   try clear p109
                   try clear p2
                   try clear q1
                   try clear q10
                   try clear q104
                   try clear q109
                   obtain ⟨x7_6, rfl, HA, HK6, BK101, BK105, BK110, HB⟩ := hrel
                   cases gk with
                   | zero => exact absurd HA.out (by simp [spec_SchemaOK.l2])
                   | succ k6 =>
                    have H := HA.out; clear HA; simp only [spec_SchemaOK.l2] at H
                    by_cases c94 : x7_6 < (((rd_T47 ((rd_T41 l0_0 x3_2).f1) x5_4).f1).length : Int)
                    ·rw [if_pos c94] at H
                     have c94b0 : decide (x7_6 < (((rd_T47 ((rd_T41 l0_0 x3_2).f1) x5_4).f1).length : Int)) = true := decide_eq_true c94; clear c94
                     by_cases c95 : 0 ≤ x7_6
                     ·rw [if_pos c95] at H
                      have c95b0 : decide (0 ≤ x7_6) = true := decide_eq_true c95; clear c95; replace H := Option.bind_eq_some_iff.mp H; obtain ⟨t115, A960, H⟩ := H; replace H : (if t115 = true then ((spec_l03Arg.f k6 ((rd_T47 ((rd_T41 l0_0 x3_2).f1) x5_4).f0) ((rd_T47 ((rd_T41 l0_0 x3_2).f1) x5_4).f1) ((rd_T47 ((rd_T41 l0_0 x3_2).f1) x5_4).f2) ((rd_T47 ((rd_T41 l0_0 x3_2).f1) x5_4).f3) ((rd_T47 ((rd_T41 l0_0 x3_2).f1) x5_4).f4) ((rd_T60 ((rd_T47 ((rd_T41 l0_0 x3_2).f1) x5_4).f1) x7_6).f0)).bind fun t117 => (if t117 = x7_6 then (spec_SchemaOK.l2 k6 x3_2 x5_4 (wrap64 (x7_6 + 1)) l0_0 ((rd_T41 l0_0 x3_2).f0) ((rd_T41 l0_0 x3_2).f1) ((rd_T47 ((rd_T41 l0_0 x3_2).f1) x5_4).f0) ((rd_T47 ((rd_T41 l0_0 x3_2).f1) x5_4).f1) ((rd_T47 ((rd_T41 l0_0 x3_2).f1) x5_4).f2) ((rd_T47 ((rd_T41 l0_0 x3_2).f1) x5_4).f3) ((rd_T47 ((rd_T41 l0_0 x3_2).f1) x5_4).f4)) else (some false))) else (some false)) = some r := H; have A96 := qO A960; clear A960
                      by_cases c97 : t115 = true
                      ·subst c97
                       have H1 : ((spec_l03Arg.f k6 ((rd_T47 ((rd_T41 l0_0 x3_2).f1) x5_4).f0) ((rd_T47 ((rd_T41 l0_0 x3_2).f1) x5_4).f1) ((rd_T47 ((rd_T41 l0_0 x3_2).f1) x5_4).f2) ((rd_T47 ((rd_T41 l0_0 x3_2).f1) x5_4).f3) ((rd_T47 ((rd_T41 l0_0 x3_2).f1) x5_4).f4) ((rd_T60 ((rd_T47 ((rd_T41 l0_0 x3_2).f1) x5_4).f1) x7_6).f0)).bind fun t117 => (if t117 = x7_6 then (spec_SchemaOK.l2 k6 x3_2 x5_4 (wrap64 (x7_6 + 1)) l0_0 ((rd_T41 l0_0 x3_2).f0) ((rd_T41 l0_0 x3_2).f1) ((rd_T47 ((rd_T41 l0_0 x3_2).f1) x5_4).f0) ((rd_T47 ((rd_T41 l0_0 x3_2).f1) x5_4).f1) ((rd_T47 ((rd_T41 l0_0 x3_2).f1) x5_4).f2) ((rd_T47 ((rd_T41 l0_0 x3_2).f1) x5_4).f3) ((rd_T47 ((rd_T41 l0_0 x3_2).f1) x5_4).f4)) else (some false))) = some r := by rw [if_pos rfl] at H; exact H
                       clear H; have H := H1; clear H1; replace H := Option.bind_eq_some_iff.mp H; obtain ⟨t117, A980, H⟩ := H; replace H : (if t117 = x7_6 then (spec_SchemaOK.l2 k6 x3_2 x5_4 (wrap64 (x7_6 + 1)) l0_0 ((rd_T41 l0_0 x3_2).f0) ((rd_T41 l0_0 x3_2).f1) ((rd_T47 ((rd_T41 l0_0 x3_2).f1) x5_4).f0) ((rd_T47 ((rd_T41 l0_0 x3_2).f1) x5_4).f1) ((rd_T47 ((rd_T41 l0_0 x3_2).f1) x5_4).f2) ((rd_T47 ((rd_T41 l0_0 x3_2).f1) x5_4).f3) ((rd_T47 ((rd_T41 l0_0 x3_2).f1) x5_4).f4)) else (some false)) = some r := H; have A98 := qO A980; clear A980
                       by_cases c99 : t117 = x7_6
                       ·rw [if_pos c99] at H
                        have c99b0 : (t117 == x7_6) = true := beq_iff_eq.mpr c99; have c99b1 : (t117 != x7_6) = false := bne_eq_false_iff_eq.mpr c99; clear c99; have H' := qO H; clear H; have hnb100 := NB110_101.out; have hnc100 := NB101_110.out; have hnb101 := NB110_105.out; have hnc101 := NB105_110.out; have hcz102_0 : wr.cell? ⟨gb110, 0, none⟩ = some (.string ((rd_T47 ((rd_T41 l0_0 x3_2).f1) x5_4).f0)) := (blk_cell BK110.out 0).trans rfl; have hcz102_1 : wr.cell? ⟨gb110, 1, none⟩ = some (.slice A109_1 ((rd_T47 ((rd_T41 l0_0 x3_2).f1) x5_4).f1).length c109_1) := (blk_cell BK110.out 1).trans rfl; have hcz102_2 : wr.cell? ⟨gb110, 2, none⟩ = some (.string ((rd_T47 ((rd_T41 l0_0 x3_2).f1) x5_4).f2)) := (blk_cell BK110.out 2).trans rfl; have hcz102_3 : wr.cell? ⟨gb110, 3, none⟩ = some (.bool ((rd_T47 ((rd_T41 l0_0 x3_2).f1) x5_4).f3)) := (blk_cell BK110.out 3).trans rfl; have hcz102_4 : wr.cell? ⟨gb110, 4, none⟩ = some (.bool ((rd_T47 ((rd_T41 l0_0 x3_2).f1) x5_4).f4)) := (blk_cell BK110.out 4).trans rfl; have hfz102_0 := blk_frozen BK110.out 0; have hfz102_1 := blk_frozen BK110.out 1; have hfz102_2 := blk_frozen BK110.out 2; have hfz102_3 := blk_frozen BK110.out 3; have hfz102_4 := blk_frozen BK110.out 4
                        try go_wp2
                        have n0_ := qO (qkD BK101.out); have n1_ := qO (qkD BK105.out); have n2_ := qO (qkD BK110.out); have n3_ := qO (qbD HB.out); clear BK101; clear BK105; clear BK110; clear HB; have BK101 := n0_; have BK105 := n1_; have BK110 := n2_; have HB := n3_; clear n0_ n1_ n2_ n3_; have p114 : 0 ≤ (x7_6 : Int) := qT qa6; have q114 : x7_6 < (((rd_T47 ((rd_T41 l0_0 x3_2).f1) x5_4).f1).length : Int) := qT qa6; obtain ⟨ad114, e114, hx114_0, hx114_1⟩ := at_T60 HR109_1.out x7_6 p114 q114; have hw114_1 := hx114_1; have hw114_0 := hx114_0
                        cases e114
                        replace hx114_0 := (HB.out.cell (qL w _ hx114_0)).trans hx114_0; replace hx114_1 := (HB.out.cell (qL w _ hx114_1)).trans hx114_1; replace p114 := eq_true p114; replace q114 := eq_true q114; have p116 : 0 ≤ (x7_6 : Int) := qT qa6; have q116 : x7_6 < (((rd_T47 ((rd_T41 l0_0 x3_2).f1) x5_4).f1).length : Int) := qT qa6; obtain ⟨ad116, e116, hx116_0, hx116_1⟩ := at_T60 HR109_1.out x7_6 p116 q116; have hw116_1 := hx116_1; have hw116_0 := hx116_0; obtain rfl : ad114 = ad116 := (by injection e116); replace hx116_0 := (HB.out.cell (qL w _ hx116_0)).trans hx116_0; replace hx116_1 := (HB.out.cell (qL w _ hx116_1)).trans hx116_1; replace p116 := eq_true p116; replace q116 := eq_true q116; refine start_ (n := 20) (S := fun w' => w'.cell? ⟨gb110, 0, none⟩ = some (.string ((rd_T47 ((rd_T41 l0_0 x3_2).f1) x5_4).f0)) ∧ w'.cell? ⟨gb110, 1, none⟩ = some (.slice (some ad114) ((rd_T47 ((rd_T41 l0_0 x3_2).f1) x5_4).f1).length c109_1) ∧ w'.cell? ⟨gb110, 2, none⟩ = some (.string ((rd_T47 ((rd_T41 l0_0 x3_2).f1) x5_4).f2)) ∧ w'.cell? ⟨gb110, 3, none⟩ = some (.bool ((rd_T47 ((rd_T41 l0_0 x3_2).f1) x5_4).f3)) ∧ w'.cell? ⟨gb110, 4, none⟩ = some (.bool ((rd_T47 ((rd_T41 l0_0 x3_2).f1) x5_4).f4)) ∧ w'.cell? (ad114.add ((x7_6).toNat * 2)) = some (.string ((rd_T60 ((rd_T47 ((rd_T41 l0_0 x3_2).f1) x5_4).f1) x7_6).f0)) ∧ w'.cell? ⟨(ad114.add ((x7_6).toNat * 2)).block, (ad114.add ((x7_6).toNat * 2)).off + 1, none⟩ = some (.bool ((rd_T60 ((rd_T47 ((rd_T41 l0_0 x3_2).f1) x5_4).f1) x7_6).f1)) ∧ w'.cell? (ad114.add ((x7_6).toNat * 2)) = some (.string ((rd_T60 ((rd_T47 ((rd_T41 l0_0 x3_2).f1) x5_4).f1) x7_6).f0)) ∧ w'.cell? ⟨(ad114.add ((x7_6).toNat * 2)).block, (ad114.add ((x7_6).toNat * 2)).off + 1, none⟩ = some (.bool ((rd_T60 ((rd_T47 ((rd_T41 l0_0 x3_2).f1) x5_4).f1) x7_6).f1))) (ds := []) spec_SchemaOK.y0 qa16 rfl rfl ⟨(blk_cell BK110.out 0).trans rfl, (blk_cell BK110.out 1).trans rfl, (blk_cell BK110.out 2).trans rfl, (blk_cell BK110.out 3).trans rfl, (blk_cell BK110.out 4).trans rfl, ((HB.out.cell (qL w _ hw114_0)).trans hw114_0), ((HB.out.cell (qL w _ hw114_1)).trans hw114_1), ((HB.out.cell (qL w _ hw116_0)).trans hw116_0), ((HB.out.cell (qL w _ hw116_1)).trans hw116_1)⟩ (fun hHeld => ?_); refine with_tabW spec_SchemaOK.tab18 spec_SchemaOK.bits18 (fun HT_ HW_ => ?_); generalize wr.drew = w103 at BK101 BK105 BK110 HB hx114_0 hx114_1 hx116_0 hx116_1 hHeld ⊢; refine pure_ (i := 0) (N := some 108) (v := ?_) (a' := ?_) spec_SchemaOK.y1 rfl rfl (any_of HT_.out qa16) (fun _ _ _ h => h) (Or.inl ⟨by rfl, ?_⟩) ?_ ?_; rotate_left; exact qa20; rotate_left; exact qa7; refine pure_ (i := 2) (N := some 110) (v := ?_) (a' := ?_) spec_SchemaOK.y2 rfl rfl (any_of HT_.out qa16) (fun _ _ _ h => h) (Or.inl ⟨by rfl, ?_⟩) ?_ ?_; rotate_left; exact qa20; rotate_left; exact qa7; refine take_ (i := 1) (N := some 109) (v := ?_) (a' := ?_) spec_SchemaOK.y3 rfl rfl (take_ofW HT_.out HW_.out qa16) (fun _ _ _ h => h) (Or.inl ⟨by rfl, ?_⟩) hHeld ?_ ?_; rotate_left; exact qa66; rotate_left; exact qa7; refine pure_ (i := 3) (N := some 111) (v := ?_) (a' := ?_) spec_SchemaOK.y4 rfl rfl (any_of HT_.out qa16) (fun _ _ _ h => h) (Or.inl ⟨by rfl, ?_⟩) ?_ ?_; rotate_left; exact qa20; rotate_left; exact qa7; refine pure_ (i := 4) (N := some 112) (v := ?_) (a' := ?_) spec_SchemaOK.y5 rfl rfl (any_of HT_.out qa16) (fun _ _ _ h => h) (Or.inl ⟨by rfl, ?_⟩) ?_ ?_; rotate_left; exact qa20; rotate_left; exact qa7; refine take_ (i := 5) (N := some 113) (v := ?_) (a' := ?_) spec_SchemaOK.y6 rfl rfl (take_ofW HT_.out HW_.out qa16) (fun _ _ _ h => h) (Or.inl ⟨by rfl, ?_⟩) hHeld ?_ ?_; rotate_left; exact qa66; rotate_left; exact qa7; refine one_ (i := 6) (N := some 114) spec_SchemaOK.y7 rfl rfl (one_of HT_.out qa16) qa60 (fun K hK => ?_); refine goes_ Tryd.func22 qa16 rfl #[.string ((rd_T60 ((rd_T47 ((rd_T41 l0_0 x3_2).f1) x5_4).f1) x7_6).f0)] (by rfl) rfl rfl qa0 ?_; (with_reducible refine (spec_NameOK.calls k6 ((rd_T60 ((rd_T47 ((rd_T41 l0_0 x3_2).f1) x5_4).f1) x7_6).f0) true _ A96.out).mono ?_); rintro e w' ⟨rfl, ⟨nd, rfl⟩⟩; refine ⟨_, rfl, ?_⟩; refine hK.out _ _ ⟨(blk_cell BK110.out 0).trans rfl, (blk_cell BK110.out 1).trans rfl, (blk_cell BK110.out 2).trans rfl, (blk_cell BK110.out 3).trans rfl, (blk_cell BK110.out 4).trans rfl, ((HB.out.cell (qL w _ hw114_0)).trans hw114_0), ((HB.out.cell (qL w _ hw114_1)).trans hw114_1), ((HB.out.cell (qL w _ hw116_0)).trans hw116_0), ((HB.out.cell (qL w _ hw116_1)).trans hw116_1)⟩ (fun hHeld => ?_); clear hK K; refine norm_ (a' := ?_) ?_ ?_; rotate_left
                        ·exact qa13
                        refine pure_ (i := 7) (N := some 115) (v := ?_) (a' := ?_) spec_SchemaOK.y8 rfl rfl (any_of HT_.out qa16) (fun _ _ _ h => h) (Or.inl ⟨by rfl, ?_⟩) ?_ ?_; rotate_left; exact qa20; rotate_left; exact qa7; refine pure_ (i := 8) (N := some 116) (v := ?_) (a' := ?_) spec_SchemaOK.y9 rfl rfl (any_of HT_.out qa16) (fun _ _ _ h => h) (Or.inl ⟨by rfl, ?_⟩) ?_ ?_; rotate_left; exact qa20; rotate_left; exact qa7; refine pure_ (i := 10) (N := some 118) (v := ?_) (a' := ?_) spec_SchemaOK.y10 rfl rfl (any_of HT_.out qa16) (fun _ _ _ h => h) (Or.inl ⟨by rfl, ?_⟩) ?_ ?_; rotate_left; exact qa20; rotate_left; exact qa7; refine pure_ (i := 12) (N := some 120) (v := ?_) (a' := ?_) spec_SchemaOK.y11 rfl rfl (any_of HT_.out qa16) (fun _ _ _ h => h) (Or.inl ⟨by rfl, ?_⟩) ?_ ?_; rotate_left; exact qa20; rotate_left; exact qa7; refine pure_ (i := 17) (N := some 125) (v := ?_) (a' := ?_) spec_SchemaOK.y12 rfl rfl (any_of HT_.out qa16) (fun _ _ _ h => h) (Or.inl ⟨by rfl, ?_⟩) ?_ ?_; rotate_left; exact qa20; rotate_left; exact qa7; refine take_ (i := 9) (N := some 117) (v := ?_) (a' := ?_) spec_SchemaOK.y13 rfl rfl (take_ofW HT_.out HW_.out qa16) (fun _ _ _ h => h) (Or.inl ⟨by rfl, ?_⟩) hHeld ?_ ?_; rotate_left; exact qa66; rotate_left; exact qa7; refine take_ (i := 11) (N := some 119) (v := ?_) (a' := ?_) spec_SchemaOK.y14 rfl rfl (take_ofW HT_.out HW_.out qa16) (fun _ _ _ h => h) (Or.inl ⟨by rfl, ?_⟩) hHeld ?_ ?_; rotate_left; exact qa66; rotate_left; exact qa7; refine pure_ (i := 13) (N := some 121) (v := ?_) (a' := ?_) spec_SchemaOK.y15 rfl rfl (any_of HT_.out qa16) (fun _ _ _ h => h) (Or.inl ⟨by rfl, ?_⟩) ?_ ?_; rotate_left; exact qa20; rotate_left; exact qa7; refine pure_ (i := 14) (N := some 122) (v := ?_) (a' := ?_) spec_SchemaOK.y16 rfl rfl (any_of HT_.out qa16) (fun _ _ _ h => h) (Or.inl ⟨by rfl, ?_⟩) ?_ ?_; rotate_left; exact qa20; rotate_left; exact qa7; refine take_ (i := 15) (N := some 123) (v := ?_) (a' := ?_) spec_SchemaOK.y17 rfl rfl (take_ofW HT_.out HW_.out qa16) (fun _ _ _ h => h) (Or.inl ⟨by rfl, ?_⟩) hHeld ?_ ?_; rotate_left; exact qa66; rotate_left; exact qa7; refine one_ (i := 16) (N := some 124) spec_SchemaOK.y18 rfl rfl (one_of HT_.out qa16) qa60 (fun K hK => ?_); refine goes_ Tryd.func24 qa16 rfl #[.agg #[.string ((rd_T47 ((rd_T41 l0_0 x3_2).f1) x5_4).f0), .slice (some ad114) ((rd_T47 ((rd_T41 l0_0 x3_2).f1) x5_4).f1).length c109_1, .string ((rd_T47 ((rd_T41 l0_0 x3_2).f1) x5_4).f2), .bool ((rd_T47 ((rd_T41 l0_0 x3_2).f1) x5_4).f3), .bool ((rd_T47 ((rd_T41 l0_0 x3_2).f1) x5_4).f4)], .string ((rd_T60 ((rd_T47 ((rd_T41 l0_0 x3_2).f1) x5_4).f1) x7_6).f0)] (by rfl) rfl rfl qa0 ?_; (with_reducible refine (spec_l03Arg.calls k6 ((rd_T47 ((rd_T41 l0_0 x3_2).f1) x5_4).f0) _ _ ((rd_T47 ((rd_T41 l0_0 x3_2).f1) x5_4).f1) ((rd_T47 ((rd_T41 l0_0 x3_2).f1) x5_4).f2) ((rd_T47 ((rd_T41 l0_0 x3_2).f1) x5_4).f3) ((rd_T47 ((rd_T41 l0_0 x3_2).f1) x5_4).f4) ((rd_T60 ((rd_T47 ((rd_T41 l0_0 x3_2).f1) x5_4).f1) x7_6).f0) t117 _ ?side1 ?side2 A98.out).mono ?_); (case side1 => exact qa68); (case side2 => exact HC109_1.out); rintro e w104 ⟨rfl, hb⟩; have hx_ := qHX HB hb qa1; refine ⟨_, rfl, ?_⟩; have n0_ := qO (qB BK101.out hx_ hb); have n1_ := qO (qB BK105.out hx_ hb); have n2_ := qO (blk_below (g := gb110) (o := .cells #[.string ((rd_T47 ((rd_T41 l0_0 x3_2).f1) x5_4).f0), .slice (some ad114) ((rd_T47 ((rd_T41 l0_0 x3_2).f1) x5_4).f1).length c109_1, .string ((rd_T47 ((rd_T41 l0_0 x3_2).f1) x5_4).f2), .bool ((rd_T47 ((rd_T41 l0_0 x3_2).f1) x5_4).f3), .bool ((rd_T47 ((rd_T41 l0_0 x3_2).f1) x5_4).f4)] 47 (0, 0)) qa40 hb); have n3_ := qO (below_step (below_step HB.out hx_) hb); clear BK101; clear BK105; clear BK110; clear HB; have BK101 := n0_; have BK105 := n1_; have BK110 := n2_; have HB := n3_; clear n0_ n1_ n2_ n3_; clear hx_; (try clear hb); (try clear hb2); (try clear hk); (try clear hi); refine hK.out _ _ ⟨(blk_cell BK110.out 0).trans rfl, (blk_cell BK110.out 1).trans rfl, (blk_cell BK110.out 2).trans rfl, (blk_cell BK110.out 3).trans rfl, (blk_cell BK110.out 4).trans rfl, ((HB.out.cell (qL w _ hw114_0)).trans hw114_0), ((HB.out.cell (qL w _ hw114_1)).trans hw114_1), ((HB.out.cell (qL w _ hw116_0)).trans hw116_0), ((HB.out.cell (qL w _ hw116_1)).trans hw116_1)⟩ (fun hHeld => ?_); clear hK K; refine norm_ (a' := ?_) ?_ ?_; rotate_left
                        ·exact qa13
                        refine pure_ (i := 18) (N := some 126) (v := ?_) (a' := ?_) spec_SchemaOK.y19 rfl rfl (any_of HT_.out qa16) (fun _ _ _ h => h) (Or.inl ⟨by rfl, ?_⟩) ?_ ?_; rotate_left; exact qa20; rotate_left; exact qa7; refine pure_ (i := 19) (N := some 127) (v := ?_) (a' := ?_) spec_SchemaOK.y20 rfl rfl (any_of HT_.out qa16) (fun _ _ _ h => h) (Or.inl ⟨by rfl, ?_⟩) ?_ ?_; rotate_left; exact qa20; rotate_left; exact qa7; refine done_ (done_of HT_.out qa16) ?_
                        try go_wp2
                        go_roundg k6
                        case measure => have := HJ1.out; have := HK2.out; have := HJ12.out; have := HK4.out; have := HJ39.out; have := HK6.out; omega
                        case rel => exact ⟨(wrap64 (x7_6 + 1)), qa10, H', ⟨qa124⟩, ⟨qa4⟩, ⟨qa32⟩, ⟨qa40⟩, ⟨qa15⟩⟩
                       ·rw [if_neg c99] at H
                        have c99b0 : (t117 == x7_6) = false := beq_eq_false_iff_ne.mpr c99; have c99b1 : (t117 != x7_6) = true := bne_iff_ne.mpr c99; obtain rfl := Option.some.inj H; have hnb105 := NB110_101.out; have hnc105 := NB101_110.out; have hnb106 := NB110_105.out; have hnc106 := NB105_110.out; have hcz107_0 : wr.cell? ⟨gb110, 0, none⟩ = some (.string ((rd_T47 ((rd_T41 l0_0 x3_2).f1) x5_4).f0)) := (blk_cell BK110.out 0).trans rfl; have hcz107_1 : wr.cell? ⟨gb110, 1, none⟩ = some (.slice A109_1 ((rd_T47 ((rd_T41 l0_0 x3_2).f1) x5_4).f1).length c109_1) := (blk_cell BK110.out 1).trans rfl; have hcz107_2 : wr.cell? ⟨gb110, 2, none⟩ = some (.string ((rd_T47 ((rd_T41 l0_0 x3_2).f1) x5_4).f2)) := (blk_cell BK110.out 2).trans rfl; have hcz107_3 : wr.cell? ⟨gb110, 3, none⟩ = some (.bool ((rd_T47 ((rd_T41 l0_0 x3_2).f1) x5_4).f3)) := (blk_cell BK110.out 3).trans rfl; have hcz107_4 : wr.cell? ⟨gb110, 4, none⟩ = some (.bool ((rd_T47 ((rd_T41 l0_0 x3_2).f1) x5_4).f4)) := (blk_cell BK110.out 4).trans rfl; have hfz107_0 := blk_frozen BK110.out 0; have hfz107_1 := blk_frozen BK110.out 1; have hfz107_2 := blk_frozen BK110.out 2; have hfz107_3 := blk_frozen BK110.out 3; have hfz107_4 := blk_frozen BK110.out 4
                        try go_wp2
                        have n0_ := qO (qkD BK101.out); have n1_ := qO (qkD BK105.out); have n2_ := qO (qkD BK110.out); have n3_ := qO (qbD HB.out); clear BK101; clear BK105; clear BK110; clear HB; have BK101 := n0_; have BK105 := n1_; have BK110 := n2_; have HB := n3_; clear n0_ n1_ n2_ n3_; have p114 : 0 ≤ (x7_6 : Int) := qT qa6; have q114 : x7_6 < (((rd_T47 ((rd_T41 l0_0 x3_2).f1) x5_4).f1).length : Int) := qT qa6; obtain ⟨ad114, e114, hx114_0, hx114_1⟩ := at_T60 HR109_1.out x7_6 p114 q114; have hw114_1 := hx114_1; have hw114_0 := hx114_0
                        cases e114
                        replace hx114_0 := (HB.out.cell (qL w _ hx114_0)).trans hx114_0; replace hx114_1 := (HB.out.cell (qL w _ hx114_1)).trans hx114_1; replace p114 := eq_true p114; replace q114 := eq_true q114; have p116 : 0 ≤ (x7_6 : Int) := qT qa6; have q116 : x7_6 < (((rd_T47 ((rd_T41 l0_0 x3_2).f1) x5_4).f1).length : Int) := qT qa6; obtain ⟨ad116, e116, hx116_0, hx116_1⟩ := at_T60 HR109_1.out x7_6 p116 q116; have hw116_1 := hx116_1; have hw116_0 := hx116_0; obtain rfl : ad114 = ad116 := (by injection e116); replace hx116_0 := (HB.out.cell (qL w _ hx116_0)).trans hx116_0; replace hx116_1 := (HB.out.cell (qL w _ hx116_1)).trans hx116_1; replace p116 := eq_true p116; replace q116 := eq_true q116; refine start_ (n := 20) (S := fun w' => w'.cell? ⟨gb110, 0, none⟩ = some (.string ((rd_T47 ((rd_T41 l0_0 x3_2).f1) x5_4).f0)) ∧ w'.cell? ⟨gb110, 1, none⟩ = some (.slice (some ad114) ((rd_T47 ((rd_T41 l0_0 x3_2).f1) x5_4).f1).length c109_1) ∧ w'.cell? ⟨gb110, 2, none⟩ = some (.string ((rd_T47 ((rd_T41 l0_0 x3_2).f1) x5_4).f2)) ∧ w'.cell? ⟨gb110, 3, none⟩ = some (.bool ((rd_T47 ((rd_T41 l0_0 x3_2).f1) x5_4).f3)) ∧ w'.cell? ⟨gb110, 4, none⟩ = some (.bool ((rd_T47 ((rd_T41 l0_0 x3_2).f1) x5_4).f4)) ∧ w'.cell? (ad114.add ((x7_6).toNat * 2)) = some (.string ((rd_T60 ((rd_T47 ((rd_T41 l0_0 x3_2).f1) x5_4).f1) x7_6).f0)) ∧ w'.cell? ⟨(ad114.add ((x7_6).toNat * 2)).block, (ad114.add ((x7_6).toNat * 2)).off + 1, none⟩ = some (.bool ((rd_T60 ((rd_T47 ((rd_T41 l0_0 x3_2).f1) x5_4).f1) x7_6).f1)) ∧ w'.cell? (ad114.add ((x7_6).toNat * 2)) = some (.string ((rd_T60 ((rd_T47 ((rd_T41 l0_0 x3_2).f1) x5_4).f1) x7_6).f0)) ∧ w'.cell? ⟨(ad114.add ((x7_6).toNat * 2)).block, (ad114.add ((x7_6).toNat * 2)).off + 1, none⟩ = some (.bool ((rd_T60 ((rd_T47 ((rd_T41 l0_0 x3_2).f1) x5_4).f1) x7_6).f1))) (ds := []) spec_SchemaOK.y0 qa16 rfl rfl ⟨(blk_cell BK110.out 0).trans rfl, (blk_cell BK110.out 1).trans rfl, (blk_cell BK110.out 2).trans rfl, (blk_cell BK110.out 3).trans rfl, (blk_cell BK110.out 4).trans rfl, ((HB.out.cell (qL w _ hw114_0)).trans hw114_0), ((HB.out.cell (qL w _ hw114_1)).trans hw114_1), ((HB.out.cell (qL w _ hw116_0)).trans hw116_0), ((HB.out.cell (qL w _ hw116_1)).trans hw116_1)⟩ (fun hHeld => ?_); refine with_tabW spec_SchemaOK.tab18 spec_SchemaOK.bits18 (fun HT_ HW_ => ?_); generalize wr.drew = w108 at BK101 BK105 BK110 HB hx114_0 hx114_1 hx116_0 hx116_1 hHeld ⊢; refine pure_ (i := 0) (N := some 108) (v := ?_) (a' := ?_) spec_SchemaOK.y1 rfl rfl (any_of HT_.out qa16) (fun _ _ _ h => h) (Or.inl ⟨by rfl, ?_⟩) ?_ ?_; rotate_left; exact qa20; rotate_left; exact qa7; refine pure_ (i := 2) (N := some 110) (v := ?_) (a' := ?_) spec_SchemaOK.y2 rfl rfl (any_of HT_.out qa16) (fun _ _ _ h => h) (Or.inl ⟨by rfl, ?_⟩) ?_ ?_; rotate_left; exact qa20; rotate_left; exact qa7; refine take_ (i := 1) (N := some 109) (v := ?_) (a' := ?_) spec_SchemaOK.y3 rfl rfl (take_ofW HT_.out HW_.out qa16) (fun _ _ _ h => h) (Or.inl ⟨by rfl, ?_⟩) hHeld ?_ ?_; rotate_left; exact qa66; rotate_left; exact qa7; refine pure_ (i := 3) (N := some 111) (v := ?_) (a' := ?_) spec_SchemaOK.y4 rfl rfl (any_of HT_.out qa16) (fun _ _ _ h => h) (Or.inl ⟨by rfl, ?_⟩) ?_ ?_; rotate_left; exact qa20; rotate_left; exact qa7; refine pure_ (i := 4) (N := some 112) (v := ?_) (a' := ?_) spec_SchemaOK.y5 rfl rfl (any_of HT_.out qa16) (fun _ _ _ h => h) (Or.inl ⟨by rfl, ?_⟩) ?_ ?_; rotate_left; exact qa20; rotate_left; exact qa7; refine take_ (i := 5) (N := some 113) (v := ?_) (a' := ?_) spec_SchemaOK.y6 rfl rfl (take_ofW HT_.out HW_.out qa16) (fun _ _ _ h => h) (Or.inl ⟨by rfl, ?_⟩) hHeld ?_ ?_; rotate_left; exact qa66; rotate_left; exact qa7; refine one_ (i := 6) (N := some 114) spec_SchemaOK.y7 rfl rfl (one_of HT_.out qa16) qa60 (fun K hK => ?_); refine goes_ Tryd.func22 qa16 rfl #[.string ((rd_T60 ((rd_T47 ((rd_T41 l0_0 x3_2).f1) x5_4).f1) x7_6).f0)] (by rfl) rfl rfl qa0 ?_; (with_reducible refine (spec_NameOK.calls k6 ((rd_T60 ((rd_T47 ((rd_T41 l0_0 x3_2).f1) x5_4).f1) x7_6).f0) true _ A96.out).mono ?_); rintro e w' ⟨rfl, ⟨nd, rfl⟩⟩; refine ⟨_, rfl, ?_⟩; refine hK.out _ _ ⟨(blk_cell BK110.out 0).trans rfl, (blk_cell BK110.out 1).trans rfl, (blk_cell BK110.out 2).trans rfl, (blk_cell BK110.out 3).trans rfl, (blk_cell BK110.out 4).trans rfl, ((HB.out.cell (qL w _ hw114_0)).trans hw114_0), ((HB.out.cell (qL w _ hw114_1)).trans hw114_1), ((HB.out.cell (qL w _ hw116_0)).trans hw116_0), ((HB.out.cell (qL w _ hw116_1)).trans hw116_1)⟩ (fun hHeld => ?_); clear hK K; refine norm_ (a' := ?_) ?_ ?_; rotate_left
                        ·exact qa13
                        refine pure_ (i := 7) (N := some 115) (v := ?_) (a' := ?_) spec_SchemaOK.y8 rfl rfl (any_of HT_.out qa16) (fun _ _ _ h => h) (Or.inl ⟨by rfl, ?_⟩) ?_ ?_; rotate_left; exact qa20; rotate_left; exact qa7; refine pure_ (i := 8) (N := some 116) (v := ?_) (a' := ?_) spec_SchemaOK.y9 rfl rfl (any_of HT_.out qa16) (fun _ _ _ h => h) (Or.inl ⟨by rfl, ?_⟩) ?_ ?_; rotate_left; exact qa20; rotate_left; exact qa7; refine pure_ (i := 10) (N := some 118) (v := ?_) (a' := ?_) spec_SchemaOK.y10 rfl rfl (any_of HT_.out qa16) (fun _ _ _ h => h) (Or.inl ⟨by rfl, ?_⟩) ?_ ?_; rotate_left; exact qa20; rotate_left; exact qa7; refine pure_ (i := 12) (N := some 120) (v := ?_) (a' := ?_) spec_SchemaOK.y11 rfl rfl (any_of HT_.out qa16) (fun _ _ _ h => h) (Or.inl ⟨by rfl, ?_⟩) ?_ ?_; rotate_left; exact qa20; rotate_left; exact qa7; refine pure_ (i := 17) (N := some 125) (v := ?_) (a' := ?_) spec_SchemaOK.y12 rfl rfl (any_of HT_.out qa16) (fun _ _ _ h => h) (Or.inl ⟨by rfl, ?_⟩) ?_ ?_; rotate_left; exact qa20; rotate_left; exact qa7; refine take_ (i := 9) (N := some 117) (v := ?_) (a' := ?_) spec_SchemaOK.y13 rfl rfl (take_ofW HT_.out HW_.out qa16) (fun _ _ _ h => h) (Or.inl ⟨by rfl, ?_⟩) hHeld ?_ ?_; rotate_left; exact qa66; rotate_left; exact qa7; refine take_ (i := 11) (N := some 119) (v := ?_) (a' := ?_) spec_SchemaOK.y14 rfl rfl (take_ofW HT_.out HW_.out qa16) (fun _ _ _ h => h) (Or.inl ⟨by rfl, ?_⟩) hHeld ?_ ?_; rotate_left; exact qa66; rotate_left; exact qa7; refine pure_ (i := 13) (N := some 121) (v := ?_) (a' := ?_) spec_SchemaOK.y15 rfl rfl (any_of HT_.out qa16) (fun _ _ _ h => h) (Or.inl ⟨by rfl, ?_⟩) ?_ ?_; rotate_left; exact qa20; rotate_left; exact qa7; refine pure_ (i := 14) (N := some 122) (v := ?_) (a' := ?_) spec_SchemaOK.y16 rfl rfl (any_of HT_.out qa16) (fun _ _ _ h => h) (Or.inl ⟨by rfl, ?_⟩) ?_ ?_; rotate_left; exact qa20; rotate_left; exact qa7; refine take_ (i := 15) (N := some 123) (v := ?_) (a' := ?_) spec_SchemaOK.y17 rfl rfl (take_ofW HT_.out HW_.out qa16) (fun _ _ _ h => h) (Or.inl ⟨by rfl, ?_⟩) hHeld ?_ ?_; rotate_left; exact qa66; rotate_left; exact qa7; refine one_ (i := 16) (N := some 124) spec_SchemaOK.y18 rfl rfl (one_of HT_.out qa16) qa60 (fun K hK => ?_); refine goes_ Tryd.func24 qa16 rfl #[.agg #[.string ((rd_T47 ((rd_T41 l0_0 x3_2).f1) x5_4).f0), .slice (some ad114) ((rd_T47 ((rd_T41 l0_0 x3_2).f1) x5_4).f1).length c109_1, .string ((rd_T47 ((rd_T41 l0_0 x3_2).f1) x5_4).f2), .bool ((rd_T47 ((rd_T41 l0_0 x3_2).f1) x5_4).f3), .bool ((rd_T47 ((rd_T41 l0_0 x3_2).f1) x5_4).f4)], .string ((rd_T60 ((rd_T47 ((rd_T41 l0_0 x3_2).f1) x5_4).f1) x7_6).f0)] (by rfl) rfl rfl qa0 ?_; (with_reducible refine (spec_l03Arg.calls k6 ((rd_T47 ((rd_T41 l0_0 x3_2).f1) x5_4).f0) _ _ ((rd_T47 ((rd_T41 l0_0 x3_2).f1) x5_4).f1) ((rd_T47 ((rd_T41 l0_0 x3_2).f1) x5_4).f2) ((rd_T47 ((rd_T41 l0_0 x3_2).f1) x5_4).f3) ((rd_T47 ((rd_T41 l0_0 x3_2).f1) x5_4).f4) ((rd_T60 ((rd_T47 ((rd_T41 l0_0 x3_2).f1) x5_4).f1) x7_6).f0) t117 _ ?side1 ?side2 A98.out).mono ?_); (case side1 => exact qa68); (case side2 => exact HC109_1.out); rintro e w109 ⟨rfl, hb⟩; have hx_ := qHX HB hb qa1; refine ⟨_, rfl, ?_⟩; have n0_ := qO (qB BK101.out hx_ hb); have n1_ := qO (qB BK105.out hx_ hb); have n2_ := qO (blk_below (g := gb110) (o := .cells #[.string ((rd_T47 ((rd_T41 l0_0 x3_2).f1) x5_4).f0), .slice (some ad114) ((rd_T47 ((rd_T41 l0_0 x3_2).f1) x5_4).f1).length c109_1, .string ((rd_T47 ((rd_T41 l0_0 x3_2).f1) x5_4).f2), .bool ((rd_T47 ((rd_T41 l0_0 x3_2).f1) x5_4).f3), .bool ((rd_T47 ((rd_T41 l0_0 x3_2).f1) x5_4).f4)] 47 (0, 0)) qa40 hb); have n3_ := qO (below_step (below_step HB.out hx_) hb); clear BK101; clear BK105; clear BK110; clear HB; have BK101 := n0_; have BK105 := n1_; have BK110 := n2_; have HB := n3_; clear n0_ n1_ n2_ n3_; clear hx_; (try clear hb); (try clear hb2); (try clear hk); (try clear hi); refine hK.out _ _ ⟨(blk_cell BK110.out 0).trans rfl, (blk_cell BK110.out 1).trans rfl, (blk_cell BK110.out 2).trans rfl, (blk_cell BK110.out 3).trans rfl, (blk_cell BK110.out 4).trans rfl, ((HB.out.cell (qL w _ hw114_0)).trans hw114_0), ((HB.out.cell (qL w _ hw114_1)).trans hw114_1), ((HB.out.cell (qL w _ hw116_0)).trans hw116_0), ((HB.out.cell (qL w _ hw116_1)).trans hw116_1)⟩ (fun hHeld => ?_); clear hK K; refine norm_ (a' := ?_) ?_ ?_; rotate_left
                        ·exact qa13
                        refine pure_ (i := 18) (N := some 126) (v := ?_) (a' := ?_) spec_SchemaOK.y19 rfl rfl (any_of HT_.out qa16) (fun _ _ _ h => h) (Or.inl ⟨by rfl, ?_⟩) ?_ ?_; rotate_left; exact qa20; rotate_left; exact qa7; refine pure_ (i := 19) (N := some 127) (v := ?_) (a' := ?_) spec_SchemaOK.y20 rfl rfl (any_of HT_.out qa16) (fun _ _ _ h => h) (Or.inl ⟨by rfl, ?_⟩) ?_ ?_; rotate_left; exact qa20; rotate_left; exact qa7; refine done_ (done_of HT_.out qa16) ?_
                        try go_wp2
                        go_ret
                        exact ⟨qa5, qa15⟩
                      ·replace c97 := Bool.eq_false_iff.mpr c97
                       subst c97; have H1 : (some false) = some r := by rw [if_neg (show ¬ (false = true) by decide)] at H; exact H
                       clear H; have H := H1; clear H1; obtain rfl := Option.some.inj H; have hnb110 := NB110_101.out; have hnc110 := NB101_110.out; have hnb111 := NB110_105.out; have hnc111 := NB105_110.out; have hcz112_0 : wr.cell? ⟨gb110, 0, none⟩ = some (.string ((rd_T47 ((rd_T41 l0_0 x3_2).f1) x5_4).f0)) := (blk_cell BK110.out 0).trans rfl; have hcz112_1 : wr.cell? ⟨gb110, 1, none⟩ = some (.slice A109_1 ((rd_T47 ((rd_T41 l0_0 x3_2).f1) x5_4).f1).length c109_1) := (blk_cell BK110.out 1).trans rfl; have hcz112_2 : wr.cell? ⟨gb110, 2, none⟩ = some (.string ((rd_T47 ((rd_T41 l0_0 x3_2).f1) x5_4).f2)) := (blk_cell BK110.out 2).trans rfl; have hcz112_3 : wr.cell? ⟨gb110, 3, none⟩ = some (.bool ((rd_T47 ((rd_T41 l0_0 x3_2).f1) x5_4).f3)) := (blk_cell BK110.out 3).trans rfl; have hcz112_4 : wr.cell? ⟨gb110, 4, none⟩ = some (.bool ((rd_T47 ((rd_T41 l0_0 x3_2).f1) x5_4).f4)) := (blk_cell BK110.out 4).trans rfl; have hfz112_0 := blk_frozen BK110.out 0; have hfz112_1 := blk_frozen BK110.out 1; have hfz112_2 := blk_frozen BK110.out 2; have hfz112_3 := blk_frozen BK110.out 3; have hfz112_4 := blk_frozen BK110.out 4
                       try go_wp2
                       have n0_ := qO (qkD BK101.out); have n1_ := qO (qkD BK105.out); have n2_ := qO (qkD BK110.out); have n3_ := qO (qbD HB.out); clear BK101; clear BK105; clear BK110; clear HB; have BK101 := n0_; have BK105 := n1_; have BK110 := n2_; have HB := n3_; clear n0_ n1_ n2_ n3_; have p114 : 0 ≤ (x7_6 : Int) := qT qa6; have q114 : x7_6 < (((rd_T47 ((rd_T41 l0_0 x3_2).f1) x5_4).f1).length : Int) := qT qa6; obtain ⟨ad114, e114, hx114_0, hx114_1⟩ := at_T60 HR109_1.out x7_6 p114 q114; have hw114_1 := hx114_1; have hw114_0 := hx114_0
                       cases e114
                       replace hx114_0 := (HB.out.cell (qL w _ hx114_0)).trans hx114_0; replace hx114_1 := (HB.out.cell (qL w _ hx114_1)).trans hx114_1; replace p114 := eq_true p114; replace q114 := eq_true q114; refine start_ (n := 20) (S := fun w' => w'.cell? ⟨gb110, 0, none⟩ = some (.string ((rd_T47 ((rd_T41 l0_0 x3_2).f1) x5_4).f0)) ∧ w'.cell? ⟨gb110, 1, none⟩ = some (.slice (some ad114) ((rd_T47 ((rd_T41 l0_0 x3_2).f1) x5_4).f1).length c109_1) ∧ w'.cell? ⟨gb110, 2, none⟩ = some (.string ((rd_T47 ((rd_T41 l0_0 x3_2).f1) x5_4).f2)) ∧ w'.cell? ⟨gb110, 3, none⟩ = some (.bool ((rd_T47 ((rd_T41 l0_0 x3_2).f1) x5_4).f3)) ∧ w'.cell? ⟨gb110, 4, none⟩ = some (.bool ((rd_T47 ((rd_T41 l0_0 x3_2).f1) x5_4).f4)) ∧ w'.cell? (ad114.add ((x7_6).toNat * 2)) = some (.string ((rd_T60 ((rd_T47 ((rd_T41 l0_0 x3_2).f1) x5_4).f1) x7_6).f0)) ∧ w'.cell? ⟨(ad114.add ((x7_6).toNat * 2)).block, (ad114.add ((x7_6).toNat * 2)).off + 1, none⟩ = some (.bool ((rd_T60 ((rd_T47 ((rd_T41 l0_0 x3_2).f1) x5_4).f1) x7_6).f1))) (ds := []) spec_SchemaOK.y0 qa16 rfl rfl ⟨(blk_cell BK110.out 0).trans rfl, (blk_cell BK110.out 1).trans rfl, (blk_cell BK110.out 2).trans rfl, (blk_cell BK110.out 3).trans rfl, (blk_cell BK110.out 4).trans rfl, ((HB.out.cell (qL w _ hw114_0)).trans hw114_0), ((HB.out.cell (qL w _ hw114_1)).trans hw114_1)⟩ (fun hHeld => ?_); refine with_tabW spec_SchemaOK.tab18 spec_SchemaOK.bits18 (fun HT_ HW_ => ?_); generalize wr.drew = w113 at BK101 BK105 BK110 HB hx114_0 hx114_1 hHeld ⊢; refine pure_ (i := 0) (N := some 108) (v := ?_) (a' := ?_) spec_SchemaOK.y1 rfl rfl (any_of HT_.out qa16) (fun _ _ _ h => h) (Or.inl ⟨by rfl, ?_⟩) ?_ ?_; rotate_left; exact qa20; rotate_left; exact qa7; refine pure_ (i := 2) (N := some 110) (v := ?_) (a' := ?_) spec_SchemaOK.y2 rfl rfl (any_of HT_.out qa16) (fun _ _ _ h => h) (Or.inl ⟨by rfl, ?_⟩) ?_ ?_; rotate_left; exact qa20; rotate_left; exact qa7; refine take_ (i := 1) (N := some 109) (v := ?_) (a' := ?_) spec_SchemaOK.y3 rfl rfl (take_ofW HT_.out HW_.out qa16) (fun _ _ _ h => h) (Or.inl ⟨by rfl, ?_⟩) hHeld ?_ ?_; rotate_left; exact qa103; rotate_left; exact qa7; refine pure_ (i := 3) (N := some 111) (v := ?_) (a' := ?_) spec_SchemaOK.y4 rfl rfl (any_of HT_.out qa16) (fun _ _ _ h => h) (Or.inl ⟨by rfl, ?_⟩) ?_ ?_; rotate_left; exact qa20; rotate_left; exact qa7; refine pure_ (i := 4) (N := some 112) (v := ?_) (a' := ?_) spec_SchemaOK.y5 rfl rfl (any_of HT_.out qa16) (fun _ _ _ h => h) (Or.inl ⟨by rfl, ?_⟩) ?_ ?_; rotate_left; exact qa20; rotate_left; exact qa7; refine take_ (i := 5) (N := some 113) (v := ?_) (a' := ?_) spec_SchemaOK.y6 rfl rfl (take_ofW HT_.out HW_.out qa16) (fun _ _ _ h => h) (Or.inl ⟨by rfl, ?_⟩) hHeld ?_ ?_; rotate_left; exact qa103; rotate_left; exact qa7; refine one_ (i := 6) (N := some 114) spec_SchemaOK.y7 rfl rfl (one_of HT_.out qa16) qa60 (fun K hK => ?_); refine goes_ Tryd.func22 qa16 rfl #[.string ((rd_T60 ((rd_T47 ((rd_T41 l0_0 x3_2).f1) x5_4).f1) x7_6).f0)] (by rfl) rfl rfl qa0 ?_; (with_reducible refine (spec_NameOK.calls k6 ((rd_T60 ((rd_T47 ((rd_T41 l0_0 x3_2).f1) x5_4).f1) x7_6).f0) false _ A96.out).mono ?_); rintro e w' ⟨rfl, ⟨nd, rfl⟩⟩; refine ⟨_, rfl, ?_⟩; refine hK.out _ _ ⟨(blk_cell BK110.out 0).trans rfl, (blk_cell BK110.out 1).trans rfl, (blk_cell BK110.out 2).trans rfl, (blk_cell BK110.out 3).trans rfl, (blk_cell BK110.out 4).trans rfl, ((HB.out.cell (qL w _ hw114_0)).trans hw114_0), ((HB.out.cell (qL w _ hw114_1)).trans hw114_1)⟩ (fun hHeld => ?_); clear hK K; refine norm_ (a' := ?_) ?_ ?_; rotate_left
                       ·exact qa13
                       refine pure_ (i := 7) (N := some 115) (v := ?_) (a' := ?_) spec_SchemaOK.y8 rfl rfl (any_of HT_.out qa16) (fun _ _ _ h => h) (Or.inl ⟨by rfl, ?_⟩) ?_ ?_; rotate_left; exact qa20; rotate_left; exact qa7; refine pure_ (i := 8) (N := some 116) (v := ?_) (a' := ?_) spec_SchemaOK.y9 rfl rfl (any_of HT_.out qa16) (fun _ _ _ h => h) (Or.inl ⟨by rfl, ?_⟩) ?_ ?_; rotate_left; exact qa20; rotate_left; exact qa7; refine pure_ (i := 9) (N := some 117) (v := undef) (a' := ?_) spec_SchemaOK.y21 rfl rfl (any_of HT_.out qa16) (fun _ _ _ h => h) (Or.inr ⟨by rfl, rfl⟩) ?_ ?_; rotate_left
                       ·simp only [Act.put, qzA, qzB, qzC, i64_w, i32_w]
                        rfl
                       refine pure_ (i := 10) (N := some 118) (v := undef) (a' := ?_) spec_SchemaOK.y22 rfl rfl (any_of HT_.out qa16) (fun _ _ _ h => h) (Or.inr ⟨by rfl, rfl⟩) ?_ ?_; rotate_left
                       ·simp only [Act.put, qzA, qzB, qzC, i64_w, i32_w]
                        rfl
                       refine pure_ (i := 11) (N := some 119) (v := undef) (a' := ?_) spec_SchemaOK.y23 rfl rfl (any_of HT_.out qa16) (fun _ _ _ h => h) (Or.inr ⟨by rfl, rfl⟩) ?_ ?_; rotate_left
                       ·simp only [Act.put, qzA, qzB, qzC, i64_w, i32_w]
                        rfl
                       refine pure_ (i := 12) (N := some 120) (v := undef) (a' := ?_) spec_SchemaOK.y24 rfl rfl (any_of HT_.out qa16) (fun _ _ _ h => h) (Or.inr ⟨by rfl, rfl⟩) ?_ ?_; rotate_left
                       ·simp only [Act.put, qzA, qzB, qzC, i64_w, i32_w]
                        rfl
                       refine pure_ (i := 13) (N := some 121) (v := undef) (a' := ?_) spec_SchemaOK.y25 rfl rfl (any_of HT_.out qa16) (fun _ _ _ h => h) (Or.inr ⟨by rfl, rfl⟩) ?_ ?_; rotate_left
                       ·simp only [Act.put, qzA, qzB, qzC, i64_w, i32_w]
                        rfl
                       refine pure_ (i := 14) (N := some 122) (v := undef) (a' := ?_) spec_SchemaOK.y26 rfl rfl (any_of HT_.out qa16) (fun _ _ _ h => h) (Or.inr ⟨by rfl, rfl⟩) ?_ ?_; rotate_left
                       ·simp only [Act.put, qzA, qzB, qzC, i64_w, i32_w]
                        rfl
                       refine pure_ (i := 15) (N := some 123) (v := undef) (a' := ?_) spec_SchemaOK.y27 rfl rfl (any_of HT_.out qa16) (fun _ _ _ h => h) (Or.inr ⟨by rfl, rfl⟩) ?_ ?_; rotate_left
                       ·simp only [Act.put, qzA, qzB, qzC, i64_w, i32_w]
                        rfl
                       refine pure_ (i := 16) (N := some 124) (v := undef) (a' := ?_) spec_SchemaOK.y28 rfl rfl (any_of HT_.out qa16) (fun _ _ _ h => h) (Or.inr ⟨by rfl, rfl⟩) ?_ ?_; rotate_left
                       ·simp only [Act.put, qzA, qzB, qzC, i64_w, i32_w]
                        rfl
                       refine pure_ (i := 17) (N := some 125) (v := undef) (a' := ?_) spec_SchemaOK.y18 rfl rfl (any_of HT_.out qa16) (fun _ _ _ h => h) (Or.inr ⟨by rfl, rfl⟩) ?_ ?_; rotate_left
                       ·simp only [Act.put, qzA, qzB, qzC, i64_w, i32_w]
                        rfl
                       refine pure_ (i := 18) (N := some 126) (v := undef) (a' := ?_) spec_SchemaOK.y19 rfl rfl (any_of HT_.out qa16) (fun _ _ _ h => h) (Or.inr ⟨by rfl, rfl⟩) ?_ ?_; rotate_left
                       ·simp only [Act.put, qzA, qzB, qzC, i64_w, i32_w]
                        rfl
                       refine pure_ (i := 19) (N := some 127) (v := ?_) (a' := ?_) spec_SchemaOK.y20 rfl rfl (any_of HT_.out qa16) (fun _ _ _ h => h) (Or.inl ⟨by rfl, ?_⟩) ?_ ?_; rotate_left; exact qa20; rotate_left; exact qa7; refine done_ (done_of HT_.out qa16) ?_
                       try go_wp2
                       go_ret
                       exact ⟨qa5, qa15⟩
                     ·rw [if_neg c95] at H
                      exact absurd H qa76
                    ·rw [if_neg c94] at H
                     have c94b0 : decide (x7_6 < (((rd_T47 ((rd_T41 l0_0 x3_2).f1) x5_4).f1).length : Int)) = false := decide_eq_false c94; clear c94; have H' := qO H; clear H; have hnb114 := NB110_101.out; have hnc114 := NB101_110.out; have hnb115 := NB110_105.out; have hnc115 := NB105_110.out; have hcz116_0 : wr.cell? ⟨gb110, 0, none⟩ = some (.string ((rd_T47 ((rd_T41 l0_0 x3_2).f1) x5_4).f0)) := (blk_cell BK110.out 0).trans rfl; have hcz116_1 : wr.cell? ⟨gb110, 1, none⟩ = some (.slice A109_1 ((rd_T47 ((rd_T41 l0_0 x3_2).f1) x5_4).f1).length c109_1) := (blk_cell BK110.out 1).trans rfl; have hcz116_2 : wr.cell? ⟨gb110, 2, none⟩ = some (.string ((rd_T47 ((rd_T41 l0_0 x3_2).f1) x5_4).f2)) := (blk_cell BK110.out 2).trans rfl; have hcz116_3 : wr.cell? ⟨gb110, 3, none⟩ = some (.bool ((rd_T47 ((rd_T41 l0_0 x3_2).f1) x5_4).f3)) := (blk_cell BK110.out 3).trans rfl; have hcz116_4 : wr.cell? ⟨gb110, 4, none⟩ = some (.bool ((rd_T47 ((rd_T41 l0_0 x3_2).f1) x5_4).f4)) := (blk_cell BK110.out 4).trans rfl; have hfz116_0 := blk_frozen BK110.out 0; have hfz116_1 := blk_frozen BK110.out 1; have hfz116_2 := blk_frozen BK110.out 2; have hfz116_3 := blk_frozen BK110.out 3; have hfz116_4 := blk_frozen BK110.out 4; go_wp2
                     go_roundg k6
                     case measure => have := HJ1.out; have := HK2.out; have := HJ12.out; have := HK4.out; have := HJ39.out; have := HK6.out; omega
                     case rel => exact ⟨(wrap64 (x5_4 + 1)), qa10, H', ⟨qa124⟩, ⟨qa4⟩, ⟨qa32⟩, ⟨qa15⟩⟩
              ·rw [if_neg c39] at H
               exact absurd H qa76
             ·rw [if_neg c38] at H
              have c38b0 : decide (x5_4 < (((rd_T41 l0_0 x3_2).f1).length : Int)) = false := decide_eq_false c38; clear c38; have H' := qO H; clear H; have hnb117 := NB105_101.out; have hnc117 := NB101_105.out; have hcz118_0 : wr.cell? ⟨gb105, 0, none⟩ = some (.string ((rd_T41 l0_0 x3_2).f0)) := (blk_cell BK105.out 0).trans rfl; have hcz118_1 : wr.cell? ⟨gb105, 1, none⟩ = some (.slice A104_1 ((rd_T41 l0_0 x3_2).f1).length c104_1) := (blk_cell BK105.out 1).trans rfl; have hfz118_0 := blk_frozen BK105.out 0; have hfz118_1 := blk_frozen BK105.out 1; go_wp2
              go_roundg k4
              case measure => have := HJ1.out; have := HK2.out; have := HJ12.out; have := HK4.out; omega
              case rel => exact ⟨(wrap64 (x3_2 + 1)), qa10, H', ⟨by have := HJ1.out; have := HK2.out; have := HJ12.out; have := HK4.out; omega⟩, ⟨qa4⟩, ⟨qa21⟩⟩
       ·rw [if_neg c12] at H
        exact absurd H qa76
      ·rw [if_neg c11] at H
       have c11b0 : decide (x3_2 < (l0_0.length : Int)) = false := decide_eq_false c11; clear c11; obtain rfl := Option.some.inj H; have hcz119_0 : wr.cell? ⟨gb101, 0, none⟩ = some (.slice A0_0 l0_0.length c0_0) := (blk_cell BK101.out 0).trans rfl; have hfz119_0 := blk_frozen BK101.out 0; go_wp2
       go_ret
       exact ⟨qa5, qa2⟩


def spec_l01Bit.f (a0 : Bool) : Option (Int) := if a0 = true then (some 1) else (some 0)
set_option maxHeartbeats 8000000 in
set_option maxRecDepth 100000 in
theorem spec_l01Bit.calls (a0 : Bool) (r : Int) (w : World) (h : spec_l01Bit.f a0 = some r) :
  Calls Tryd.prog 25 #[.bool a0] w fun e w' => e = .returned (.int .i64 r) ∧ Drawn0 w w' := by
 have H : (if a0 = true then (some 1) else (some 0)) = some r := h; clear h
 by_cases c2 : a0 = true
 ·subst c2
  have H1 : (some 1) = some r := by rw [if_pos rfl] at H; exact H
  clear H; have H := H1; clear H1; obtain rfl := Option.some.inj H
  go_enter Tryd.func25, Tryd.ntmps25
  go_wp2
  go_ret
  exact ⟨qa10, qa24⟩
 ·replace c2 := Bool.eq_false_iff.mpr c2
  subst c2; have H1 : (some 0) = some r := by rw [if_neg (show ¬ (false = true) by decide)] at H; exact H
  clear H; have H := H1; clear H1; obtain rfl := Option.some.inj H
  go_enter Tryd.func25, Tryd.ntmps25
  go_wp2
  go_ret
  exact ⟨qa10, qa24⟩

end Go.Proofs.YtoogmlghfljeiaaDoor.Q
