/- Texts of the claim on FnExactRealTime, gathered by a program of this session: what the program's functions compute (proved by walks), and the plain part. -/
import Derived.Test.YtfpkooafbeejmaaProg
import Derived.Shelf.Abstract
import Derived.Lib.SliceRun
import Derived.Below
import Derived.Deep.Draws
import Derived.Deep.AppendLies
import Derived.Maps.AppendAt
import Derived.OwnWalk
import Derived.Laws.BytesArg
import Derived.Laws.MakeOwn
import Derived.Laws.OwnMore
import Derived.Deep.OwnRows
import Derived.Tactics
import Derived.Lib.ConvBytes
import Derived.Laws.Slices
import Derived.WalkKit
import Derived.KernelRfl
import Derived.RowKit3
import Derived.Deep.LoopGhost
import Derived.Deep.QuietTactic
import Derived.BigQuiet
import Derived.WideLaws
import Derived.Deep.DeepCutAuto
import Derived.Deep.CutBlock
import Derived.Deep.RegionHeld3
import Derived.Laws.Rows
import Derived.Lib.AppendStr
import Derived.ArgAppend
import Derived.Laws.IdiomCopy
import Derived.OrdersHeld
import Derived.Laws.BitsLemmas
import Derived.RowKit
import Derived.Test.YtfpkooafbeejmaaKFnExactRealTimeWWords
import Derived.Test.YtfpkooafbeejmaaKFnExactRealTimeWLast
import Derived.Test.YtfpkooafbeejmaaKFnExactRealTimeWTab
import Derived.Test.YtfpkooafbeejmaaKFnExactRealTimeWQPut
import Derived.Test.YtfpkooafbeejmaaKFnExactRealTimeWApart
import Derived.Test.YtfpkooafbeejmaaKFnExactRealTimeWArr
import Derived.Test.YtfpkooafbeejmaaKFnExactRealTimeWZeros
import Derived.Test.YtfpkooafbeejmaaKFnExactRealTimeWFoot
import Derived.Test.YtfpkooafbeejmaaKFnExactRealTimeWKept
import Derived.Test.YtfpkooafbeejmaaKFnExactRealTimeWShare
import Derived.Test.YtfpkooafbeejmaaKFnExactRealTimeWN
import Derived.Test.YtfpkooafbeejmaaKFnExactRealTimeWRepsOne
import Derived.Test.YtfpkooafbeejmaaKFnExactRealTimeWNEv
import Derived.Test.YtfpkooafbeejmaaKFnExactRealTimeWMore
namespace Go.Proofs.Ytfpkooafbeejmaa.Q
open Go.RowKit Go.Proofs.YtfpkooafbeejmaaW.PrintWords Go.Proofs.YtfpkooafbeejmaaW.PrintLast Go.Proofs.YtfpkooafbeejmaaW.PrintMore
attribute [local go_sem] max2_int min2_int max_two min_two max_three min_three max_four min_four
set_option linter.unusedVariables false
set_option linter.unusedSimpArgs false



def errW : Option Int → Value
 | none => .nilIface
 | some c => .iface 0 (.int .i64 c)
theorem errW_none : errW none = .nilIface := rfl
theorem errW_some (c : Int) : errW (some c) = .iface 0 (.int .i64 c) := rfl

theorem info3 : (Try.prog.info? 3).map (fun i => (i.zero, i.size, i.bytes)) = some (some (.int .i64 0), 1, 8) := by kernel_rfl
theorem info5 : (Try.prog.info? 5).map (fun i => (i.zero, i.size, i.bytes)) = some (some (.int .u8 0), 1, 1) := by kernel_rfl
theorem info80 : (Try.prog.info? 80).map (fun i => (i.zero, i.size, i.bytes)) = some (some (.agg #[(.string ⟨#[]⟩), (.int .i64 0), (.int .i64 0), (.string ⟨#[]⟩)]), 4, 48) := by kernel_rfl
theorem info115 : (Try.prog.info? 115).map (fun i => (i.zero, i.size, i.bytes)) = some (some (.agg #[(.int .i64 0), (.int .i64 0), (.int .i64 0), (.int .i64 0), (.bool false), (.slice none 0 0), (.slice none 0 0), (.string ⟨#[]⟩)]), 8, 104) := by kernel_rfl
theorem info141 : (Try.prog.info? 141).map (fun i => (i.zero, i.size, i.bytes)) = some (some (.agg #[(.int .i64 0), (.string ⟨#[]⟩), (.string ⟨#[]⟩), (.slice none 0 0)]), 4, 64) := by kernel_rfl
theorem info161 : (Try.prog.info? 161).map (fun i => (i.zero, i.size, i.bytes)) = some (some (.agg #[(.int .i64 0), (.string ⟨#[]⟩), (.string ⟨#[]⟩), (.slice none 0 0), (.slice none 0 0), (.slice none 0 0)]), 6, 112) := by kernel_rfl
theorem info172 : (Try.prog.info? 172).map (fun i => (i.zero, i.size, i.bytes)) = some (some (.agg #[(.string ⟨#[]⟩), (.int .i64 0), (.int .i64 0), (.string ⟨#[]⟩)]), 4, 48) := by kernel_rfl
theorem info174 : (Try.prog.info? 174).map (fun i => (i.zero, i.size, i.bytes)) = some (some (.agg #[(.bool false), (.int .i64 0), (.int .i64 0), (.string ⟨#[]⟩)]), 4, 40) := by kernel_rfl
-- the values' own types
/-! #### struct type 30 -/
structure S30 where
 f0 : Int
 f1 : Int
 f2 : ByteArray
def z30 : S30 := ⟨(0 : Int), (0 : Int), (⟨#[]⟩ : ByteArray)⟩
def k30 : Kd S30 := Kd.iso (Kd.pair (Kd.int .i64) (Kd.pair (Kd.int .i64) Kd.string)) (fun x : S30 => (x.f0, x.f1, x.f2))
theorem k30_open {w : World} {x : S30} {cs : List Value} (h : k30.K w x cs) : cs = [.int .i64 x.f0, .int .i64 x.f1, .string x.f2] := by
 obtain ⟨_, _, rfl, rfl, ⟨_, _, rfl, rfl, rfl⟩⟩ := h
 exact rfl
theorem k30_openM {w : World} {base : Nat} {ok : Nat → Prop} {x : S30} {cs : List Value} (h : k30.M w base ok x cs) : cs = [.int .i64 x.f0, .int .i64 x.f1, .string x.f2] := by
 obtain ⟨_, _, rfl, rfl, ⟨_, _, rfl, rfl, rfl⟩⟩ := h
 exact rfl
theorem k30_mk (w : World) (x : S30)  : k30.K w x [.int .i64 x.f0, .int .i64 x.f1, .string x.f2] := ⟨[.int .i64 x.f0], [.int .i64 x.f1, .string x.f2], rfl, rfl, ⟨[.int .i64 x.f1], [.string x.f2], rfl, rfl, rfl⟩⟩
theorem k30_mkM (w : World) (base : Nat) (ok : Nat → Prop) (x : S30)  : k30.M w base ok x [.int .i64 x.f0, .int .i64 x.f1, .string x.f2] := ⟨[.int .i64 x.f0], [.int .i64 x.f1, .string x.f2], rfl, rfl, ⟨[.int .i64 x.f1], [.string x.f2], rfl, rfl, rfl⟩⟩
def rd_T30 (xs : List S30) (i : Int) : S30 := xs.getD i.toNat z30
theorem at_T30 {w : World} {A : Option Addr} {n : Nat} {xs : List S30} (h : Kd.C k30 w A n xs) (i : Int) (h0 : 0 ≤ i) (h1 : i < n) : ∃ ad , A = some ad ∧ w.cell? (ad.add (i.toNat * 3)) = some (.int .i64 (rd_T30 xs i).f0) ∧ w.cell? ⟨(ad.add (i.toNat * 3)).block, (ad.add (i.toNat * 3)).off + 1, none⟩ = some (.int .i64 (rd_T30 xs i).f1) ∧ w.cell? ⟨(ad.add (i.toNat * 3)).block, (ad.add (i.toNat * 3)).off + 2, none⟩ = some (.string (rd_T30 xs i).f2) := by
 obtain ⟨ad, c, e, _, hK, hc0⟩ := Kd.C_get h z30 i h0 h1
 have hc : ∀ j u, c[j]? = some u → w.cell? (ad.add (i.toNat * 3 + j)) = some u := hc0
 obtain rfl := k30_open hK
 exact ⟨ad, e, hc 0 _ rfl, by rw [← add_field _ _ 1 (by omega)]; exact hc 1 _ rfl, by rw [← add_field _ _ 2 (by omega)]; exact hc 2 _ rfl⟩

/-! #### struct type 77 -/
structure S77 where
 f0 : ByteArray
 f1 : S30
def z77 : S77 := ⟨(⟨#[]⟩ : ByteArray), z30⟩
def k77 : Kd S77 := Kd.iso (Kd.pair Kd.string k30) (fun x : S77 => (x.f0, x.f1))
theorem k77_open {w : World} {x : S77} {cs : List Value} (h : k77.K w x cs) : cs = [.string x.f0, .int .i64 x.f1.f0, .int .i64 x.f1.f1, .string x.f1.f2] := by
 obtain ⟨_, _, rfl, rfl, s1⟩ := h
 obtain rfl := k30_open s1
 exact rfl
theorem k77_openM {w : World} {base : Nat} {ok : Nat → Prop} {x : S77} {cs : List Value} (h : k77.M w base ok x cs) : cs = [.string x.f0, .int .i64 x.f1.f0, .int .i64 x.f1.f1, .string x.f1.f2] := by
 obtain ⟨_, _, rfl, rfl, s1⟩ := h
 obtain rfl := k30_openM s1
 exact rfl
theorem k77_mk (w : World) (x : S77)  : k77.K w x [.string x.f0, .int .i64 x.f1.f0, .int .i64 x.f1.f1, .string x.f1.f2] := ⟨[.string x.f0], [.int .i64 x.f1.f0, .int .i64 x.f1.f1, .string x.f1.f2], rfl, rfl, (k30_mk w x.f1 )⟩
theorem k77_mkM (w : World) (base : Nat) (ok : Nat → Prop) (x : S77)  : k77.M w base ok x [.string x.f0, .int .i64 x.f1.f0, .int .i64 x.f1.f1, .string x.f1.f2] := ⟨[.string x.f0], [.int .i64 x.f1.f0, .int .i64 x.f1.f1, .string x.f1.f2], rfl, rfl, (k30_mkM w base ok x.f1 )⟩
def rd_T77 (xs : List S77) (i : Int) : S77 := xs.getD i.toNat z77
theorem at_T77 {w : World} {A : Option Addr} {n : Nat} {xs : List S77} (h : Kd.C k77 w A n xs) (i : Int) (h0 : 0 ≤ i) (h1 : i < n) : ∃ ad , A = some ad ∧ w.cell? (ad.add (i.toNat * 4)) = some (.string (rd_T77 xs i).f0) ∧ w.cell? ⟨(ad.add (i.toNat * 4)).block, (ad.add (i.toNat * 4)).off + 1, none⟩ = some (.int .i64 (rd_T77 xs i).f1.f0) ∧ w.cell? ⟨(ad.add (i.toNat * 4)).block, (ad.add (i.toNat * 4)).off + 2, none⟩ = some (.int .i64 (rd_T77 xs i).f1.f1) ∧ w.cell? ⟨(ad.add (i.toNat * 4)).block, (ad.add (i.toNat * 4)).off + 3, none⟩ = some (.string (rd_T77 xs i).f1.f2) := by
 obtain ⟨ad, c, e, _, hK, hc0⟩ := Kd.C_get h z77 i h0 h1
 have hc : ∀ j u, c[j]? = some u → w.cell? (ad.add (i.toNat * 4 + j)) = some u := hc0
 obtain rfl := k77_open hK
 exact ⟨ad, e, hc 0 _ rfl, by rw [← add_field _ _ 1 (by omega)]; exact hc 1 _ rfl, by rw [← add_field _ _ 2 (by omega)]; exact hc 2 _ rfl, by rw [← add_field _ _ 3 (by omega)]; exact hc 3 _ rfl⟩

/-! #### struct type 32 -/
structure S32 where
 f0 : Int
 f1 : Int
 f2 : ByteArray
def z32 : S32 := ⟨(0 : Int), (0 : Int), (⟨#[]⟩ : ByteArray)⟩
def k32 : Kd S32 := Kd.iso (Kd.pair (Kd.int .i64) (Kd.pair (Kd.int .i64) Kd.string)) (fun x : S32 => (x.f0, x.f1, x.f2))
theorem k32_open {w : World} {x : S32} {cs : List Value} (h : k32.K w x cs) : cs = [.int .i64 x.f0, .int .i64 x.f1, .string x.f2] := by
 obtain ⟨_, _, rfl, rfl, ⟨_, _, rfl, rfl, rfl⟩⟩ := h
 exact rfl
theorem k32_openM {w : World} {base : Nat} {ok : Nat → Prop} {x : S32} {cs : List Value} (h : k32.M w base ok x cs) : cs = [.int .i64 x.f0, .int .i64 x.f1, .string x.f2] := by
 obtain ⟨_, _, rfl, rfl, ⟨_, _, rfl, rfl, rfl⟩⟩ := h
 exact rfl
theorem k32_mk (w : World) (x : S32)  : k32.K w x [.int .i64 x.f0, .int .i64 x.f1, .string x.f2] := ⟨[.int .i64 x.f0], [.int .i64 x.f1, .string x.f2], rfl, rfl, ⟨[.int .i64 x.f1], [.string x.f2], rfl, rfl, rfl⟩⟩
theorem k32_mkM (w : World) (base : Nat) (ok : Nat → Prop) (x : S32)  : k32.M w base ok x [.int .i64 x.f0, .int .i64 x.f1, .string x.f2] := ⟨[.int .i64 x.f0], [.int .i64 x.f1, .string x.f2], rfl, rfl, ⟨[.int .i64 x.f1], [.string x.f2], rfl, rfl, rfl⟩⟩
def rd_T32 (xs : List S32) (i : Int) : S32 := xs.getD i.toNat z32
theorem at_T32 {w : World} {A : Option Addr} {n : Nat} {xs : List S32} (h : Kd.C k32 w A n xs) (i : Int) (h0 : 0 ≤ i) (h1 : i < n) : ∃ ad , A = some ad ∧ w.cell? (ad.add (i.toNat * 3)) = some (.int .i64 (rd_T32 xs i).f0) ∧ w.cell? ⟨(ad.add (i.toNat * 3)).block, (ad.add (i.toNat * 3)).off + 1, none⟩ = some (.int .i64 (rd_T32 xs i).f1) ∧ w.cell? ⟨(ad.add (i.toNat * 3)).block, (ad.add (i.toNat * 3)).off + 2, none⟩ = some (.string (rd_T32 xs i).f2) := by
 obtain ⟨ad, c, e, _, hK, hc0⟩ := Kd.C_get h z32 i h0 h1
 have hc : ∀ j u, c[j]? = some u → w.cell? (ad.add (i.toNat * 3 + j)) = some u := hc0
 obtain rfl := k32_open hK
 exact ⟨ad, e, hc 0 _ rfl, by rw [← add_field _ _ 1 (by omega)]; exact hc 1 _ rfl, by rw [← add_field _ _ 2 (by omega)]; exact hc 2 _ rfl⟩

/-! #### struct type 80 -/
structure S80 where
 f0 : ByteArray
 f1 : S32
def z80 : S80 := ⟨(⟨#[]⟩ : ByteArray), z32⟩
def k80 : Kd S80 := Kd.iso (Kd.pair Kd.string k32) (fun x : S80 => (x.f0, x.f1))
theorem k80_open {w : World} {x : S80} {cs : List Value} (h : k80.K w x cs) : cs = [.string x.f0, .int .i64 x.f1.f0, .int .i64 x.f1.f1, .string x.f1.f2] := by
 obtain ⟨_, _, rfl, rfl, s1⟩ := h
 obtain rfl := k32_open s1
 exact rfl
theorem k80_openM {w : World} {base : Nat} {ok : Nat → Prop} {x : S80} {cs : List Value} (h : k80.M w base ok x cs) : cs = [.string x.f0, .int .i64 x.f1.f0, .int .i64 x.f1.f1, .string x.f1.f2] := by
 obtain ⟨_, _, rfl, rfl, s1⟩ := h
 obtain rfl := k32_openM s1
 exact rfl
theorem k80_mk (w : World) (x : S80)  : k80.K w x [.string x.f0, .int .i64 x.f1.f0, .int .i64 x.f1.f1, .string x.f1.f2] := ⟨[.string x.f0], [.int .i64 x.f1.f0, .int .i64 x.f1.f1, .string x.f1.f2], rfl, rfl, (k32_mk w x.f1 )⟩
theorem k80_mkM (w : World) (base : Nat) (ok : Nat → Prop) (x : S80)  : k80.M w base ok x [.string x.f0, .int .i64 x.f1.f0, .int .i64 x.f1.f1, .string x.f1.f2] := ⟨[.string x.f0], [.int .i64 x.f1.f0, .int .i64 x.f1.f1, .string x.f1.f2], rfl, rfl, (k32_mkM w base ok x.f1 )⟩
def rd_T80 (xs : List S80) (i : Int) : S80 := xs.getD i.toNat z80
theorem at_T80 {w : World} {A : Option Addr} {n : Nat} {xs : List S80} (h : Kd.C k80 w A n xs) (i : Int) (h0 : 0 ≤ i) (h1 : i < n) : ∃ ad , A = some ad ∧ w.cell? (ad.add (i.toNat * 4)) = some (.string (rd_T80 xs i).f0) ∧ w.cell? ⟨(ad.add (i.toNat * 4)).block, (ad.add (i.toNat * 4)).off + 1, none⟩ = some (.int .i64 (rd_T80 xs i).f1.f0) ∧ w.cell? ⟨(ad.add (i.toNat * 4)).block, (ad.add (i.toNat * 4)).off + 2, none⟩ = some (.int .i64 (rd_T80 xs i).f1.f1) ∧ w.cell? ⟨(ad.add (i.toNat * 4)).block, (ad.add (i.toNat * 4)).off + 3, none⟩ = some (.string (rd_T80 xs i).f1.f2) := by
 obtain ⟨ad, c, e, _, hK, hc0⟩ := Kd.C_get h z80 i h0 h1
 have hc : ∀ j u, c[j]? = some u → w.cell? (ad.add (i.toNat * 4 + j)) = some u := hc0
 obtain rfl := k80_open hK
 exact ⟨ad, e, hc 0 _ rfl, by rw [← add_field _ _ 1 (by omega)]; exact hc 1 _ rfl, by rw [← add_field _ _ 2 (by omega)]; exact hc 2 _ rfl, by rw [← add_field _ _ 3 (by omega)]; exact hc 3 _ rfl⟩

def rd_L6 (xs : List (List S80)) (i : Int) : (List S80) := xs.getD i.toNat ([] : List S80)
theorem at_L6 {w : World} {A : Option Addr} {n : Nat} {xs : List (List S80)} (h : Kd.C (Kd.slice 80 k80) w A n xs) (i : Int) (h0 : 0 ≤ i) (h1 : i < n) : ∃ ad A0 c0, A = some ad ∧ w.cell? (ad.add i.toNat) = some (.slice A0 (rd_L6 xs i).length c0) ∧ (rd_L6 xs i).length ≤ c0 ∧ k80.C w A0 (rd_L6 xs i).length (rd_L6 xs i) := by
 obtain ⟨ad, c, e, _, hK, hc0⟩ := Kd.C_get h ([] : List S80) i h0 h1
 have hc : ∀ j u, c[j]? = some u → w.cell? (ad.add (i.toNat * 1 + j)) = some u := hc0
 obtain ⟨A0, c0, rfl, l0, g0⟩ := hK
 exact ⟨ad, A0, c0, e, by have hq := hc 0 _ rfl; rwa [Nat.mul_one, Nat.add_zero] at hq, l0, g0⟩

def rd_L8 (xs : List (List S77)) (i : Int) : (List S77) := xs.getD i.toNat ([] : List S77)
theorem at_L8 {w : World} {A : Option Addr} {n : Nat} {xs : List (List S77)} (h : Kd.C (Kd.slice 77 k77) w A n xs) (i : Int) (h0 : 0 ≤ i) (h1 : i < n) : ∃ ad A0 c0, A = some ad ∧ w.cell? (ad.add i.toNat) = some (.slice A0 (rd_L8 xs i).length c0) ∧ (rd_L8 xs i).length ≤ c0 ∧ k77.C w A0 (rd_L8 xs i).length (rd_L8 xs i) := by
 obtain ⟨ad, c, e, _, hK, hc0⟩ := Kd.C_get h ([] : List S77) i h0 h1
 have hc : ∀ j u, c[j]? = some u → w.cell? (ad.add (i.toNat * 1 + j)) = some u := hc0
 obtain ⟨A0, c0, rfl, l0, g0⟩ := hK
 exact ⟨ad, A0, c0, e, by have hq := hc 0 _ rfl; rwa [Nat.mul_one, Nat.add_zero] at hq, l0, g0⟩

/-! #### struct type 204 -/
structure S204 where
 f0 : ByteArray
 f1 : S30
def z204 : S204 := ⟨(⟨#[]⟩ : ByteArray), z30⟩
def k204 : Kd S204 := Kd.iso (Kd.pair Kd.string k30) (fun x : S204 => (x.f0, x.f1))
theorem k204_open {w : World} {x : S204} {cs : List Value} (h : k204.K w x cs) : cs = [.string x.f0, .int .i64 x.f1.f0, .int .i64 x.f1.f1, .string x.f1.f2] := by
 obtain ⟨_, _, rfl, rfl, s1⟩ := h
 obtain rfl := k30_open s1
 exact rfl
theorem k204_openM {w : World} {base : Nat} {ok : Nat → Prop} {x : S204} {cs : List Value} (h : k204.M w base ok x cs) : cs = [.string x.f0, .int .i64 x.f1.f0, .int .i64 x.f1.f1, .string x.f1.f2] := by
 obtain ⟨_, _, rfl, rfl, s1⟩ := h
 obtain rfl := k30_openM s1
 exact rfl
theorem k204_mk (w : World) (x : S204)  : k204.K w x [.string x.f0, .int .i64 x.f1.f0, .int .i64 x.f1.f1, .string x.f1.f2] := ⟨[.string x.f0], [.int .i64 x.f1.f0, .int .i64 x.f1.f1, .string x.f1.f2], rfl, rfl, (k30_mk w x.f1 )⟩
theorem k204_mkM (w : World) (base : Nat) (ok : Nat → Prop) (x : S204)  : k204.M w base ok x [.string x.f0, .int .i64 x.f1.f0, .int .i64 x.f1.f1, .string x.f1.f2] := ⟨[.string x.f0], [.int .i64 x.f1.f0, .int .i64 x.f1.f1, .string x.f1.f2], rfl, rfl, (k30_mkM w base ok x.f1 )⟩
def rd_T204 (xs : List S204) (i : Int) : S204 := xs.getD i.toNat z204
theorem at_T204 {w : World} {A : Option Addr} {n : Nat} {xs : List S204} (h : Kd.C k204 w A n xs) (i : Int) (h0 : 0 ≤ i) (h1 : i < n) : ∃ ad , A = some ad ∧ w.cell? (ad.add (i.toNat * 4)) = some (.string (rd_T204 xs i).f0) ∧ w.cell? ⟨(ad.add (i.toNat * 4)).block, (ad.add (i.toNat * 4)).off + 1, none⟩ = some (.int .i64 (rd_T204 xs i).f1.f0) ∧ w.cell? ⟨(ad.add (i.toNat * 4)).block, (ad.add (i.toNat * 4)).off + 2, none⟩ = some (.int .i64 (rd_T204 xs i).f1.f1) ∧ w.cell? ⟨(ad.add (i.toNat * 4)).block, (ad.add (i.toNat * 4)).off + 3, none⟩ = some (.string (rd_T204 xs i).f1.f2) := by
 obtain ⟨ad, c, e, _, hK, hc0⟩ := Kd.C_get h z204 i h0 h1
 have hc : ∀ j u, c[j]? = some u → w.cell? (ad.add (i.toNat * 4 + j)) = some u := hc0
 obtain rfl := k204_open hK
 exact ⟨ad, e, hc 0 _ rfl, by rw [← add_field _ _ 1 (by omega)]; exact hc 1 _ rfl, by rw [← add_field _ _ 2 (by omega)]; exact hc 2 _ rfl, by rw [← add_field _ _ 3 (by omega)]; exact hc 3 _ rfl⟩

/-! #### struct type 207 -/
structure S207 where
 f0 : Bool
 f1 : S30
def z207 : S207 := ⟨false, z30⟩
def k207 : Kd S207 := Kd.iso (Kd.pair Kd.bool k30) (fun x : S207 => (x.f0, x.f1))
theorem k207_open {w : World} {x : S207} {cs : List Value} (h : k207.K w x cs) : cs = [.bool x.f0, .int .i64 x.f1.f0, .int .i64 x.f1.f1, .string x.f1.f2] := by
 obtain ⟨_, _, rfl, rfl, s1⟩ := h
 obtain rfl := k30_open s1
 exact rfl
theorem k207_openM {w : World} {base : Nat} {ok : Nat → Prop} {x : S207} {cs : List Value} (h : k207.M w base ok x cs) : cs = [.bool x.f0, .int .i64 x.f1.f0, .int .i64 x.f1.f1, .string x.f1.f2] := by
 obtain ⟨_, _, rfl, rfl, s1⟩ := h
 obtain rfl := k30_openM s1
 exact rfl
theorem k207_mk (w : World) (x : S207)  : k207.K w x [.bool x.f0, .int .i64 x.f1.f0, .int .i64 x.f1.f1, .string x.f1.f2] := ⟨[.bool x.f0], [.int .i64 x.f1.f0, .int .i64 x.f1.f1, .string x.f1.f2], rfl, rfl, (k30_mk w x.f1 )⟩
theorem k207_mkM (w : World) (base : Nat) (ok : Nat → Prop) (x : S207)  : k207.M w base ok x [.bool x.f0, .int .i64 x.f1.f0, .int .i64 x.f1.f1, .string x.f1.f2] := ⟨[.bool x.f0], [.int .i64 x.f1.f0, .int .i64 x.f1.f1, .string x.f1.f2], rfl, rfl, (k30_mkM w base ok x.f1 )⟩
def rd_T207 (xs : List S207) (i : Int) : S207 := xs.getD i.toNat z207
theorem at_T207 {w : World} {A : Option Addr} {n : Nat} {xs : List S207} (h : Kd.C k207 w A n xs) (i : Int) (h0 : 0 ≤ i) (h1 : i < n) : ∃ ad , A = some ad ∧ w.cell? (ad.add (i.toNat * 4)) = some (.bool (rd_T207 xs i).f0) ∧ w.cell? ⟨(ad.add (i.toNat * 4)).block, (ad.add (i.toNat * 4)).off + 1, none⟩ = some (.int .i64 (rd_T207 xs i).f1.f0) ∧ w.cell? ⟨(ad.add (i.toNat * 4)).block, (ad.add (i.toNat * 4)).off + 2, none⟩ = some (.int .i64 (rd_T207 xs i).f1.f1) ∧ w.cell? ⟨(ad.add (i.toNat * 4)).block, (ad.add (i.toNat * 4)).off + 3, none⟩ = some (.string (rd_T207 xs i).f1.f2) := by
 obtain ⟨ad, c, e, _, hK, hc0⟩ := Kd.C_get h z207 i h0 h1
 have hc : ∀ j u, c[j]? = some u → w.cell? (ad.add (i.toNat * 4 + j)) = some u := hc0
 obtain rfl := k207_open hK
 exact ⟨ad, e, hc 0 _ rfl, by rw [← add_field _ _ 1 (by omega)]; exact hc 1 _ rfl, by rw [← add_field _ _ 2 (by omega)]; exact hc 2 _ rfl, by rw [← add_field _ _ 3 (by omega)]; exact hc 3 _ rfl⟩

def rd_L11 (xs : List (List S204)) (i : Int) : (List S204) := xs.getD i.toNat ([] : List S204)
theorem at_L11 {w : World} {A : Option Addr} {n : Nat} {xs : List (List S204)} (h : Kd.C (Kd.slice 204 k204) w A n xs) (i : Int) (h0 : 0 ≤ i) (h1 : i < n) : ∃ ad A0 c0, A = some ad ∧ w.cell? (ad.add i.toNat) = some (.slice A0 (rd_L11 xs i).length c0) ∧ (rd_L11 xs i).length ≤ c0 ∧ k204.C w A0 (rd_L11 xs i).length (rd_L11 xs i) := by
 obtain ⟨ad, c, e, _, hK, hc0⟩ := Kd.C_get h ([] : List S204) i h0 h1
 have hc : ∀ j u, c[j]? = some u → w.cell? (ad.add (i.toNat * 1 + j)) = some u := hc0
 obtain ⟨A0, c0, rfl, l0, g0⟩ := hK
 exact ⟨ad, A0, c0, e, by have hq := hc 0 _ rfl; rwa [Nat.mul_one, Nat.add_zero] at hq, l0, g0⟩

def rd_L12 (xs : List (List S207)) (i : Int) : (List S207) := xs.getD i.toNat ([] : List S207)
theorem at_L12 {w : World} {A : Option Addr} {n : Nat} {xs : List (List S207)} (h : Kd.C (Kd.slice 207 k207) w A n xs) (i : Int) (h0 : 0 ≤ i) (h1 : i < n) : ∃ ad A0 c0, A = some ad ∧ w.cell? (ad.add i.toNat) = some (.slice A0 (rd_L12 xs i).length c0) ∧ (rd_L12 xs i).length ≤ c0 ∧ k207.C w A0 (rd_L12 xs i).length (rd_L12 xs i) := by
 obtain ⟨ad, c, e, _, hK, hc0⟩ := Kd.C_get h ([] : List S207) i h0 h1
 have hc : ∀ j u, c[j]? = some u → w.cell? (ad.add (i.toNat * 1 + j)) = some u := hc0
 obtain ⟨A0, c0, rfl, l0, g0⟩ := hK
 exact ⟨ad, A0, c0, e, by have hq := hc 0 _ rfl; rwa [Nat.mul_one, Nat.add_zero] at hq, l0, g0⟩

/-! #### struct type 194, nested in itself -/
structure S194 where
 f0 : Int
 f1 : ByteArray
 f2 : ByteArray
 f3 : (List S204)
 f4 : (List S207)
 f5 : (List S194)
def z194 : S194 := ⟨(0 : Int), (⟨#[]⟩ : ByteArray), (⟨#[]⟩ : ByteArray), ([] : List S204), ([] : List S207), ([] : List S194)⟩
def F194 (d : Kd S194) : Kd S194 := Kd.iso (Kd.pair (Kd.int .i64) (Kd.pair Kd.string (Kd.pair Kd.string (Kd.pair (Kd.slice 204 k204) (Kd.pair (Kd.slice 207 k207) (Kd.slice 194 d)))))) (fun x : S194 => (x.f0, x.f1, x.f2, x.f3, x.f4, x.f5))
theorem mono194 : Kd.Mono F194 := Kd.mono_iso _ (Kd.mono_pair (Kd.mono_const _) (Kd.mono_pair (Kd.mono_const _) (Kd.mono_pair (Kd.mono_const _) (Kd.mono_pair (Kd.mono_const _) (Kd.mono_pair (Kd.mono_const _) (Kd.mono_slice 194 Kd.mono_id))))))
theorem sub194 : Kd.Sub F194 [194, 204, 207] := Kd.sub_iso _ (Kd.sub_pair (Kd.sub_const _ (by decide)) (Kd.sub_pair (Kd.sub_const _ (by decide)) (Kd.sub_pair (Kd.sub_const _ (by decide)) (Kd.sub_pair (Kd.sub_const _ (by decide)) (Kd.sub_pair (Kd.sub_const _ (by decide)) (Kd.sub_slice 194 (by decide) Kd.sub_id))))))
theorem sz194 : ∀ n, (Kd.upto F194 6 [194, 204, 207] n).sz = 6 := Kd.upto_sz (fun _ => rfl)
def k194 : Kd S194 := Kd.fix F194 6 [194, 204, 207] sz194 (Kd.upto_E sub194)
theorem k194_open {w : World} {x : S194} {cs : List Value} (h : k194.K w x cs) : ∃ A3 c3 A4 c4 A5 c5, cs = [.int .i64 x.f0, .string x.f1, .string x.f2, .slice A3 x.f3.length c3, .slice A4 x.f4.length c4, .slice A5 x.f5.length c5] ∧ x.f3.length ≤ c3 ∧ k204.C w A3 x.f3.length x.f3 ∧ x.f4.length ≤ c4 ∧ k207.C w A4 x.f4.length x.f4 ∧ x.f5.length ≤ c5 ∧ k194.C w A5 x.f5.length x.f5 := by
 obtain ⟨n, h⟩ := h
 cases n with
 | zero => exact h.elim
 | succ n =>
  obtain ⟨_, _, rfl, rfl, ⟨_, _, rfl, rfl, ⟨_, _, rfl, rfl, ⟨_, _, rfl, ⟨A3, c3, rfl, l3, g3⟩, ⟨_, _, rfl, ⟨A4, c4, rfl, l4, g4⟩, ⟨A5, c5, rfl, l5, g5⟩⟩⟩⟩⟩⟩ := h
  exact ⟨A3, c3, A4, c4, A5, c5, rfl, l3, g3, l4, g4, l5, Kd.fix_C g5⟩
theorem k194_openM {w : World} {base : Nat} {ok : Nat → Prop} {x : S194} {cs : List Value} (h : k194.M w base ok x cs) : ∃ v3 v4 v5, cs = [.int .i64 x.f0, .string x.f1, .string x.f2, v3, v4, v5] ∧ k204.R 204 w base ok v3 x.f3 ∧ k207.R 207 w base ok v4 x.f4 ∧ k194.R 194 w base ok v5 x.f5 := by
 obtain ⟨n, h⟩ := h
 cases n with
 | zero => exact h.elim
 | succ n =>
  obtain ⟨_, _, rfl, rfl, ⟨_, _, rfl, rfl, ⟨_, _, rfl, rfl, ⟨_, _, rfl, ⟨v3, rfl, g3⟩, ⟨_, _, rfl, ⟨v4, rfl, g4⟩, ⟨v5, rfl, g5⟩⟩⟩⟩⟩⟩ := h
  exact ⟨v3, v4, v5, rfl, g3, g4, Kd.fix_R g5⟩
theorem k194_mk (w : World) (x : S194) {A3 : Option Addr} {c3 : Nat} (l3 : x.f3.length ≤ c3) (g3 : k204.C w A3 x.f3.length x.f3) {A4 : Option Addr} {c4 : Nat} (l4 : x.f4.length ≤ c4) (g4 : k207.C w A4 x.f4.length x.f4) {A5 : Option Addr} {c5 : Nat} (l5 : x.f5.length ≤ c5) (g5 : k194.C w A5 x.f5.length x.f5) : k194.K w x [.int .i64 x.f0, .string x.f1, .string x.f2, .slice A3 x.f3.length c3, .slice A4 x.f4.length c4, .slice A5 x.f5.length c5] := by
 obtain ⟨n5, q5⟩ := Kd.fix_C_back mono194 g5
 have r5 := Kd.upto_C_le mono194 sz194 (show n5 ≤ n5 by omega) q5
 exact ⟨n5 + 1, ⟨[.int .i64 x.f0], [.string x.f1, .string x.f2, .slice A3 x.f3.length c3, .slice A4 x.f4.length c4, .slice A5 x.f5.length c5], rfl, rfl, ⟨[.string x.f1], [.string x.f2, .slice A3 x.f3.length c3, .slice A4 x.f4.length c4, .slice A5 x.f5.length c5], rfl, rfl, ⟨[.string x.f2], [.slice A3 x.f3.length c3, .slice A4 x.f4.length c4, .slice A5 x.f5.length c5], rfl, rfl, ⟨[.slice A3 x.f3.length c3], [.slice A4 x.f4.length c4, .slice A5 x.f5.length c5], rfl, ⟨A3, c3, rfl, l3, g3⟩, ⟨[.slice A4 x.f4.length c4], [.slice A5 x.f5.length c5], rfl, ⟨A4, c4, rfl, l4, g4⟩, ⟨A5, c5, rfl, l5, r5⟩⟩⟩⟩⟩⟩⟩
theorem k194_mkM (w : World) (base : Nat) (ok : Nat → Prop) (x : S194) {v3 : Value} (g3 : k204.R 204 w base ok v3 x.f3) {v4 : Value} (g4 : k207.R 207 w base ok v4 x.f4) {v5 : Value} (g5 : k194.R 194 w base ok v5 x.f5) : k194.M w base ok x [.int .i64 x.f0, .string x.f1, .string x.f2, v3, v4, v5] := by
 obtain ⟨n5, q5⟩ := Kd.fix_R_back mono194 g5
 have r5 := Kd.upto_R_le mono194 sz194 (show n5 ≤ n5 by omega) q5
 exact ⟨n5 + 1, ⟨[.int .i64 x.f0], [.string x.f1, .string x.f2, v3, v4, v5], rfl, rfl, ⟨[.string x.f1], [.string x.f2, v3, v4, v5], rfl, rfl, ⟨[.string x.f2], [v3, v4, v5], rfl, rfl, ⟨[v3], [v4, v5], rfl, ⟨v3, rfl, g3⟩, ⟨[v4], [v5], rfl, ⟨v4, rfl, g4⟩, ⟨v5, rfl, r5⟩⟩⟩⟩⟩⟩⟩
def rd_T194 (xs : List S194) (i : Int) : S194 := xs.getD i.toNat z194
theorem at_T194 {w : World} {A : Option Addr} {n : Nat} {xs : List S194} (h : Kd.C k194 w A n xs) (i : Int) (h0 : 0 ≤ i) (h1 : i < n) : ∃ ad A3 c3 A4 c4 A5 c5, A = some ad ∧ w.cell? (ad.add (i.toNat * 6)) = some (.int .i64 (rd_T194 xs i).f0) ∧ w.cell? ⟨(ad.add (i.toNat * 6)).block, (ad.add (i.toNat * 6)).off + 1, none⟩ = some (.string (rd_T194 xs i).f1) ∧ w.cell? ⟨(ad.add (i.toNat * 6)).block, (ad.add (i.toNat * 6)).off + 2, none⟩ = some (.string (rd_T194 xs i).f2) ∧ w.cell? ⟨(ad.add (i.toNat * 6)).block, (ad.add (i.toNat * 6)).off + 3, none⟩ = some (.slice A3 (rd_T194 xs i).f3.length c3) ∧ w.cell? ⟨(ad.add (i.toNat * 6)).block, (ad.add (i.toNat * 6)).off + 4, none⟩ = some (.slice A4 (rd_T194 xs i).f4.length c4) ∧ w.cell? ⟨(ad.add (i.toNat * 6)).block, (ad.add (i.toNat * 6)).off + 5, none⟩ = some (.slice A5 (rd_T194 xs i).f5.length c5) ∧ (rd_T194 xs i).f3.length ≤ c3 ∧ k204.C w A3 (rd_T194 xs i).f3.length (rd_T194 xs i).f3 ∧ (rd_T194 xs i).f4.length ≤ c4 ∧ k207.C w A4 (rd_T194 xs i).f4.length (rd_T194 xs i).f4 ∧ (rd_T194 xs i).f5.length ≤ c5 ∧ k194.C w A5 (rd_T194 xs i).f5.length (rd_T194 xs i).f5 := by
 obtain ⟨ad, c, e, _, hK, hc0⟩ := Kd.C_get h z194 i h0 h1
 have hc : ∀ j u, c[j]? = some u → w.cell? (ad.add (i.toNat * 6 + j)) = some u := hc0
 obtain ⟨A3, c3, A4, c4, A5, c5, rfl, l3, g3, l4, g4, l5, g5⟩ := k194_open hK
 exact ⟨ad, A3, c3, A4, c4, A5, c5, e, hc 0 _ rfl, by rw [← add_field _ _ 1 (by omega)]; exact hc 1 _ rfl, by rw [← add_field _ _ 2 (by omega)]; exact hc 2 _ rfl, by rw [← add_field _ _ 3 (by omega)]; exact hc 3 _ rfl, by rw [← add_field _ _ 4 (by omega)]; exact hc 4 _ rfl, by rw [← add_field _ _ 5 (by omega)]; exact hc 5 _ rfl, l3, g3, l4, g4, l5, g5⟩

def rd_L14 (xs : List (List S194)) (i : Int) : (List S194) := xs.getD i.toNat ([] : List S194)
theorem at_L14 {w : World} {A : Option Addr} {n : Nat} {xs : List (List S194)} (h : Kd.C (Kd.slice 194 k194) w A n xs) (i : Int) (h0 : 0 ≤ i) (h1 : i < n) : ∃ ad A0 c0, A = some ad ∧ w.cell? (ad.add i.toNat) = some (.slice A0 (rd_L14 xs i).length c0) ∧ (rd_L14 xs i).length ≤ c0 ∧ k194.C w A0 (rd_L14 xs i).length (rd_L14 xs i) := by
 obtain ⟨ad, c, e, _, hK, hc0⟩ := Kd.C_get h ([] : List S194) i h0 h1
 have hc : ∀ j u, c[j]? = some u → w.cell? (ad.add (i.toNat * 1 + j)) = some u := hc0
 obtain ⟨A0, c0, rfl, l0, g0⟩ := hK
 exact ⟨ad, A0, c0, e, by have hq := hc 0 _ rfl; rwa [Nat.mul_one, Nat.add_zero] at hq, l0, g0⟩

/-! #### struct type 183 -/
structure S183 where
 f0 : Int
 f1 : ByteArray
 f2 : ByteArray
 f3 : (List S194)
def z183 : S183 := ⟨(0 : Int), (⟨#[]⟩ : ByteArray), (⟨#[]⟩ : ByteArray), ([] : List S194)⟩
def k183 : Kd S183 := Kd.iso (Kd.pair (Kd.int .i64) (Kd.pair Kd.string (Kd.pair Kd.string (Kd.slice 194 k194)))) (fun x : S183 => (x.f0, x.f1, x.f2, x.f3))
theorem k183_open {w : World} {x : S183} {cs : List Value} (h : k183.K w x cs) : ∃ A3 c3, cs = [.int .i64 x.f0, .string x.f1, .string x.f2, .slice A3 x.f3.length c3] ∧ x.f3.length ≤ c3 ∧ k194.C w A3 x.f3.length x.f3 := by
 obtain ⟨_, _, rfl, rfl, ⟨_, _, rfl, rfl, ⟨_, _, rfl, rfl, ⟨A3, c3, rfl, l3, g3⟩⟩⟩⟩ := h
 exact ⟨A3, c3, rfl, l3, g3⟩
theorem k183_openM {w : World} {base : Nat} {ok : Nat → Prop} {x : S183} {cs : List Value} (h : k183.M w base ok x cs) : ∃ v3, cs = [.int .i64 x.f0, .string x.f1, .string x.f2, v3] ∧ k194.R 194 w base ok v3 x.f3 := by
 obtain ⟨_, _, rfl, rfl, ⟨_, _, rfl, rfl, ⟨_, _, rfl, rfl, ⟨v3, rfl, g3⟩⟩⟩⟩ := h
 exact ⟨v3, rfl, g3⟩
theorem k183_mk (w : World) (x : S183) {A3 : Option Addr} {c3 : Nat} (l3 : x.f3.length ≤ c3) (g3 : k194.C w A3 x.f3.length x.f3) : k183.K w x [.int .i64 x.f0, .string x.f1, .string x.f2, .slice A3 x.f3.length c3] := ⟨[.int .i64 x.f0], [.string x.f1, .string x.f2, .slice A3 x.f3.length c3], rfl, rfl, ⟨[.string x.f1], [.string x.f2, .slice A3 x.f3.length c3], rfl, rfl, ⟨[.string x.f2], [.slice A3 x.f3.length c3], rfl, rfl, ⟨A3, c3, rfl, l3, g3⟩⟩⟩⟩
theorem k183_mkM (w : World) (base : Nat) (ok : Nat → Prop) (x : S183) {v3 : Value} (g3 : k194.R 194 w base ok v3 x.f3) : k183.M w base ok x [.int .i64 x.f0, .string x.f1, .string x.f2, v3] := ⟨[.int .i64 x.f0], [.string x.f1, .string x.f2, v3], rfl, rfl, ⟨[.string x.f1], [.string x.f2, v3], rfl, rfl, ⟨[.string x.f2], [v3], rfl, rfl, ⟨v3, rfl, g3⟩⟩⟩⟩
def rd_T183 (xs : List S183) (i : Int) : S183 := xs.getD i.toNat z183
theorem at_T183 {w : World} {A : Option Addr} {n : Nat} {xs : List S183} (h : Kd.C k183 w A n xs) (i : Int) (h0 : 0 ≤ i) (h1 : i < n) : ∃ ad A3 c3, A = some ad ∧ w.cell? (ad.add (i.toNat * 4)) = some (.int .i64 (rd_T183 xs i).f0) ∧ w.cell? ⟨(ad.add (i.toNat * 4)).block, (ad.add (i.toNat * 4)).off + 1, none⟩ = some (.string (rd_T183 xs i).f1) ∧ w.cell? ⟨(ad.add (i.toNat * 4)).block, (ad.add (i.toNat * 4)).off + 2, none⟩ = some (.string (rd_T183 xs i).f2) ∧ w.cell? ⟨(ad.add (i.toNat * 4)).block, (ad.add (i.toNat * 4)).off + 3, none⟩ = some (.slice A3 (rd_T183 xs i).f3.length c3) ∧ (rd_T183 xs i).f3.length ≤ c3 ∧ k194.C w A3 (rd_T183 xs i).f3.length (rd_T183 xs i).f3 := by
 obtain ⟨ad, c, e, _, hK, hc0⟩ := Kd.C_get h z183 i h0 h1
 have hc : ∀ j u, c[j]? = some u → w.cell? (ad.add (i.toNat * 4 + j)) = some u := hc0
 obtain ⟨A3, c3, rfl, l3, g3⟩ := k183_open hK
 exact ⟨ad, A3, c3, e, hc 0 _ rfl, by rw [← add_field _ _ 1 (by omega)]; exact hc 1 _ rfl, by rw [← add_field _ _ 2 (by omega)]; exact hc 2 _ rfl, by rw [← add_field _ _ 3 (by omega)]; exact hc 3 _ rfl, l3, g3⟩

def rd_L16 (xs : List (List S183)) (i : Int) : (List S183) := xs.getD i.toNat ([] : List S183)
theorem at_L16 {w : World} {A : Option Addr} {n : Nat} {xs : List (List S183)} (h : Kd.C (Kd.slice 183 k183) w A n xs) (i : Int) (h0 : 0 ≤ i) (h1 : i < n) : ∃ ad A0 c0, A = some ad ∧ w.cell? (ad.add i.toNat) = some (.slice A0 (rd_L16 xs i).length c0) ∧ (rd_L16 xs i).length ≤ c0 ∧ k183.C w A0 (rd_L16 xs i).length (rd_L16 xs i) := by
 obtain ⟨ad, c, e, _, hK, hc0⟩ := Kd.C_get h ([] : List S183) i h0 h1
 have hc : ∀ j u, c[j]? = some u → w.cell? (ad.add (i.toNat * 1 + j)) = some u := hc0
 obtain ⟨A0, c0, rfl, l0, g0⟩ := hK
 exact ⟨ad, A0, c0, e, by have hq := hc 0 _ rfl; rwa [Nat.mul_one, Nat.add_zero] at hq, l0, g0⟩

/-! #### struct type 102 -/
structure S102 where
 f0 : (List S183)
def z102 : S102 := ⟨([] : List S183)⟩
def k102 : Kd S102 := Kd.iso (Kd.slice 183 k183) (fun x : S102 => x.f0)
theorem k102_open {w : World} {x : S102} {cs : List Value} (h : k102.K w x cs) : ∃ A0 c0, cs = [.slice A0 x.f0.length c0] ∧ x.f0.length ≤ c0 ∧ k183.C w A0 x.f0.length x.f0 := by
 obtain ⟨A0, c0, rfl, l0, g0⟩ := h
 exact ⟨A0, c0, rfl, l0, g0⟩
theorem k102_openM {w : World} {base : Nat} {ok : Nat → Prop} {x : S102} {cs : List Value} (h : k102.M w base ok x cs) : ∃ v0, cs = [v0] ∧ k183.R 183 w base ok v0 x.f0 := by
 obtain ⟨v0, rfl, g0⟩ := h
 exact ⟨v0, rfl, g0⟩
theorem k102_mk (w : World) (x : S102) {A0 : Option Addr} {c0 : Nat} (l0 : x.f0.length ≤ c0) (g0 : k183.C w A0 x.f0.length x.f0) : k102.K w x [.slice A0 x.f0.length c0] := ⟨A0, c0, rfl, l0, g0⟩
theorem k102_mkM (w : World) (base : Nat) (ok : Nat → Prop) (x : S102) {v0 : Value} (g0 : k183.R 183 w base ok v0 x.f0) : k102.M w base ok x [v0] := ⟨v0, rfl, g0⟩
def rd_T102 (xs : List S102) (i : Int) : S102 := xs.getD i.toNat z102
theorem at_T102 {w : World} {A : Option Addr} {n : Nat} {xs : List S102} (h : Kd.C k102 w A n xs) (i : Int) (h0 : 0 ≤ i) (h1 : i < n) : ∃ ad A0 c0, A = some ad ∧ w.cell? (ad.add i.toNat) = some (.slice A0 (rd_T102 xs i).f0.length c0) ∧ (rd_T102 xs i).f0.length ≤ c0 ∧ k183.C w A0 (rd_T102 xs i).f0.length (rd_T102 xs i).f0 := by
 obtain ⟨ad, c, e, _, hK, hc0⟩ := Kd.C_get h z102 i h0 h1
 have hc : ∀ j u, c[j]? = some u → w.cell? (ad.add (i.toNat * 1 + j)) = some u := hc0
 obtain ⟨A0, c0, rfl, l0, g0⟩ := k102_open hK
 exact ⟨ad, A0, c0, e, by have hq := hc 0 _ rfl; rwa [Nat.mul_one, Nat.add_zero] at hq, l0, g0⟩

/-! #### struct type 104 -/
structure S104 where
 f0 : S102
 f1 : (List S77)
def z104 : S104 := ⟨z102, ([] : List S77)⟩
def k104 : Kd S104 := Kd.iso (Kd.pair k102 (Kd.slice 77 k77)) (fun x : S104 => (x.f0, x.f1))
theorem k104_open {w : World} {x : S104} {cs : List Value} (h : k104.K w x cs) : ∃ A0 c0 A1 c1, cs = [.slice A0 x.f0.f0.length c0, .slice A1 x.f1.length c1] ∧ x.f0.f0.length ≤ c0 ∧ k183.C w A0 x.f0.f0.length x.f0.f0 ∧ x.f1.length ≤ c1 ∧ k77.C w A1 x.f1.length x.f1 := by
 obtain ⟨_, _, rfl, s0, ⟨A1, c1, rfl, l1, g1⟩⟩ := h
 obtain ⟨A0, c0, rfl, l0, g0⟩ := k102_open s0
 exact ⟨A0, c0, A1, c1, rfl, l0, g0, l1, g1⟩
theorem k104_openM {w : World} {base : Nat} {ok : Nat → Prop} {x : S104} {cs : List Value} (h : k104.M w base ok x cs) : ∃ v0 v1, cs = [v0, v1] ∧ k183.R 183 w base ok v0 x.f0.f0 ∧ k77.R 77 w base ok v1 x.f1 := by
 obtain ⟨_, _, rfl, s0, ⟨v1, rfl, g1⟩⟩ := h
 obtain ⟨v0, rfl, g0⟩ := k102_openM s0
 exact ⟨v0, v1, rfl, g0, g1⟩
theorem k104_mk (w : World) (x : S104) {A0 : Option Addr} {c0 : Nat} (l0 : x.f0.f0.length ≤ c0) (g0 : k183.C w A0 x.f0.f0.length x.f0.f0) {A1 : Option Addr} {c1 : Nat} (l1 : x.f1.length ≤ c1) (g1 : k77.C w A1 x.f1.length x.f1) : k104.K w x [.slice A0 x.f0.f0.length c0, .slice A1 x.f1.length c1] := ⟨[.slice A0 x.f0.f0.length c0], [.slice A1 x.f1.length c1], rfl, (k102_mk w x.f0 l0 g0), ⟨A1, c1, rfl, l1, g1⟩⟩
theorem k104_mkM (w : World) (base : Nat) (ok : Nat → Prop) (x : S104) {v0 : Value} (g0 : k183.R 183 w base ok v0 x.f0.f0) {v1 : Value} (g1 : k77.R 77 w base ok v1 x.f1) : k104.M w base ok x [v0, v1] := ⟨[v0], [v1], rfl, (k102_mkM w base ok x.f0 g0), ⟨v1, rfl, g1⟩⟩
def rd_T104 (xs : List S104) (i : Int) : S104 := xs.getD i.toNat z104
theorem at_T104 {w : World} {A : Option Addr} {n : Nat} {xs : List S104} (h : Kd.C k104 w A n xs) (i : Int) (h0 : 0 ≤ i) (h1 : i < n) : ∃ ad A0 c0 A1 c1, A = some ad ∧ w.cell? (ad.add (i.toNat * 2)) = some (.slice A0 (rd_T104 xs i).f0.f0.length c0) ∧ w.cell? ⟨(ad.add (i.toNat * 2)).block, (ad.add (i.toNat * 2)).off + 1, none⟩ = some (.slice A1 (rd_T104 xs i).f1.length c1) ∧ (rd_T104 xs i).f0.f0.length ≤ c0 ∧ k183.C w A0 (rd_T104 xs i).f0.f0.length (rd_T104 xs i).f0.f0 ∧ (rd_T104 xs i).f1.length ≤ c1 ∧ k77.C w A1 (rd_T104 xs i).f1.length (rd_T104 xs i).f1 := by
 obtain ⟨ad, c, e, _, hK, hc0⟩ := Kd.C_get h z104 i h0 h1
 have hc : ∀ j u, c[j]? = some u → w.cell? (ad.add (i.toNat * 2 + j)) = some u := hc0
 obtain ⟨A0, c0, A1, c1, rfl, l0, g0, l1, g1⟩ := k104_open hK
 exact ⟨ad, A0, c0, A1, c1, e, hc 0 _ rfl, by rw [← add_field _ _ 1 (by omega)]; exact hc 1 _ rfl, l0, g0, l1, g1⟩

/-! #### struct type 106 -/
structure S106 where
 f0 : Int
 f1 : Int
 f2 : Int
 f3 : Int
 f4 : Bool
 f5 : S104
 f6 : ByteArray
def z106 : S106 := ⟨(0 : Int), (0 : Int), (0 : Int), (0 : Int), false, z104, (⟨#[]⟩ : ByteArray)⟩
def k106 : Kd S106 := Kd.iso (Kd.pair (Kd.int .i64) (Kd.pair (Kd.int .i64) (Kd.pair (Kd.int .i64) (Kd.pair (Kd.int .i64) (Kd.pair Kd.bool (Kd.pair k104 Kd.string)))))) (fun x : S106 => (x.f0, x.f1, x.f2, x.f3, x.f4, x.f5, x.f6))
theorem k106_open {w : World} {x : S106} {cs : List Value} (h : k106.K w x cs) : ∃ A5 c5 A6 c6, cs = [.int .i64 x.f0, .int .i64 x.f1, .int .i64 x.f2, .int .i64 x.f3, .bool x.f4, .slice A5 x.f5.f0.f0.length c5, .slice A6 x.f5.f1.length c6, .string x.f6] ∧ x.f5.f0.f0.length ≤ c5 ∧ k183.C w A5 x.f5.f0.f0.length x.f5.f0.f0 ∧ x.f5.f1.length ≤ c6 ∧ k77.C w A6 x.f5.f1.length x.f5.f1 := by
 obtain ⟨_, _, rfl, rfl, ⟨_, _, rfl, rfl, ⟨_, _, rfl, rfl, ⟨_, _, rfl, rfl, ⟨_, _, rfl, rfl, ⟨_, _, rfl, s5, rfl⟩⟩⟩⟩⟩⟩ := h
 obtain ⟨A5, c5, A6, c6, rfl, l5, g5, l6, g6⟩ := k104_open s5
 exact ⟨A5, c5, A6, c6, rfl, l5, g5, l6, g6⟩
theorem k106_openM {w : World} {base : Nat} {ok : Nat → Prop} {x : S106} {cs : List Value} (h : k106.M w base ok x cs) : ∃ v5 v6, cs = [.int .i64 x.f0, .int .i64 x.f1, .int .i64 x.f2, .int .i64 x.f3, .bool x.f4, v5, v6, .string x.f6] ∧ k183.R 183 w base ok v5 x.f5.f0.f0 ∧ k77.R 77 w base ok v6 x.f5.f1 := by
 obtain ⟨_, _, rfl, rfl, ⟨_, _, rfl, rfl, ⟨_, _, rfl, rfl, ⟨_, _, rfl, rfl, ⟨_, _, rfl, rfl, ⟨_, _, rfl, s5, rfl⟩⟩⟩⟩⟩⟩ := h
 obtain ⟨v5, v6, rfl, g5, g6⟩ := k104_openM s5
 exact ⟨v5, v6, rfl, g5, g6⟩
theorem k106_mk (w : World) (x : S106) {A5 : Option Addr} {c5 : Nat} (l5 : x.f5.f0.f0.length ≤ c5) (g5 : k183.C w A5 x.f5.f0.f0.length x.f5.f0.f0) {A6 : Option Addr} {c6 : Nat} (l6 : x.f5.f1.length ≤ c6) (g6 : k77.C w A6 x.f5.f1.length x.f5.f1) : k106.K w x [.int .i64 x.f0, .int .i64 x.f1, .int .i64 x.f2, .int .i64 x.f3, .bool x.f4, .slice A5 x.f5.f0.f0.length c5, .slice A6 x.f5.f1.length c6, .string x.f6] := ⟨[.int .i64 x.f0], [.int .i64 x.f1, .int .i64 x.f2, .int .i64 x.f3, .bool x.f4, .slice A5 x.f5.f0.f0.length c5, .slice A6 x.f5.f1.length c6, .string x.f6], rfl, rfl, ⟨[.int .i64 x.f1], [.int .i64 x.f2, .int .i64 x.f3, .bool x.f4, .slice A5 x.f5.f0.f0.length c5, .slice A6 x.f5.f1.length c6, .string x.f6], rfl, rfl, ⟨[.int .i64 x.f2], [.int .i64 x.f3, .bool x.f4, .slice A5 x.f5.f0.f0.length c5, .slice A6 x.f5.f1.length c6, .string x.f6], rfl, rfl, ⟨[.int .i64 x.f3], [.bool x.f4, .slice A5 x.f5.f0.f0.length c5, .slice A6 x.f5.f1.length c6, .string x.f6], rfl, rfl, ⟨[.bool x.f4], [.slice A5 x.f5.f0.f0.length c5, .slice A6 x.f5.f1.length c6, .string x.f6], rfl, rfl, ⟨[.slice A5 x.f5.f0.f0.length c5, .slice A6 x.f5.f1.length c6], [.string x.f6], rfl, (k104_mk w x.f5 l5 g5 l6 g6), rfl⟩⟩⟩⟩⟩⟩
theorem k106_mkM (w : World) (base : Nat) (ok : Nat → Prop) (x : S106) {v5 : Value} (g5 : k183.R 183 w base ok v5 x.f5.f0.f0) {v6 : Value} (g6 : k77.R 77 w base ok v6 x.f5.f1) : k106.M w base ok x [.int .i64 x.f0, .int .i64 x.f1, .int .i64 x.f2, .int .i64 x.f3, .bool x.f4, v5, v6, .string x.f6] := ⟨[.int .i64 x.f0], [.int .i64 x.f1, .int .i64 x.f2, .int .i64 x.f3, .bool x.f4, v5, v6, .string x.f6], rfl, rfl, ⟨[.int .i64 x.f1], [.int .i64 x.f2, .int .i64 x.f3, .bool x.f4, v5, v6, .string x.f6], rfl, rfl, ⟨[.int .i64 x.f2], [.int .i64 x.f3, .bool x.f4, v5, v6, .string x.f6], rfl, rfl, ⟨[.int .i64 x.f3], [.bool x.f4, v5, v6, .string x.f6], rfl, rfl, ⟨[.bool x.f4], [v5, v6, .string x.f6], rfl, rfl, ⟨[v5, v6], [.string x.f6], rfl, (k104_mkM w base ok x.f5 g5 g6), rfl⟩⟩⟩⟩⟩⟩
def rd_T106 (xs : List S106) (i : Int) : S106 := xs.getD i.toNat z106
theorem at_T106 {w : World} {A : Option Addr} {n : Nat} {xs : List S106} (h : Kd.C k106 w A n xs) (i : Int) (h0 : 0 ≤ i) (h1 : i < n) : ∃ ad A5 c5 A6 c6, A = some ad ∧ w.cell? (ad.add (i.toNat * 8)) = some (.int .i64 (rd_T106 xs i).f0) ∧ w.cell? ⟨(ad.add (i.toNat * 8)).block, (ad.add (i.toNat * 8)).off + 1, none⟩ = some (.int .i64 (rd_T106 xs i).f1) ∧ w.cell? ⟨(ad.add (i.toNat * 8)).block, (ad.add (i.toNat * 8)).off + 2, none⟩ = some (.int .i64 (rd_T106 xs i).f2) ∧ w.cell? ⟨(ad.add (i.toNat * 8)).block, (ad.add (i.toNat * 8)).off + 3, none⟩ = some (.int .i64 (rd_T106 xs i).f3) ∧ w.cell? ⟨(ad.add (i.toNat * 8)).block, (ad.add (i.toNat * 8)).off + 4, none⟩ = some (.bool (rd_T106 xs i).f4) ∧ w.cell? ⟨(ad.add (i.toNat * 8)).block, (ad.add (i.toNat * 8)).off + 5, none⟩ = some (.slice A5 (rd_T106 xs i).f5.f0.f0.length c5) ∧ w.cell? ⟨(ad.add (i.toNat * 8)).block, (ad.add (i.toNat * 8)).off + 6, none⟩ = some (.slice A6 (rd_T106 xs i).f5.f1.length c6) ∧ w.cell? ⟨(ad.add (i.toNat * 8)).block, (ad.add (i.toNat * 8)).off + 7, none⟩ = some (.string (rd_T106 xs i).f6) ∧ (rd_T106 xs i).f5.f0.f0.length ≤ c5 ∧ k183.C w A5 (rd_T106 xs i).f5.f0.f0.length (rd_T106 xs i).f5.f0.f0 ∧ (rd_T106 xs i).f5.f1.length ≤ c6 ∧ k77.C w A6 (rd_T106 xs i).f5.f1.length (rd_T106 xs i).f5.f1 := by
 obtain ⟨ad, c, e, _, hK, hc0⟩ := Kd.C_get h z106 i h0 h1
 have hc : ∀ j u, c[j]? = some u → w.cell? (ad.add (i.toNat * 8 + j)) = some u := hc0
 obtain ⟨A5, c5, A6, c6, rfl, l5, g5, l6, g6⟩ := k106_open hK
 exact ⟨ad, A5, c5, A6, c6, e, hc 0 _ rfl, by rw [← add_field _ _ 1 (by omega)]; exact hc 1 _ rfl, by rw [← add_field _ _ 2 (by omega)]; exact hc 2 _ rfl, by rw [← add_field _ _ 3 (by omega)]; exact hc 3 _ rfl, by rw [← add_field _ _ 4 (by omega)]; exact hc 4 _ rfl, by rw [← add_field _ _ 5 (by omega)]; exact hc 5 _ rfl, by rw [← add_field _ _ 6 (by omega)]; exact hc 6 _ rfl, by rw [← add_field _ _ 7 (by omega)]; exact hc 7 _ rfl, l5, g5, l6, g6⟩

/-! #### struct type 172 -/
structure S172 where
 f0 : ByteArray
 f1 : S32
def z172 : S172 := ⟨(⟨#[]⟩ : ByteArray), z32⟩
def k172 : Kd S172 := Kd.iso (Kd.pair Kd.string k32) (fun x : S172 => (x.f0, x.f1))
theorem k172_open {w : World} {x : S172} {cs : List Value} (h : k172.K w x cs) : cs = [.string x.f0, .int .i64 x.f1.f0, .int .i64 x.f1.f1, .string x.f1.f2] := by
 obtain ⟨_, _, rfl, rfl, s1⟩ := h
 obtain rfl := k32_open s1
 exact rfl
theorem k172_openM {w : World} {base : Nat} {ok : Nat → Prop} {x : S172} {cs : List Value} (h : k172.M w base ok x cs) : cs = [.string x.f0, .int .i64 x.f1.f0, .int .i64 x.f1.f1, .string x.f1.f2] := by
 obtain ⟨_, _, rfl, rfl, s1⟩ := h
 obtain rfl := k32_openM s1
 exact rfl
theorem k172_mk (w : World) (x : S172)  : k172.K w x [.string x.f0, .int .i64 x.f1.f0, .int .i64 x.f1.f1, .string x.f1.f2] := ⟨[.string x.f0], [.int .i64 x.f1.f0, .int .i64 x.f1.f1, .string x.f1.f2], rfl, rfl, (k32_mk w x.f1 )⟩
theorem k172_mkM (w : World) (base : Nat) (ok : Nat → Prop) (x : S172)  : k172.M w base ok x [.string x.f0, .int .i64 x.f1.f0, .int .i64 x.f1.f1, .string x.f1.f2] := ⟨[.string x.f0], [.int .i64 x.f1.f0, .int .i64 x.f1.f1, .string x.f1.f2], rfl, rfl, (k32_mkM w base ok x.f1 )⟩
def rd_T172 (xs : List S172) (i : Int) : S172 := xs.getD i.toNat z172
theorem at_T172 {w : World} {A : Option Addr} {n : Nat} {xs : List S172} (h : Kd.C k172 w A n xs) (i : Int) (h0 : 0 ≤ i) (h1 : i < n) : ∃ ad , A = some ad ∧ w.cell? (ad.add (i.toNat * 4)) = some (.string (rd_T172 xs i).f0) ∧ w.cell? ⟨(ad.add (i.toNat * 4)).block, (ad.add (i.toNat * 4)).off + 1, none⟩ = some (.int .i64 (rd_T172 xs i).f1.f0) ∧ w.cell? ⟨(ad.add (i.toNat * 4)).block, (ad.add (i.toNat * 4)).off + 2, none⟩ = some (.int .i64 (rd_T172 xs i).f1.f1) ∧ w.cell? ⟨(ad.add (i.toNat * 4)).block, (ad.add (i.toNat * 4)).off + 3, none⟩ = some (.string (rd_T172 xs i).f1.f2) := by
 obtain ⟨ad, c, e, _, hK, hc0⟩ := Kd.C_get h z172 i h0 h1
 have hc : ∀ j u, c[j]? = some u → w.cell? (ad.add (i.toNat * 4 + j)) = some u := hc0
 obtain rfl := k172_open hK
 exact ⟨ad, e, hc 0 _ rfl, by rw [← add_field _ _ 1 (by omega)]; exact hc 1 _ rfl, by rw [← add_field _ _ 2 (by omega)]; exact hc 2 _ rfl, by rw [← add_field _ _ 3 (by omega)]; exact hc 3 _ rfl⟩

/-! #### struct type 174 -/
structure S174 where
 f0 : Bool
 f1 : S32
def z174 : S174 := ⟨false, z32⟩
def k174 : Kd S174 := Kd.iso (Kd.pair Kd.bool k32) (fun x : S174 => (x.f0, x.f1))
theorem k174_open {w : World} {x : S174} {cs : List Value} (h : k174.K w x cs) : cs = [.bool x.f0, .int .i64 x.f1.f0, .int .i64 x.f1.f1, .string x.f1.f2] := by
 obtain ⟨_, _, rfl, rfl, s1⟩ := h
 obtain rfl := k32_open s1
 exact rfl
theorem k174_openM {w : World} {base : Nat} {ok : Nat → Prop} {x : S174} {cs : List Value} (h : k174.M w base ok x cs) : cs = [.bool x.f0, .int .i64 x.f1.f0, .int .i64 x.f1.f1, .string x.f1.f2] := by
 obtain ⟨_, _, rfl, rfl, s1⟩ := h
 obtain rfl := k32_openM s1
 exact rfl
theorem k174_mk (w : World) (x : S174)  : k174.K w x [.bool x.f0, .int .i64 x.f1.f0, .int .i64 x.f1.f1, .string x.f1.f2] := ⟨[.bool x.f0], [.int .i64 x.f1.f0, .int .i64 x.f1.f1, .string x.f1.f2], rfl, rfl, (k32_mk w x.f1 )⟩
theorem k174_mkM (w : World) (base : Nat) (ok : Nat → Prop) (x : S174)  : k174.M w base ok x [.bool x.f0, .int .i64 x.f1.f0, .int .i64 x.f1.f1, .string x.f1.f2] := ⟨[.bool x.f0], [.int .i64 x.f1.f0, .int .i64 x.f1.f1, .string x.f1.f2], rfl, rfl, (k32_mkM w base ok x.f1 )⟩
def rd_T174 (xs : List S174) (i : Int) : S174 := xs.getD i.toNat z174
theorem at_T174 {w : World} {A : Option Addr} {n : Nat} {xs : List S174} (h : Kd.C k174 w A n xs) (i : Int) (h0 : 0 ≤ i) (h1 : i < n) : ∃ ad , A = some ad ∧ w.cell? (ad.add (i.toNat * 4)) = some (.bool (rd_T174 xs i).f0) ∧ w.cell? ⟨(ad.add (i.toNat * 4)).block, (ad.add (i.toNat * 4)).off + 1, none⟩ = some (.int .i64 (rd_T174 xs i).f1.f0) ∧ w.cell? ⟨(ad.add (i.toNat * 4)).block, (ad.add (i.toNat * 4)).off + 2, none⟩ = some (.int .i64 (rd_T174 xs i).f1.f1) ∧ w.cell? ⟨(ad.add (i.toNat * 4)).block, (ad.add (i.toNat * 4)).off + 3, none⟩ = some (.string (rd_T174 xs i).f1.f2) := by
 obtain ⟨ad, c, e, _, hK, hc0⟩ := Kd.C_get h z174 i h0 h1
 have hc : ∀ j u, c[j]? = some u → w.cell? (ad.add (i.toNat * 4 + j)) = some u := hc0
 obtain rfl := k174_open hK
 exact ⟨ad, e, hc 0 _ rfl, by rw [← add_field _ _ 1 (by omega)]; exact hc 1 _ rfl, by rw [← add_field _ _ 2 (by omega)]; exact hc 2 _ rfl, by rw [← add_field _ _ 3 (by omega)]; exact hc 3 _ rfl⟩

def rd_L22 (xs : List (List S172)) (i : Int) : (List S172) := xs.getD i.toNat ([] : List S172)
theorem at_L22 {w : World} {A : Option Addr} {n : Nat} {xs : List (List S172)} (h : Kd.C (Kd.slice 172 k172) w A n xs) (i : Int) (h0 : 0 ≤ i) (h1 : i < n) : ∃ ad A0 c0, A = some ad ∧ w.cell? (ad.add i.toNat) = some (.slice A0 (rd_L22 xs i).length c0) ∧ (rd_L22 xs i).length ≤ c0 ∧ k172.C w A0 (rd_L22 xs i).length (rd_L22 xs i) := by
 obtain ⟨ad, c, e, _, hK, hc0⟩ := Kd.C_get h ([] : List S172) i h0 h1
 have hc : ∀ j u, c[j]? = some u → w.cell? (ad.add (i.toNat * 1 + j)) = some u := hc0
 obtain ⟨A0, c0, rfl, l0, g0⟩ := hK
 exact ⟨ad, A0, c0, e, by have hq := hc 0 _ rfl; rwa [Nat.mul_one, Nat.add_zero] at hq, l0, g0⟩

def rd_L23 (xs : List (List S174)) (i : Int) : (List S174) := xs.getD i.toNat ([] : List S174)
theorem at_L23 {w : World} {A : Option Addr} {n : Nat} {xs : List (List S174)} (h : Kd.C (Kd.slice 174 k174) w A n xs) (i : Int) (h0 : 0 ≤ i) (h1 : i < n) : ∃ ad A0 c0, A = some ad ∧ w.cell? (ad.add i.toNat) = some (.slice A0 (rd_L23 xs i).length c0) ∧ (rd_L23 xs i).length ≤ c0 ∧ k174.C w A0 (rd_L23 xs i).length (rd_L23 xs i) := by
 obtain ⟨ad, c, e, _, hK, hc0⟩ := Kd.C_get h ([] : List S174) i h0 h1
 have hc : ∀ j u, c[j]? = some u → w.cell? (ad.add (i.toNat * 1 + j)) = some u := hc0
 obtain ⟨A0, c0, rfl, l0, g0⟩ := hK
 exact ⟨ad, A0, c0, e, by have hq := hc 0 _ rfl; rwa [Nat.mul_one, Nat.add_zero] at hq, l0, g0⟩

/-! #### struct type 161, nested in itself -/
structure S161 where
 f0 : Int
 f1 : ByteArray
 f2 : ByteArray
 f3 : (List S172)
 f4 : (List S174)
 f5 : (List S161)
def z161 : S161 := ⟨(0 : Int), (⟨#[]⟩ : ByteArray), (⟨#[]⟩ : ByteArray), ([] : List S172), ([] : List S174), ([] : List S161)⟩
def F161 (d : Kd S161) : Kd S161 := Kd.iso (Kd.pair (Kd.int .i64) (Kd.pair Kd.string (Kd.pair Kd.string (Kd.pair (Kd.slice 172 k172) (Kd.pair (Kd.slice 174 k174) (Kd.slice 161 d)))))) (fun x : S161 => (x.f0, x.f1, x.f2, x.f3, x.f4, x.f5))
theorem mono161 : Kd.Mono F161 := Kd.mono_iso _ (Kd.mono_pair (Kd.mono_const _) (Kd.mono_pair (Kd.mono_const _) (Kd.mono_pair (Kd.mono_const _) (Kd.mono_pair (Kd.mono_const _) (Kd.mono_pair (Kd.mono_const _) (Kd.mono_slice 161 Kd.mono_id))))))
theorem sub161 : Kd.Sub F161 [161, 172, 174] := Kd.sub_iso _ (Kd.sub_pair (Kd.sub_const _ (by decide)) (Kd.sub_pair (Kd.sub_const _ (by decide)) (Kd.sub_pair (Kd.sub_const _ (by decide)) (Kd.sub_pair (Kd.sub_const _ (by decide)) (Kd.sub_pair (Kd.sub_const _ (by decide)) (Kd.sub_slice 161 (by decide) Kd.sub_id))))))
theorem sz161 : ∀ n, (Kd.upto F161 6 [161, 172, 174] n).sz = 6 := Kd.upto_sz (fun _ => rfl)
def k161 : Kd S161 := Kd.fix F161 6 [161, 172, 174] sz161 (Kd.upto_E sub161)
theorem k161_open {w : World} {x : S161} {cs : List Value} (h : k161.K w x cs) : ∃ A3 c3 A4 c4 A5 c5, cs = [.int .i64 x.f0, .string x.f1, .string x.f2, .slice A3 x.f3.length c3, .slice A4 x.f4.length c4, .slice A5 x.f5.length c5] ∧ x.f3.length ≤ c3 ∧ k172.C w A3 x.f3.length x.f3 ∧ x.f4.length ≤ c4 ∧ k174.C w A4 x.f4.length x.f4 ∧ x.f5.length ≤ c5 ∧ k161.C w A5 x.f5.length x.f5 := by
 obtain ⟨n, h⟩ := h
 cases n with
 | zero => exact h.elim
 | succ n =>
  obtain ⟨_, _, rfl, rfl, ⟨_, _, rfl, rfl, ⟨_, _, rfl, rfl, ⟨_, _, rfl, ⟨A3, c3, rfl, l3, g3⟩, ⟨_, _, rfl, ⟨A4, c4, rfl, l4, g4⟩, ⟨A5, c5, rfl, l5, g5⟩⟩⟩⟩⟩⟩ := h
  exact ⟨A3, c3, A4, c4, A5, c5, rfl, l3, g3, l4, g4, l5, Kd.fix_C g5⟩
theorem k161_openM {w : World} {base : Nat} {ok : Nat → Prop} {x : S161} {cs : List Value} (h : k161.M w base ok x cs) : ∃ v3 v4 v5, cs = [.int .i64 x.f0, .string x.f1, .string x.f2, v3, v4, v5] ∧ k172.R 172 w base ok v3 x.f3 ∧ k174.R 174 w base ok v4 x.f4 ∧ k161.R 161 w base ok v5 x.f5 := by
 obtain ⟨n, h⟩ := h
 cases n with
 | zero => exact h.elim
 | succ n =>
  obtain ⟨_, _, rfl, rfl, ⟨_, _, rfl, rfl, ⟨_, _, rfl, rfl, ⟨_, _, rfl, ⟨v3, rfl, g3⟩, ⟨_, _, rfl, ⟨v4, rfl, g4⟩, ⟨v5, rfl, g5⟩⟩⟩⟩⟩⟩ := h
  exact ⟨v3, v4, v5, rfl, g3, g4, Kd.fix_R g5⟩
theorem k161_mk (w : World) (x : S161) {A3 : Option Addr} {c3 : Nat} (l3 : x.f3.length ≤ c3) (g3 : k172.C w A3 x.f3.length x.f3) {A4 : Option Addr} {c4 : Nat} (l4 : x.f4.length ≤ c4) (g4 : k174.C w A4 x.f4.length x.f4) {A5 : Option Addr} {c5 : Nat} (l5 : x.f5.length ≤ c5) (g5 : k161.C w A5 x.f5.length x.f5) : k161.K w x [.int .i64 x.f0, .string x.f1, .string x.f2, .slice A3 x.f3.length c3, .slice A4 x.f4.length c4, .slice A5 x.f5.length c5] := by
 obtain ⟨n5, q5⟩ := Kd.fix_C_back mono161 g5
 have r5 := Kd.upto_C_le mono161 sz161 (show n5 ≤ n5 by omega) q5
 exact ⟨n5 + 1, ⟨[.int .i64 x.f0], [.string x.f1, .string x.f2, .slice A3 x.f3.length c3, .slice A4 x.f4.length c4, .slice A5 x.f5.length c5], rfl, rfl, ⟨[.string x.f1], [.string x.f2, .slice A3 x.f3.length c3, .slice A4 x.f4.length c4, .slice A5 x.f5.length c5], rfl, rfl, ⟨[.string x.f2], [.slice A3 x.f3.length c3, .slice A4 x.f4.length c4, .slice A5 x.f5.length c5], rfl, rfl, ⟨[.slice A3 x.f3.length c3], [.slice A4 x.f4.length c4, .slice A5 x.f5.length c5], rfl, ⟨A3, c3, rfl, l3, g3⟩, ⟨[.slice A4 x.f4.length c4], [.slice A5 x.f5.length c5], rfl, ⟨A4, c4, rfl, l4, g4⟩, ⟨A5, c5, rfl, l5, r5⟩⟩⟩⟩⟩⟩⟩
theorem k161_mkM (w : World) (base : Nat) (ok : Nat → Prop) (x : S161) {v3 : Value} (g3 : k172.R 172 w base ok v3 x.f3) {v4 : Value} (g4 : k174.R 174 w base ok v4 x.f4) {v5 : Value} (g5 : k161.R 161 w base ok v5 x.f5) : k161.M w base ok x [.int .i64 x.f0, .string x.f1, .string x.f2, v3, v4, v5] := by
 obtain ⟨n5, q5⟩ := Kd.fix_R_back mono161 g5
 have r5 := Kd.upto_R_le mono161 sz161 (show n5 ≤ n5 by omega) q5
 exact ⟨n5 + 1, ⟨[.int .i64 x.f0], [.string x.f1, .string x.f2, v3, v4, v5], rfl, rfl, ⟨[.string x.f1], [.string x.f2, v3, v4, v5], rfl, rfl, ⟨[.string x.f2], [v3, v4, v5], rfl, rfl, ⟨[v3], [v4, v5], rfl, ⟨v3, rfl, g3⟩, ⟨[v4], [v5], rfl, ⟨v4, rfl, g4⟩, ⟨v5, rfl, r5⟩⟩⟩⟩⟩⟩⟩
def rd_T161 (xs : List S161) (i : Int) : S161 := xs.getD i.toNat z161
theorem at_T161 {w : World} {A : Option Addr} {n : Nat} {xs : List S161} (h : Kd.C k161 w A n xs) (i : Int) (h0 : 0 ≤ i) (h1 : i < n) : ∃ ad A3 c3 A4 c4 A5 c5, A = some ad ∧ w.cell? (ad.add (i.toNat * 6)) = some (.int .i64 (rd_T161 xs i).f0) ∧ w.cell? ⟨(ad.add (i.toNat * 6)).block, (ad.add (i.toNat * 6)).off + 1, none⟩ = some (.string (rd_T161 xs i).f1) ∧ w.cell? ⟨(ad.add (i.toNat * 6)).block, (ad.add (i.toNat * 6)).off + 2, none⟩ = some (.string (rd_T161 xs i).f2) ∧ w.cell? ⟨(ad.add (i.toNat * 6)).block, (ad.add (i.toNat * 6)).off + 3, none⟩ = some (.slice A3 (rd_T161 xs i).f3.length c3) ∧ w.cell? ⟨(ad.add (i.toNat * 6)).block, (ad.add (i.toNat * 6)).off + 4, none⟩ = some (.slice A4 (rd_T161 xs i).f4.length c4) ∧ w.cell? ⟨(ad.add (i.toNat * 6)).block, (ad.add (i.toNat * 6)).off + 5, none⟩ = some (.slice A5 (rd_T161 xs i).f5.length c5) ∧ (rd_T161 xs i).f3.length ≤ c3 ∧ k172.C w A3 (rd_T161 xs i).f3.length (rd_T161 xs i).f3 ∧ (rd_T161 xs i).f4.length ≤ c4 ∧ k174.C w A4 (rd_T161 xs i).f4.length (rd_T161 xs i).f4 ∧ (rd_T161 xs i).f5.length ≤ c5 ∧ k161.C w A5 (rd_T161 xs i).f5.length (rd_T161 xs i).f5 := by
 obtain ⟨ad, c, e, _, hK, hc0⟩ := Kd.C_get h z161 i h0 h1
 have hc : ∀ j u, c[j]? = some u → w.cell? (ad.add (i.toNat * 6 + j)) = some u := hc0
 obtain ⟨A3, c3, A4, c4, A5, c5, rfl, l3, g3, l4, g4, l5, g5⟩ := k161_open hK
 exact ⟨ad, A3, c3, A4, c4, A5, c5, e, hc 0 _ rfl, by rw [← add_field _ _ 1 (by omega)]; exact hc 1 _ rfl, by rw [← add_field _ _ 2 (by omega)]; exact hc 2 _ rfl, by rw [← add_field _ _ 3 (by omega)]; exact hc 3 _ rfl, by rw [← add_field _ _ 4 (by omega)]; exact hc 4 _ rfl, by rw [← add_field _ _ 5 (by omega)]; exact hc 5 _ rfl, l3, g3, l4, g4, l5, g5⟩

def rd_L25 (xs : List (List S161)) (i : Int) : (List S161) := xs.getD i.toNat ([] : List S161)
theorem at_L25 {w : World} {A : Option Addr} {n : Nat} {xs : List (List S161)} (h : Kd.C (Kd.slice 161 k161) w A n xs) (i : Int) (h0 : 0 ≤ i) (h1 : i < n) : ∃ ad A0 c0, A = some ad ∧ w.cell? (ad.add i.toNat) = some (.slice A0 (rd_L25 xs i).length c0) ∧ (rd_L25 xs i).length ≤ c0 ∧ k161.C w A0 (rd_L25 xs i).length (rd_L25 xs i) := by
 obtain ⟨ad, c, e, _, hK, hc0⟩ := Kd.C_get h ([] : List S161) i h0 h1
 have hc : ∀ j u, c[j]? = some u → w.cell? (ad.add (i.toNat * 1 + j)) = some u := hc0
 obtain ⟨A0, c0, rfl, l0, g0⟩ := hK
 exact ⟨ad, A0, c0, e, by have hq := hc 0 _ rfl; rwa [Nat.mul_one, Nat.add_zero] at hq, l0, g0⟩

/-! #### struct type 141 -/
structure S141 where
 f0 : Int
 f1 : ByteArray
 f2 : ByteArray
 f3 : (List S161)
def z141 : S141 := ⟨(0 : Int), (⟨#[]⟩ : ByteArray), (⟨#[]⟩ : ByteArray), ([] : List S161)⟩
def k141 : Kd S141 := Kd.iso (Kd.pair (Kd.int .i64) (Kd.pair Kd.string (Kd.pair Kd.string (Kd.slice 161 k161)))) (fun x : S141 => (x.f0, x.f1, x.f2, x.f3))
theorem k141_open {w : World} {x : S141} {cs : List Value} (h : k141.K w x cs) : ∃ A3 c3, cs = [.int .i64 x.f0, .string x.f1, .string x.f2, .slice A3 x.f3.length c3] ∧ x.f3.length ≤ c3 ∧ k161.C w A3 x.f3.length x.f3 := by
 obtain ⟨_, _, rfl, rfl, ⟨_, _, rfl, rfl, ⟨_, _, rfl, rfl, ⟨A3, c3, rfl, l3, g3⟩⟩⟩⟩ := h
 exact ⟨A3, c3, rfl, l3, g3⟩
theorem k141_openM {w : World} {base : Nat} {ok : Nat → Prop} {x : S141} {cs : List Value} (h : k141.M w base ok x cs) : ∃ v3, cs = [.int .i64 x.f0, .string x.f1, .string x.f2, v3] ∧ k161.R 161 w base ok v3 x.f3 := by
 obtain ⟨_, _, rfl, rfl, ⟨_, _, rfl, rfl, ⟨_, _, rfl, rfl, ⟨v3, rfl, g3⟩⟩⟩⟩ := h
 exact ⟨v3, rfl, g3⟩
theorem k141_mk (w : World) (x : S141) {A3 : Option Addr} {c3 : Nat} (l3 : x.f3.length ≤ c3) (g3 : k161.C w A3 x.f3.length x.f3) : k141.K w x [.int .i64 x.f0, .string x.f1, .string x.f2, .slice A3 x.f3.length c3] := ⟨[.int .i64 x.f0], [.string x.f1, .string x.f2, .slice A3 x.f3.length c3], rfl, rfl, ⟨[.string x.f1], [.string x.f2, .slice A3 x.f3.length c3], rfl, rfl, ⟨[.string x.f2], [.slice A3 x.f3.length c3], rfl, rfl, ⟨A3, c3, rfl, l3, g3⟩⟩⟩⟩
theorem k141_mkM (w : World) (base : Nat) (ok : Nat → Prop) (x : S141) {v3 : Value} (g3 : k161.R 161 w base ok v3 x.f3) : k141.M w base ok x [.int .i64 x.f0, .string x.f1, .string x.f2, v3] := ⟨[.int .i64 x.f0], [.string x.f1, .string x.f2, v3], rfl, rfl, ⟨[.string x.f1], [.string x.f2, v3], rfl, rfl, ⟨[.string x.f2], [v3], rfl, rfl, ⟨v3, rfl, g3⟩⟩⟩⟩
def rd_T141 (xs : List S141) (i : Int) : S141 := xs.getD i.toNat z141
theorem at_T141 {w : World} {A : Option Addr} {n : Nat} {xs : List S141} (h : Kd.C k141 w A n xs) (i : Int) (h0 : 0 ≤ i) (h1 : i < n) : ∃ ad A3 c3, A = some ad ∧ w.cell? (ad.add (i.toNat * 4)) = some (.int .i64 (rd_T141 xs i).f0) ∧ w.cell? ⟨(ad.add (i.toNat * 4)).block, (ad.add (i.toNat * 4)).off + 1, none⟩ = some (.string (rd_T141 xs i).f1) ∧ w.cell? ⟨(ad.add (i.toNat * 4)).block, (ad.add (i.toNat * 4)).off + 2, none⟩ = some (.string (rd_T141 xs i).f2) ∧ w.cell? ⟨(ad.add (i.toNat * 4)).block, (ad.add (i.toNat * 4)).off + 3, none⟩ = some (.slice A3 (rd_T141 xs i).f3.length c3) ∧ (rd_T141 xs i).f3.length ≤ c3 ∧ k161.C w A3 (rd_T141 xs i).f3.length (rd_T141 xs i).f3 := by
 obtain ⟨ad, c, e, _, hK, hc0⟩ := Kd.C_get h z141 i h0 h1
 have hc : ∀ j u, c[j]? = some u → w.cell? (ad.add (i.toNat * 4 + j)) = some u := hc0
 obtain ⟨A3, c3, rfl, l3, g3⟩ := k141_open hK
 exact ⟨ad, A3, c3, e, hc 0 _ rfl, by rw [← add_field _ _ 1 (by omega)]; exact hc 1 _ rfl, by rw [← add_field _ _ 2 (by omega)]; exact hc 2 _ rfl, by rw [← add_field _ _ 3 (by omega)]; exact hc 3 _ rfl, l3, g3⟩

def rd_L27 (xs : List (List S141)) (i : Int) : (List S141) := xs.getD i.toNat ([] : List S141)
theorem at_L27 {w : World} {A : Option Addr} {n : Nat} {xs : List (List S141)} (h : Kd.C (Kd.slice 141 k141) w A n xs) (i : Int) (h0 : 0 ≤ i) (h1 : i < n) : ∃ ad A0 c0, A = some ad ∧ w.cell? (ad.add i.toNat) = some (.slice A0 (rd_L27 xs i).length c0) ∧ (rd_L27 xs i).length ≤ c0 ∧ k141.C w A0 (rd_L27 xs i).length (rd_L27 xs i) := by
 obtain ⟨ad, c, e, _, hK, hc0⟩ := Kd.C_get h ([] : List S141) i h0 h1
 have hc : ∀ j u, c[j]? = some u → w.cell? (ad.add (i.toNat * 1 + j)) = some u := hc0
 obtain ⟨A0, c0, rfl, l0, g0⟩ := hK
 exact ⟨ad, A0, c0, e, by have hq := hc 0 _ rfl; rwa [Nat.mul_one, Nat.add_zero] at hq, l0, g0⟩

/-! #### struct type 111 -/
structure S111 where
 f0 : (List S141)
def z111 : S111 := ⟨([] : List S141)⟩
def k111 : Kd S111 := Kd.iso (Kd.slice 141 k141) (fun x : S111 => x.f0)
theorem k111_open {w : World} {x : S111} {cs : List Value} (h : k111.K w x cs) : ∃ A0 c0, cs = [.slice A0 x.f0.length c0] ∧ x.f0.length ≤ c0 ∧ k141.C w A0 x.f0.length x.f0 := by
 obtain ⟨A0, c0, rfl, l0, g0⟩ := h
 exact ⟨A0, c0, rfl, l0, g0⟩
theorem k111_openM {w : World} {base : Nat} {ok : Nat → Prop} {x : S111} {cs : List Value} (h : k111.M w base ok x cs) : ∃ v0, cs = [v0] ∧ k141.R 141 w base ok v0 x.f0 := by
 obtain ⟨v0, rfl, g0⟩ := h
 exact ⟨v0, rfl, g0⟩
theorem k111_mk (w : World) (x : S111) {A0 : Option Addr} {c0 : Nat} (l0 : x.f0.length ≤ c0) (g0 : k141.C w A0 x.f0.length x.f0) : k111.K w x [.slice A0 x.f0.length c0] := ⟨A0, c0, rfl, l0, g0⟩
theorem k111_mkM (w : World) (base : Nat) (ok : Nat → Prop) (x : S111) {v0 : Value} (g0 : k141.R 141 w base ok v0 x.f0) : k111.M w base ok x [v0] := ⟨v0, rfl, g0⟩
def rd_T111 (xs : List S111) (i : Int) : S111 := xs.getD i.toNat z111
theorem at_T111 {w : World} {A : Option Addr} {n : Nat} {xs : List S111} (h : Kd.C k111 w A n xs) (i : Int) (h0 : 0 ≤ i) (h1 : i < n) : ∃ ad A0 c0, A = some ad ∧ w.cell? (ad.add i.toNat) = some (.slice A0 (rd_T111 xs i).f0.length c0) ∧ (rd_T111 xs i).f0.length ≤ c0 ∧ k141.C w A0 (rd_T111 xs i).f0.length (rd_T111 xs i).f0 := by
 obtain ⟨ad, c, e, _, hK, hc0⟩ := Kd.C_get h z111 i h0 h1
 have hc : ∀ j u, c[j]? = some u → w.cell? (ad.add (i.toNat * 1 + j)) = some u := hc0
 obtain ⟨A0, c0, rfl, l0, g0⟩ := k111_open hK
 exact ⟨ad, A0, c0, e, by have hq := hc 0 _ rfl; rwa [Nat.mul_one, Nat.add_zero] at hq, l0, g0⟩

/-! #### struct type 113 -/
structure S113 where
 f0 : S111
 f1 : (List S80)
def z113 : S113 := ⟨z111, ([] : List S80)⟩
def k113 : Kd S113 := Kd.iso (Kd.pair k111 (Kd.slice 80 k80)) (fun x : S113 => (x.f0, x.f1))
theorem k113_open {w : World} {x : S113} {cs : List Value} (h : k113.K w x cs) : ∃ A0 c0 A1 c1, cs = [.slice A0 x.f0.f0.length c0, .slice A1 x.f1.length c1] ∧ x.f0.f0.length ≤ c0 ∧ k141.C w A0 x.f0.f0.length x.f0.f0 ∧ x.f1.length ≤ c1 ∧ k80.C w A1 x.f1.length x.f1 := by
 obtain ⟨_, _, rfl, s0, ⟨A1, c1, rfl, l1, g1⟩⟩ := h
 obtain ⟨A0, c0, rfl, l0, g0⟩ := k111_open s0
 exact ⟨A0, c0, A1, c1, rfl, l0, g0, l1, g1⟩
theorem k113_openM {w : World} {base : Nat} {ok : Nat → Prop} {x : S113} {cs : List Value} (h : k113.M w base ok x cs) : ∃ v0 v1, cs = [v0, v1] ∧ k141.R 141 w base ok v0 x.f0.f0 ∧ k80.R 80 w base ok v1 x.f1 := by
 obtain ⟨_, _, rfl, s0, ⟨v1, rfl, g1⟩⟩ := h
 obtain ⟨v0, rfl, g0⟩ := k111_openM s0
 exact ⟨v0, v1, rfl, g0, g1⟩
theorem k113_mk (w : World) (x : S113) {A0 : Option Addr} {c0 : Nat} (l0 : x.f0.f0.length ≤ c0) (g0 : k141.C w A0 x.f0.f0.length x.f0.f0) {A1 : Option Addr} {c1 : Nat} (l1 : x.f1.length ≤ c1) (g1 : k80.C w A1 x.f1.length x.f1) : k113.K w x [.slice A0 x.f0.f0.length c0, .slice A1 x.f1.length c1] := ⟨[.slice A0 x.f0.f0.length c0], [.slice A1 x.f1.length c1], rfl, (k111_mk w x.f0 l0 g0), ⟨A1, c1, rfl, l1, g1⟩⟩
theorem k113_mkM (w : World) (base : Nat) (ok : Nat → Prop) (x : S113) {v0 : Value} (g0 : k141.R 141 w base ok v0 x.f0.f0) {v1 : Value} (g1 : k80.R 80 w base ok v1 x.f1) : k113.M w base ok x [v0, v1] := ⟨[v0], [v1], rfl, (k111_mkM w base ok x.f0 g0), ⟨v1, rfl, g1⟩⟩
def rd_T113 (xs : List S113) (i : Int) : S113 := xs.getD i.toNat z113
theorem at_T113 {w : World} {A : Option Addr} {n : Nat} {xs : List S113} (h : Kd.C k113 w A n xs) (i : Int) (h0 : 0 ≤ i) (h1 : i < n) : ∃ ad A0 c0 A1 c1, A = some ad ∧ w.cell? (ad.add (i.toNat * 2)) = some (.slice A0 (rd_T113 xs i).f0.f0.length c0) ∧ w.cell? ⟨(ad.add (i.toNat * 2)).block, (ad.add (i.toNat * 2)).off + 1, none⟩ = some (.slice A1 (rd_T113 xs i).f1.length c1) ∧ (rd_T113 xs i).f0.f0.length ≤ c0 ∧ k141.C w A0 (rd_T113 xs i).f0.f0.length (rd_T113 xs i).f0.f0 ∧ (rd_T113 xs i).f1.length ≤ c1 ∧ k80.C w A1 (rd_T113 xs i).f1.length (rd_T113 xs i).f1 := by
 obtain ⟨ad, c, e, _, hK, hc0⟩ := Kd.C_get h z113 i h0 h1
 have hc : ∀ j u, c[j]? = some u → w.cell? (ad.add (i.toNat * 2 + j)) = some u := hc0
 obtain ⟨A0, c0, A1, c1, rfl, l0, g0, l1, g1⟩ := k113_open hK
 exact ⟨ad, A0, c0, A1, c1, e, hc 0 _ rfl, by rw [← add_field _ _ 1 (by omega)]; exact hc 1 _ rfl, l0, g0, l1, g1⟩

/-! #### struct type 115 -/
structure S115 where
 f0 : Int
 f1 : Int
 f2 : Int
 f3 : Int
 f4 : Bool
 f5 : S113
 f6 : ByteArray
def z115 : S115 := ⟨(0 : Int), (0 : Int), (0 : Int), (0 : Int), false, z113, (⟨#[]⟩ : ByteArray)⟩
def k115 : Kd S115 := Kd.iso (Kd.pair (Kd.int .i64) (Kd.pair (Kd.int .i64) (Kd.pair (Kd.int .i64) (Kd.pair (Kd.int .i64) (Kd.pair Kd.bool (Kd.pair k113 Kd.string)))))) (fun x : S115 => (x.f0, x.f1, x.f2, x.f3, x.f4, x.f5, x.f6))
theorem k115_open {w : World} {x : S115} {cs : List Value} (h : k115.K w x cs) : ∃ A5 c5 A6 c6, cs = [.int .i64 x.f0, .int .i64 x.f1, .int .i64 x.f2, .int .i64 x.f3, .bool x.f4, .slice A5 x.f5.f0.f0.length c5, .slice A6 x.f5.f1.length c6, .string x.f6] ∧ x.f5.f0.f0.length ≤ c5 ∧ k141.C w A5 x.f5.f0.f0.length x.f5.f0.f0 ∧ x.f5.f1.length ≤ c6 ∧ k80.C w A6 x.f5.f1.length x.f5.f1 := by
 obtain ⟨_, _, rfl, rfl, ⟨_, _, rfl, rfl, ⟨_, _, rfl, rfl, ⟨_, _, rfl, rfl, ⟨_, _, rfl, rfl, ⟨_, _, rfl, s5, rfl⟩⟩⟩⟩⟩⟩ := h
 obtain ⟨A5, c5, A6, c6, rfl, l5, g5, l6, g6⟩ := k113_open s5
 exact ⟨A5, c5, A6, c6, rfl, l5, g5, l6, g6⟩
theorem k115_openM {w : World} {base : Nat} {ok : Nat → Prop} {x : S115} {cs : List Value} (h : k115.M w base ok x cs) : ∃ v5 v6, cs = [.int .i64 x.f0, .int .i64 x.f1, .int .i64 x.f2, .int .i64 x.f3, .bool x.f4, v5, v6, .string x.f6] ∧ k141.R 141 w base ok v5 x.f5.f0.f0 ∧ k80.R 80 w base ok v6 x.f5.f1 := by
 obtain ⟨_, _, rfl, rfl, ⟨_, _, rfl, rfl, ⟨_, _, rfl, rfl, ⟨_, _, rfl, rfl, ⟨_, _, rfl, rfl, ⟨_, _, rfl, s5, rfl⟩⟩⟩⟩⟩⟩ := h
 obtain ⟨v5, v6, rfl, g5, g6⟩ := k113_openM s5
 exact ⟨v5, v6, rfl, g5, g6⟩
theorem k115_mk (w : World) (x : S115) {A5 : Option Addr} {c5 : Nat} (l5 : x.f5.f0.f0.length ≤ c5) (g5 : k141.C w A5 x.f5.f0.f0.length x.f5.f0.f0) {A6 : Option Addr} {c6 : Nat} (l6 : x.f5.f1.length ≤ c6) (g6 : k80.C w A6 x.f5.f1.length x.f5.f1) : k115.K w x [.int .i64 x.f0, .int .i64 x.f1, .int .i64 x.f2, .int .i64 x.f3, .bool x.f4, .slice A5 x.f5.f0.f0.length c5, .slice A6 x.f5.f1.length c6, .string x.f6] := ⟨[.int .i64 x.f0], [.int .i64 x.f1, .int .i64 x.f2, .int .i64 x.f3, .bool x.f4, .slice A5 x.f5.f0.f0.length c5, .slice A6 x.f5.f1.length c6, .string x.f6], rfl, rfl, ⟨[.int .i64 x.f1], [.int .i64 x.f2, .int .i64 x.f3, .bool x.f4, .slice A5 x.f5.f0.f0.length c5, .slice A6 x.f5.f1.length c6, .string x.f6], rfl, rfl, ⟨[.int .i64 x.f2], [.int .i64 x.f3, .bool x.f4, .slice A5 x.f5.f0.f0.length c5, .slice A6 x.f5.f1.length c6, .string x.f6], rfl, rfl, ⟨[.int .i64 x.f3], [.bool x.f4, .slice A5 x.f5.f0.f0.length c5, .slice A6 x.f5.f1.length c6, .string x.f6], rfl, rfl, ⟨[.bool x.f4], [.slice A5 x.f5.f0.f0.length c5, .slice A6 x.f5.f1.length c6, .string x.f6], rfl, rfl, ⟨[.slice A5 x.f5.f0.f0.length c5, .slice A6 x.f5.f1.length c6], [.string x.f6], rfl, (k113_mk w x.f5 l5 g5 l6 g6), rfl⟩⟩⟩⟩⟩⟩
theorem k115_mkM (w : World) (base : Nat) (ok : Nat → Prop) (x : S115) {v5 : Value} (g5 : k141.R 141 w base ok v5 x.f5.f0.f0) {v6 : Value} (g6 : k80.R 80 w base ok v6 x.f5.f1) : k115.M w base ok x [.int .i64 x.f0, .int .i64 x.f1, .int .i64 x.f2, .int .i64 x.f3, .bool x.f4, v5, v6, .string x.f6] := ⟨[.int .i64 x.f0], [.int .i64 x.f1, .int .i64 x.f2, .int .i64 x.f3, .bool x.f4, v5, v6, .string x.f6], rfl, rfl, ⟨[.int .i64 x.f1], [.int .i64 x.f2, .int .i64 x.f3, .bool x.f4, v5, v6, .string x.f6], rfl, rfl, ⟨[.int .i64 x.f2], [.int .i64 x.f3, .bool x.f4, v5, v6, .string x.f6], rfl, rfl, ⟨[.int .i64 x.f3], [.bool x.f4, v5, v6, .string x.f6], rfl, rfl, ⟨[.bool x.f4], [v5, v6, .string x.f6], rfl, rfl, ⟨[v5, v6], [.string x.f6], rfl, (k113_mkM w base ok x.f5 g5 g6), rfl⟩⟩⟩⟩⟩⟩
def rd_T115 (xs : List S115) (i : Int) : S115 := xs.getD i.toNat z115
theorem at_T115 {w : World} {A : Option Addr} {n : Nat} {xs : List S115} (h : Kd.C k115 w A n xs) (i : Int) (h0 : 0 ≤ i) (h1 : i < n) : ∃ ad A5 c5 A6 c6, A = some ad ∧ w.cell? (ad.add (i.toNat * 8)) = some (.int .i64 (rd_T115 xs i).f0) ∧ w.cell? ⟨(ad.add (i.toNat * 8)).block, (ad.add (i.toNat * 8)).off + 1, none⟩ = some (.int .i64 (rd_T115 xs i).f1) ∧ w.cell? ⟨(ad.add (i.toNat * 8)).block, (ad.add (i.toNat * 8)).off + 2, none⟩ = some (.int .i64 (rd_T115 xs i).f2) ∧ w.cell? ⟨(ad.add (i.toNat * 8)).block, (ad.add (i.toNat * 8)).off + 3, none⟩ = some (.int .i64 (rd_T115 xs i).f3) ∧ w.cell? ⟨(ad.add (i.toNat * 8)).block, (ad.add (i.toNat * 8)).off + 4, none⟩ = some (.bool (rd_T115 xs i).f4) ∧ w.cell? ⟨(ad.add (i.toNat * 8)).block, (ad.add (i.toNat * 8)).off + 5, none⟩ = some (.slice A5 (rd_T115 xs i).f5.f0.f0.length c5) ∧ w.cell? ⟨(ad.add (i.toNat * 8)).block, (ad.add (i.toNat * 8)).off + 6, none⟩ = some (.slice A6 (rd_T115 xs i).f5.f1.length c6) ∧ w.cell? ⟨(ad.add (i.toNat * 8)).block, (ad.add (i.toNat * 8)).off + 7, none⟩ = some (.string (rd_T115 xs i).f6) ∧ (rd_T115 xs i).f5.f0.f0.length ≤ c5 ∧ k141.C w A5 (rd_T115 xs i).f5.f0.f0.length (rd_T115 xs i).f5.f0.f0 ∧ (rd_T115 xs i).f5.f1.length ≤ c6 ∧ k80.C w A6 (rd_T115 xs i).f5.f1.length (rd_T115 xs i).f5.f1 := by
 obtain ⟨ad, c, e, _, hK, hc0⟩ := Kd.C_get h z115 i h0 h1
 have hc : ∀ j u, c[j]? = some u → w.cell? (ad.add (i.toNat * 8 + j)) = some u := hc0
 obtain ⟨A5, c5, A6, c6, rfl, l5, g5, l6, g6⟩ := k115_open hK
 exact ⟨ad, A5, c5, A6, c6, e, hc 0 _ rfl, by rw [← add_field _ _ 1 (by omega)]; exact hc 1 _ rfl, by rw [← add_field _ _ 2 (by omega)]; exact hc 2 _ rfl, by rw [← add_field _ _ 3 (by omega)]; exact hc 3 _ rfl, by rw [← add_field _ _ 4 (by omega)]; exact hc 4 _ rfl, by rw [← add_field _ _ 5 (by omega)]; exact hc 5 _ rfl, by rw [← add_field _ _ 6 (by omega)]; exact hc 6 _ rfl, by rw [← add_field _ _ 7 (by omega)]; exact hc 7 _ rfl, l5, g5, l6, g6⟩

def rd_L32 (xs : List (List S115)) (i : Int) : (List S115) := xs.getD i.toNat ([] : List S115)
theorem at_L32 {w : World} {A : Option Addr} {n : Nat} {xs : List (List S115)} (h : Kd.C (Kd.slice 115 k115) w A n xs) (i : Int) (h0 : 0 ≤ i) (h1 : i < n) : ∃ ad A0 c0, A = some ad ∧ w.cell? (ad.add i.toNat) = some (.slice A0 (rd_L32 xs i).length c0) ∧ (rd_L32 xs i).length ≤ c0 ∧ k115.C w A0 (rd_L32 xs i).length (rd_L32 xs i) := by
 obtain ⟨ad, c, e, _, hK, hc0⟩ := Kd.C_get h ([] : List S115) i h0 h1
 have hc : ∀ j u, c[j]? = some u → w.cell? (ad.add (i.toNat * 1 + j)) = some u := hc0
 obtain ⟨A0, c0, rfl, l0, g0⟩ := hK
 exact ⟨ad, A0, c0, e, by have hq := hc 0 _ rfl; rwa [Nat.mul_one, Nat.add_zero] at hq, l0, g0⟩

def rd_L33 (xs : List (List Int)) (i : Int) : (List Int) := xs.getD i.toNat ([] : List Int)
theorem at_L33 {w : World} {A : Option Addr} {n : Nat} {xs : List (List Int)} (h : Kd.C (Kd.slice 3 (Kd.int .i64)) w A n xs) (i : Int) (h0 : 0 ≤ i) (h1 : i < n) : ∃ ad A0 c0, A = some ad ∧ w.cell? (ad.add i.toNat) = some (.slice A0 (rd_L33 xs i).length c0) ∧ (rd_L33 xs i).length ≤ c0 ∧ (Kd.int .i64).C w A0 (rd_L33 xs i).length (rd_L33 xs i) := by
 obtain ⟨ad, c, e, _, hK, hc0⟩ := Kd.C_get h ([] : List Int) i h0 h1
 have hc : ∀ j u, c[j]? = some u → w.cell? (ad.add (i.toNat * 1 + j)) = some u := hc0
 obtain ⟨A0, c0, rfl, l0, g0⟩ := hK
 exact ⟨ad, A0, c0, e, by have hq := hc 0 _ rfl; rwa [Nat.mul_one, Nat.add_zero] at hq, l0, g0⟩

def rd_L34 (xs : List (List S106)) (i : Int) : (List S106) := xs.getD i.toNat ([] : List S106)
theorem at_L34 {w : World} {A : Option Addr} {n : Nat} {xs : List (List S106)} (h : Kd.C (Kd.slice 106 k106) w A n xs) (i : Int) (h0 : 0 ≤ i) (h1 : i < n) : ∃ ad A0 c0, A = some ad ∧ w.cell? (ad.add i.toNat) = some (.slice A0 (rd_L34 xs i).length c0) ∧ (rd_L34 xs i).length ≤ c0 ∧ k106.C w A0 (rd_L34 xs i).length (rd_L34 xs i) := by
 obtain ⟨ad, c, e, _, hK, hc0⟩ := Kd.C_get h ([] : List S106) i h0 h1
 have hc : ∀ j u, c[j]? = some u → w.cell? (ad.add (i.toNat * 1 + j)) = some u := hc0
 obtain ⟨A0, c0, rfl, l0, g0⟩ := hK
 exact ⟨ad, A0, c0, e, by have hq := hc 0 _ rfl; rwa [Nat.mul_one, Nat.add_zero] at hq, l0, g0⟩

end Go.Proofs.Ytfpkooafbeejmaa.Q
namespace Go.Proofs.Ytfpkooafbeejmaa.Q
open Go.RowKit Go.Proofs.YtfpkooafbeejmaaW.PrintWords
theorem qzA {α : Type} (l : List α) (i : Nat) (a : α) : l.toArray.setIfInBounds i a = (l.set i a).toArray := List.setIfInBounds_toArray l i a
theorem qzB {α : Type} {a b : α} {t : List α} : (a :: t).set 0 b = b :: t := rfl
theorem qzC {α : Type} {a b : α} {t : List α} {n : Nat} : (a :: t).set (n + 1) b = a :: t.set n b := rfl
theorem qbN {B : Nat} {w W : World} (h : Below B w W) (n : Nat) : Below B w (W.drewN n) := pw_below_drewN h n
theorem qbA {w W : World} (h : Below w.heap.size w W) (o : Obj) : Below w.heap.size w (W.alloc o) := below_alloc h o
theorem qbD {base : Nat} {w W : World} (h : Below base w W) : Below base w W.drew := below_drew1 h
theorem qbS {w W : World} {g j : Nat} {v : Value} (h : Below w.heap.size w W) (hg : w.heap.size ≤ g) : Below w.heap.size w (W.setCell ⟨g, j, none⟩ v) := below_set h hg
theorem qO {p : Prop} (h : p) : Aside0 p := ⟨h⟩
theorem qT {p : Prop} [Decidable p] (h : decide p = true) : p := of_decide_eq_true h
theorem qL (w : World) (a : Addr) {v : Value} (h : w.cell? a = some v) : a.block < w.heap.size := World.block_lt_of_cell? w a h
theorem qkN {w : World} {g : Nat} {o : Obj} (h : w.heap[g]? = some o) (n : Nat) : (w.drewN n).heap[g]? = some o := h
theorem qkD {w : World} {g : Nat} {o : Obj} (h : w.heap[g]? = some o) : w.drew.heap[g]? = some o := h
theorem qkA {w : World} {g : Nat} {o : Obj} (h : w.heap[g]? = some o) (o' : Obj) : (w.alloc o').heap[g]? = some o := blk_alloc h o'
theorem qB {Wf W wn : World} {g : Nat} {o : Obj} (h : Wf.heap[g]? = some o) (hx : Below Wf.heap.size Wf W) (hb : Below W.heap.size W wn) : wn.heap[g]? = some o := blk_below (blk_below h hx) hb
theorem qHX {B : Nat} {v Wf W wn : World} (_h : Aside0 (Below B v Wf)) (_hb : Below W.heap.size W wn) (hx : Below Wf.heap.size Wf W) : Below Wf.heap.size Wf W := hx
theorem qrR {α : Type} {d : Kd α} {e : Nat} {w W : World} {base : Nat} {ok : Nat → Prop} {v : Value} {xs : List α} (h : Kd.R d e w base ok v xs) (i : Kd.R d e w base ok v xs → Kd.R d e W base ok v xs := by (intro h_; (with_reducible repeat (first | apply Kd.R_alloc | apply Kd.R_drewN | apply Kd.R_drew)); exact h_)) : Kd.R d e W base ok v xs := i h
theorem qrS {α : Type} {d : Kd α} {e : Nat} {w W : World} {base : Nat} {ok : Nat → Prop} {v : Value} {xs : List α} (h : Kd.S d e w base ok v xs) (i : Kd.S d e w base ok v xs → Kd.S d e W base ok v xs := by (intro h_; (with_reducible repeat (first | apply Kd.S_alloc | apply Kd.S_drewN | apply Kd.S_drew)); exact h_)) : Kd.S d e W base ok v xs := i h
theorem qrN {α : Type} {d : Kd α} {e : Nat} {w W : World} {base : Nat} {ok : Nat → Prop} {v : Value} {xs : List α} (h : Kd.N d e w base ok v xs) (i : Kd.N d e w base ok v xs → Kd.N d e W base ok v xs := by (intro h_; (with_reducible repeat (first | apply Kd.N_alloc | apply Kd.N_drewN | apply Kd.N_drew)); exact h_)) : Kd.N d e W base ok v xs := i h
theorem qrV {α : Type} {d : Kd α} {e : Nat} {w W : World} {base : Nat} {ok : Nat → Prop} {v : Value} {xs : List α} (h : Kd.V d e w base ok v xs) (i : Kd.V d e w base ok v xs → Kd.V d e W base ok v xs := by (intro h_; (with_reducible repeat (first | apply Kd.V_alloc | apply Kd.V_drewN | apply Kd.V_drew)); exact h_)) : Kd.V d e W base ok v xs := i h
theorem qrQ {α : Type} {d : Kd α} {e : Nat} {w W : World} {base : Nat} {ok : Nat → Prop} {v : Value} {xs : List α} (h : Kd.Q d e w base ok v xs) (i : Kd.Q d e w base ok v xs → Kd.Q d e W base ok v xs := by (intro h_; (with_reducible repeat (first | apply Kd.Q_alloc | apply Kd.Q_drewN | apply Kd.Q_drew)); exact h_)) : Kd.Q d e W base ok v xs := i h
theorem qR1 {α : Type} {d : Kd α} {e : Nat} {w : World} {base : Nat} {ok : Nat → Prop} {v : Value} {xs : List α} {g t : Nat} {cells : Array Value} {j0 : Nat} {u0 : Value} (h : Kd.R d e w base ok v xs) (hb : w.heap[g]? = some (.cells cells t (0, 0))) (ht : ∀ q, q ∈ e :: d.E → q ≠ t := by decide) : Kd.R d e (w.setCell ⟨g, j0, none⟩ u0) base ok v xs := Kd.R_mono (Kd.R_far (p := ⟨g, j0, none⟩) (Kd.R_types h hb ht) (fun _ hk => hk.2) u0) (fun _ hk => hk.1)
theorem qR2 {α : Type} {d : Kd α} {e : Nat} {w : World} {base : Nat} {ok : Nat → Prop} {v : Value} {xs : List α} {g t : Nat} {cells : Array Value} {j0 j1 : Nat} {u0 u1 : Value} (h : Kd.R d e w base ok v xs) (hb : w.heap[g]? = some (.cells cells t (0, 0))) (ht : ∀ q, q ∈ e :: d.E → q ≠ t := by decide) : Kd.R d e ((w.setCell ⟨g, j0, none⟩ u0).setCell ⟨g, j1, none⟩ u1) base ok v xs := Kd.R_mono (Kd.R_far (p := ⟨g, j1, none⟩) (Kd.R_far (p := ⟨g, j0, none⟩) (Kd.R_types h hb ht) (fun _ hk => hk.2) u0) (fun _ hk => hk.2) u1) (fun _ hk => hk.1)
theorem qR3 {α : Type} {d : Kd α} {e : Nat} {w : World} {base : Nat} {ok : Nat → Prop} {v : Value} {xs : List α} {g t : Nat} {cells : Array Value} {j0 j1 j2 : Nat} {u0 u1 u2 : Value} (h : Kd.R d e w base ok v xs) (hb : w.heap[g]? = some (.cells cells t (0, 0))) (ht : ∀ q, q ∈ e :: d.E → q ≠ t := by decide) : Kd.R d e (((w.setCell ⟨g, j0, none⟩ u0).setCell ⟨g, j1, none⟩ u1).setCell ⟨g, j2, none⟩ u2) base ok v xs := Kd.R_mono (Kd.R_far (p := ⟨g, j2, none⟩) (Kd.R_far (p := ⟨g, j1, none⟩) (Kd.R_far (p := ⟨g, j0, none⟩) (Kd.R_types h hb ht) (fun _ hk => hk.2) u0) (fun _ hk => hk.2) u1) (fun _ hk => hk.2) u2) (fun _ hk => hk.1)
theorem qS1 {α : Type} {d : Kd α} {e : Nat} {w : World} {base : Nat} {ok : Nat → Prop} {v : Value} {xs : List α} {g t : Nat} {cells : Array Value} {j0 : Nat} {u0 : Value} (h : Kd.S d e w base ok v xs) (hb : w.heap[g]? = some (.cells cells t (0, 0))) (ht : ∀ q, q ∈ e :: d.E → q ≠ t := by decide) : Kd.S d e (w.setCell ⟨g, j0, none⟩ u0) base ok v xs := Kd.S_mono (Kd.S_far (p := ⟨g, j0, none⟩) (Kd.S_types h hb ht) (fun _ hk => hk.2) u0) (fun _ hk => hk.1)
theorem qS2 {α : Type} {d : Kd α} {e : Nat} {w : World} {base : Nat} {ok : Nat → Prop} {v : Value} {xs : List α} {g t : Nat} {cells : Array Value} {j0 j1 : Nat} {u0 u1 : Value} (h : Kd.S d e w base ok v xs) (hb : w.heap[g]? = some (.cells cells t (0, 0))) (ht : ∀ q, q ∈ e :: d.E → q ≠ t := by decide) : Kd.S d e ((w.setCell ⟨g, j0, none⟩ u0).setCell ⟨g, j1, none⟩ u1) base ok v xs := Kd.S_mono (Kd.S_far (p := ⟨g, j1, none⟩) (Kd.S_far (p := ⟨g, j0, none⟩) (Kd.S_types h hb ht) (fun _ hk => hk.2) u0) (fun _ hk => hk.2) u1) (fun _ hk => hk.1)
theorem qS3 {α : Type} {d : Kd α} {e : Nat} {w : World} {base : Nat} {ok : Nat → Prop} {v : Value} {xs : List α} {g t : Nat} {cells : Array Value} {j0 j1 j2 : Nat} {u0 u1 u2 : Value} (h : Kd.S d e w base ok v xs) (hb : w.heap[g]? = some (.cells cells t (0, 0))) (ht : ∀ q, q ∈ e :: d.E → q ≠ t := by decide) : Kd.S d e (((w.setCell ⟨g, j0, none⟩ u0).setCell ⟨g, j1, none⟩ u1).setCell ⟨g, j2, none⟩ u2) base ok v xs := Kd.S_mono (Kd.S_far (p := ⟨g, j2, none⟩) (Kd.S_far (p := ⟨g, j1, none⟩) (Kd.S_far (p := ⟨g, j0, none⟩) (Kd.S_types h hb ht) (fun _ hk => hk.2) u0) (fun _ hk => hk.2) u1) (fun _ hk => hk.2) u2) (fun _ hk => hk.1)
theorem qQ1 {α : Type} {d : Kd α} {e : Nat} {w : World} {base : Nat} {ok : Nat → Prop} {v : Value} {xs : List α} {g t : Nat} {cells : Array Value} {j0 : Nat} {u0 : Value} (h : Kd.Q d e w base ok v xs) (hb : w.heap[g]? = some (.cells cells t (0, 0))) (ht : ∀ q, q ∈ e :: d.E → q ≠ t := by decide) : Kd.Q d e (w.setCell ⟨g, j0, none⟩ u0) base ok v xs := Kd.Q_mono (Kd.Q_far (p := ⟨g, j0, none⟩) (Kd.Q_types h hb ht) (fun _ hk => hk.2) u0) (fun _ hk => hk.1)
theorem qQ2 {α : Type} {d : Kd α} {e : Nat} {w : World} {base : Nat} {ok : Nat → Prop} {v : Value} {xs : List α} {g t : Nat} {cells : Array Value} {j0 j1 : Nat} {u0 u1 : Value} (h : Kd.Q d e w base ok v xs) (hb : w.heap[g]? = some (.cells cells t (0, 0))) (ht : ∀ q, q ∈ e :: d.E → q ≠ t := by decide) : Kd.Q d e ((w.setCell ⟨g, j0, none⟩ u0).setCell ⟨g, j1, none⟩ u1) base ok v xs := Kd.Q_mono (Kd.Q_far (p := ⟨g, j1, none⟩) (Kd.Q_far (p := ⟨g, j0, none⟩) (Kd.Q_types h hb ht) (fun _ hk => hk.2) u0) (fun _ hk => hk.2) u1) (fun _ hk => hk.1)
theorem qQ3 {α : Type} {d : Kd α} {e : Nat} {w : World} {base : Nat} {ok : Nat → Prop} {v : Value} {xs : List α} {g t : Nat} {cells : Array Value} {j0 j1 j2 : Nat} {u0 u1 u2 : Value} (h : Kd.Q d e w base ok v xs) (hb : w.heap[g]? = some (.cells cells t (0, 0))) (ht : ∀ q, q ∈ e :: d.E → q ≠ t := by decide) : Kd.Q d e (((w.setCell ⟨g, j0, none⟩ u0).setCell ⟨g, j1, none⟩ u1).setCell ⟨g, j2, none⟩ u2) base ok v xs := Kd.Q_mono (Kd.Q_far (p := ⟨g, j2, none⟩) (Kd.Q_far (p := ⟨g, j1, none⟩) (Kd.Q_far (p := ⟨g, j0, none⟩) (Kd.Q_types h hb ht) (fun _ hk => hk.2) u0) (fun _ hk => hk.2) u1) (fun _ hk => hk.2) u2) (fun _ hk => hk.1)
theorem qk {w W : World} {g : Nat} {o : Obj} (h : w.heap[g]? = some o) (i : w.heap[g]? = some o → W.heap[g]? = some o := by (intro h_; (with_reducible repeat (first | refine qkN ?_ _ | refine qkD ?_ | refine qkA ?_ _)); exact h_)) : W.heap[g]? = some o := i h
theorem qLt {W : World} {g g2 : Nat} {o : Obj} (hg : g2 = W.heap.size) (h : W.heap[g]? = some o) : g ≠ g2 := by rw [hg]; exact Nat.ne_of_lt (blk_lt h)
theorem qGt {W : World} {g g2 : Nat} {o : Obj} (hg : g2 = W.heap.size) (h : W.heap[g]? = some o) : g2 ≠ g := by rw [hg]; exact Nat.ne_of_gt (blk_lt h)
theorem qH {B : Nat} {w W W' : World} (h : Below B w W) (i : Below B w W → Below B w W' := by (intro h_; repeat (first | (with_reducible first | exact h_ | apply qbA | apply qbN | apply qbD | refine qbS ?_ (Aside0.out (by assumption))) | exact h_))) : Below B w W' := i h
theorem qkC {α : Type} {d : Kd α} {w W : World} {A : Option Addr} {n : Nat} {xs : List α} (h : Kd.C d w A n xs) (i : Kd.C d w A n xs → Kd.C d W A n xs := by (intro h_; repeat (first | exact h_ | with_reducible first | refine Kd.C_alloc ?_ _ | refine Kd.C_drewN ?_ _ | refine Kd.C_drew ?_))) : Kd.C d W A n xs := i h
theorem qa0 {P : Prop} (h : P := by with_reducible repeat (first | refine qbN ?_ _ | refine qbD ?_ | refine qbA ?_ _ | exact Below.refl _ _)) : P := h
theorem qa1 {P : Prop} (h : P := by first | rfl | (simp [errW_none, errW_some] <;> rfl) | (simp [*, errW_none, errW_some] <;> rfl)) : P := h
theorem qa2 {P : Prop} (h : P := by first | (with_reducible assumption) | assumption) : P := h
theorem qa3 {P : Prop} (h : P := by rw [hg]; exact (below_size (below_step HB.out hx_))) : P := h
theorem qa4 {P : Prop} (h : P := by first | rfl | (simp; done) | (simp [*]; done)) : P := h
theorem qa5 {P : Prop} (h : P := by omega) : P := h
theorem qa6 {P : Prop} (h : P := by repeat (first | exact Drawn0.refl _ | apply Drawn0.step)) : P := h
theorem qa7 {P : Prop} (h : P := by (try simp only [List.map_toArray, List.map_cons, List.map_nil]); first | done | rfl) : P := h
theorem qa8 {P : Prop} (h : P := by kernel_rfl) : P := h
theorem qa9 {P : Prop} (h : P := by have := HK1.out; omega) : P := h
theorem qa10 {P : Prop} (h : P := by simp only [Act.put, qzA, qzB, qzC, i64_w, i32_w]; rfl) : P := h
theorem qa11 {P : Prop} (h : P := by intro _ _ _ h_; cases h_) : P := h
theorem qa12 {P : Prop} (h : P := by simp) : P := h
theorem qa13 {P : Prop} (h : P := by first | rfl | go_num | (congr 1; omega)) : P := h
theorem qa14 {P : Prop} (h : P := by intro w'; go_simp; with_reducible rfl) : P := h
theorem qa15 {P : Prop} (h : P := by clear rc; omega) : P := h
theorem qa16 {P : Prop} (h : P := by exact qkC (by repeat (first | (with_reducible exact HR111.out) | (with_reducible refine Kd.C_alloc ?_ _) | (with_reducible refine Kd.C_drewN ?_ _) | (with_reducible refine Kd.C_drew ?_) | exact HR111.out))) : P := h
theorem qa17 {P : Prop} (h : P := by repeat (first | (with_reducible exact HR111.out) | (with_reducible refine Kd.C_alloc ?_ _) | (with_reducible refine Kd.C_drewN ?_ _) | (with_reducible refine Kd.C_drew ?_) | exact HR111.out)) : P := h
theorem qa18 {P : Prop} (h : P := by rw [hw]; exact (qrR (Kd.R_mono (Kd.R_far (p := ⟨gb107, 0, none⟩) (int_apart HO_16.out NEgb107.out) (fun _ hk => hk.2) (.int .i64 ((rd_T115 l0 (rd t102 x18_1)).f3))) (fun _ hk => trivial)))) : P := h
theorem qa19 {P : Prop} (h : P := by rw [hw]; exact (qrR (Kd.R_mono (Kd.R_far (p := ⟨gb107, 0, none⟩) (int_apart HO_5.out NEgb107.out) (fun _ hk => hk.2) (.int .i64 ((rd_T115 l0 (rd t102 x18_1)).f3))) (fun _ hk => trivial)))) : P := h
theorem qa20 {P : Prop} (h : P := by decide) : P := h
theorem qa21 {P : Prop} (h : P := by first | (go_simp; done) | (go_simp; rfl)) : P := h
theorem qa22 {P : Prop} (h : P := by exact qkC (Kd.C_below HR0_3.out HB.out)) : P := h
theorem qa23 {P : Prop} (h : P := by exact qkC (Kd.C_below HR0_0.out HB.out)) : P := h
theorem qa24 {P : Prop} (h : P := by rw [hw]; exact qbS (qbS (qbS (qbS (HB.out) GB10.out) GB10.out) GB10.out) GB10.out) : P := h
theorem qa25 {P : Prop} (h : P := by rw [List.length_map]; omega) : P := h
theorem qa26 {P : Prop} (h : P := by exact qkC (Kd.C_below HR0.out HB.out)) : P := h
theorem qa27 {P : Prop} (h : P := by exact qkC (Kd.C_below HR0_5.out HB.out)) : P := h
theorem qa28 {P : Prop} (h : P := by rw [List.length_append]; omega) : P := h
theorem qa29 {P : Prop} (h : P := by rw [hx]; exact G.2 _ (by omega)) : P := h
theorem qa30 {P : Prop} (h : P := by rw [hy]; exact G.2 _ (by omega)) : P := h
theorem qa31 {P : Prop} (h : P := by exact qkC (Kd.C_below HR101_3.out HB.out)) : P := h
theorem qa32 {P : Prop} (h : P := by exact qkC (Kd.C_below HR101_5.out HB.out)) : P := h
theorem qa33 {P : Prop} (h : P := by clear ra rc; omega) : P := h
theorem qa34 {P : Prop} (h : P := by first | rfl | (congr 1; clear w1; omega)) : P := h
theorem qa35 {P : Prop} (h : P := by clear w1 w3 w4; omega) : P := h
theorem qa36 {P : Prop} (h : P := by rw [HP.out]; show (!ltOf cf d[mid + m - 1 - (i + j) / 2]! d[(i + j) / 2]!) = false; rw [hlv]; rfl) : P := h
theorem qa37 {P : Prop} (h : P := by rw [HP.out]; show (!ltOf cf d[mid + m - 1 - (i + j) / 2]! d[(i + j) / 2]!) = true; rw [hlv]; rfl) : P := h
theorem qa38 {P : Prop} (h : P := by have := HK1.out; have := HK2.out; omega) : P := h
theorem qa39 {P : Prop} (h : P := by rw [← Htx.out, ← Hty.out, ← Hbx.out, ← Hyb.out, ← HV.out]; rfl) : P := h
theorem qa40 {P : Prop} (h : P := by exact qkC (Kd.C_below HR0_4.out HB.out)) : P := h
theorem qa41 {P : Prop} (h : P := by exact qkC (Kd.C_below HR0_6.out HB.out)) : P := h
theorem qa42 {P : Prop} (h : P := by exact qkC (Kd.C_below HR1_3.out HB.out)) : P := h
theorem qa43 {P : Prop} (h : P := by first | omega | exact Nat.le_refl _) : P := h
theorem qa44 {P : Prop} (h : P := by simp; omega) : P := h
theorem qa45 {P : Prop} (h : P := by exact qkC ((Kd.R_reads' HO_3.out).2.2)) : P := h
theorem qa46 {P : Prop} (h : P := by exact qkC ((Kd.R_reads' HO_4.out).2.2)) : P := h
theorem qa47 {P : Prop} (h : P := by clear c3 c4 c5 c6; omega) : P := h
theorem qa48 {P : Prop} (h : P := by clear w1; omega) : P := h
theorem qa49 {P : Prop} (h : P := by exact qkC (Kd.C_below HR1_5.out HB.out)) : P := h
theorem qa50 {P : Prop} (h : P := by exact qkC (Kd.C_below HR1_0.out HB.out)) : P := h
theorem qa51 {P : Prop} (h : P := by clear w1 w3; omega) : P := h
theorem qa52 {P : Prop} (h : P := by rw [List.length_take]; omega) : P := h
theorem qa53 {P : Prop} (h : P := by rw [hw]; exact HP12.2) : P := h
theorem qa54 {P : Prop} (h : P := by exact (Kd.R_reads' HO_3.out).2.1) : P := h
theorem qa55 {P : Prop} (h : P := by exact (Kd.R_reads' HO_4.out).2.1) : P := h
theorem qa56 {P : Prop} (h : P := by exact qkC (Kd.C_below HR101_4.out HB.out)) : P := h
theorem qa57 {P : Prop} (h : P := by exact qkC (Kd.C_below HR101_6.out HB.out)) : P := h
theorem qa58 {P : Prop} (h : P := by exact qkC (Kd.C_below HR102_3.out HB.out)) : P := h
theorem qa59 {P : Prop} (h : P := by exact qkC (Kd.C_below HR102_5.out HB.out)) : P := h
theorem qa60 {P : Prop} (h : P := by clear c3 c4; omega) : P := h
theorem qa61 {P : Prop} (h : P := by exact qkC (Kd.C_below HR0_1.out HB.out)) : P := h
theorem qa62 {P : Prop} (h : P := by rw [hw, Ny109.out]; exact HP12.1) : P := h
theorem qa63 {P : Prop} (h : P := by exact qkC HR0.out) : P := h
theorem qa64 {P : Prop} (h : P := by cases h) : P := h
theorem qPu {P : Program} {ops : Array Oper} {Q : Exit → Act → World → Prop} {md : Region.Mode} {S : World → Prop} {ds : List Nat} (i N : Nat) {oi : Oper} {v : Value} {fuel : Nat} {l : Array Bool} {a : Act} {w : World} (l' : Array Bool) (hi : ops[i]? = some oi) (hN : oi.dst = some N) (hc : Go.Proofs.YtfpkooafbeejmaaW.PrintLast.anyB md ops l l' i = true) (hy : ∀ w, (execOp a.eval oi).run P w = .ok (.value v) w) {a' : Act} (ha : a.put (some N) v = a') (h : Go.Proofs.YtfpkooafbeejmaaW.PrintLast.wpAnyLast P md ops Q S ds fuel l' a' w) (hQ : ∀ c a w, Q (.panic c) (a.put oi.dst v) w → Q (.panic c) a w := by exact fun _ _ _ h => h) (hw : Region.wanted oi (yielded ops a.tmps) = true := by rfl) : Go.Proofs.YtfpkooafbeejmaaW.PrintLast.wpAnyLast P md ops Q S ds (fuel + 1) l a w := Go.Proofs.YtfpkooafbeejmaaW.PrintLast.pure_ l' hi hN hc hQ (.inl ⟨hw, hy⟩) ha h
theorem qTk {P : Program} {ops : Array Oper} {Q : Exit → Act → World → Prop} {md : Region.Mode} {S : World → Prop} {ds : List Nat} (i N : Nat) {oi : Oper} {v : Value} {fuel : Nat} {l : Array Bool} {a : Act} {w : World} (l' : Array Bool) (hi : ops[i]? = some oi) (hN : oi.dst = some N) (hc : Go.Proofs.YtfpkooafbeejmaaW.PrintLast.takeB md ops ds l l' i = true) (hy : ∀ w, S w → (execOp a.eval oi).run P w = .ok (.value v) w) (hS : S w) {a' : Act} (ha : a.put (some N) v = a') (h : Go.Proofs.YtfpkooafbeejmaaW.PrintLast.wpAnyLast P md ops Q S ds fuel l' a' w) (hQ : ∀ c a w, Q (.panic c) (a.put oi.dst v) w → Q (.panic c) a w := by exact fun _ _ _ h => h) (hw : Region.wanted oi (yielded ops a.tmps) = true := by rfl) : Go.Proofs.YtfpkooafbeejmaaW.PrintLast.wpAnyLast P md ops Q S ds (fuel + 1) l a w := Go.Proofs.YtfpkooafbeejmaaW.PrintLast.take_ l' hi hN hc hQ (.inl ⟨hw, hy⟩) hS ha h
theorem qX {P : Program} {ops : Array Oper} {Q : Exit → Act → World → Prop} {o : Oper} {rest : List Oper} {a : Act} {W : World} (N : Tmp) (cs : Array Value) (t : TypeId) (h : ∀ g, g = W.heap.size → ∀ w1, w1.heap[g]? = some (.cells cs t (0, 0)) → Below W.heap.size W w1 → wpList P ops Q rest (a.put o.dst (.pointer (some ⟨g, 0, none⟩))) w1) (hd : o.dst = some N := by rfl) (hgd : o.guard = none := by rfl) (hrun : (execOp a.eval o).run P W = .ok (.value (.pointer (some ⟨W.heap.size, 0, none⟩))) (W.alloc (.cells cs t (0, 0))) := by first | (go_simp; done) | (go_simp; rfl)) : wpList P ops Q (o :: rest) a W := box_event hgd hd hrun h
theorem qc0 {w : World} {g : Nat} {t : TypeId} {x0 : Value} {l : List Value} (h : w.heap[g]? = some (.cells (x0 :: l).toArray t (0, 0))) : w.cell? ⟨g, 0, none⟩ = some x0 := (blk_cell h 0).trans (by simp)
theorem qc1 {w : World} {g : Nat} {t : TypeId} {x0 x1 : Value} {l : List Value} (h : w.heap[g]? = some (.cells (x0 :: x1 :: l).toArray t (0, 0))) : w.cell? ⟨g, 1, none⟩ = some x1 := (blk_cell h 1).trans (by simp)
theorem qc2 {w : World} {g : Nat} {t : TypeId} {x0 x1 x2 : Value} {l : List Value} (h : w.heap[g]? = some (.cells (x0 :: x1 :: x2 :: l).toArray t (0, 0))) : w.cell? ⟨g, 2, none⟩ = some x2 := (blk_cell h 2).trans (by simp)
theorem qc3 {w : World} {g : Nat} {t : TypeId} {x0 x1 x2 x3 : Value} {l : List Value} (h : w.heap[g]? = some (.cells (x0 :: x1 :: x2 :: x3 :: l).toArray t (0, 0))) : w.cell? ⟨g, 3, none⟩ = some x3 := (blk_cell h 3).trans (by simp)
theorem qc4 {w : World} {g : Nat} {t : TypeId} {x0 x1 x2 x3 x4 : Value} {l : List Value} (h : w.heap[g]? = some (.cells (x0 :: x1 :: x2 :: x3 :: x4 :: l).toArray t (0, 0))) : w.cell? ⟨g, 4, none⟩ = some x4 := (blk_cell h 4).trans (by simp)
theorem qc5 {w : World} {g : Nat} {t : TypeId} {x0 x1 x2 x3 x4 x5 : Value} {l : List Value} (h : w.heap[g]? = some (.cells (x0 :: x1 :: x2 :: x3 :: x4 :: x5 :: l).toArray t (0, 0))) : w.cell? ⟨g, 5, none⟩ = some x5 := (blk_cell h 5).trans (by simp)
theorem qb1 {w : World} {g : Nat} {t : TypeId} {x0 : Value} (h : w.heap[g]? = some (.cells #[x0] t (0, 0))) : w.cell? ⟨g, 0, none⟩ = some x0 ∧ w.frozen? ⟨g, 0, none⟩ = false := ⟨qc0 h, blk_frozen h 0⟩
theorem qb2 {w : World} {g : Nat} {t : TypeId} {x0 x1 : Value} (h : w.heap[g]? = some (.cells #[x0, x1] t (0, 0))) : w.cell? ⟨g, 0, none⟩ = some x0 ∧ w.cell? ⟨g, 1, none⟩ = some x1 ∧ w.frozen? ⟨g, 0, none⟩ = false ∧ w.frozen? ⟨g, 1, none⟩ = false := ⟨qc0 h, qc1 h, blk_frozen h 0, blk_frozen h 1⟩
theorem qb3 {w : World} {g : Nat} {t : TypeId} {x0 x1 x2 : Value} (h : w.heap[g]? = some (.cells #[x0, x1, x2] t (0, 0))) : w.cell? ⟨g, 0, none⟩ = some x0 ∧ w.cell? ⟨g, 1, none⟩ = some x1 ∧ w.cell? ⟨g, 2, none⟩ = some x2 ∧ w.frozen? ⟨g, 0, none⟩ = false ∧ w.frozen? ⟨g, 1, none⟩ = false ∧ w.frozen? ⟨g, 2, none⟩ = false := ⟨qc0 h, qc1 h, qc2 h, blk_frozen h 0, blk_frozen h 1, blk_frozen h 2⟩
theorem qb4 {w : World} {g : Nat} {t : TypeId} {x0 x1 x2 x3 : Value} (h : w.heap[g]? = some (.cells #[x0, x1, x2, x3] t (0, 0))) : w.cell? ⟨g, 0, none⟩ = some x0 ∧ w.cell? ⟨g, 1, none⟩ = some x1 ∧ w.cell? ⟨g, 2, none⟩ = some x2 ∧ w.cell? ⟨g, 3, none⟩ = some x3 ∧ w.frozen? ⟨g, 0, none⟩ = false ∧ w.frozen? ⟨g, 1, none⟩ = false ∧ w.frozen? ⟨g, 2, none⟩ = false ∧ w.frozen? ⟨g, 3, none⟩ = false := ⟨qc0 h, qc1 h, qc2 h, qc3 h, blk_frozen h 0, blk_frozen h 1, blk_frozen h 2, blk_frozen h 3⟩
theorem qb5 {w : World} {g : Nat} {t : TypeId} {x0 x1 x2 x3 x4 : Value} (h : w.heap[g]? = some (.cells #[x0, x1, x2, x3, x4] t (0, 0))) : w.cell? ⟨g, 0, none⟩ = some x0 ∧ w.cell? ⟨g, 1, none⟩ = some x1 ∧ w.cell? ⟨g, 2, none⟩ = some x2 ∧ w.cell? ⟨g, 3, none⟩ = some x3 ∧ w.cell? ⟨g, 4, none⟩ = some x4 ∧ w.frozen? ⟨g, 0, none⟩ = false ∧ w.frozen? ⟨g, 1, none⟩ = false ∧ w.frozen? ⟨g, 2, none⟩ = false ∧ w.frozen? ⟨g, 3, none⟩ = false ∧ w.frozen? ⟨g, 4, none⟩ = false := ⟨qc0 h, qc1 h, qc2 h, qc3 h, qc4 h, blk_frozen h 0, blk_frozen h 1, blk_frozen h 2, blk_frozen h 3, blk_frozen h 4⟩
theorem qfn {α : Type} {a b : α} : (if false = true then a else b) = b := if_neg (by decide)
theorem qsb {α β : Type} {v y : α} {f : α → Option β} {r : Option β} (hy : y = v) (H : (some v).bind f = r) : f y = r := by subst hy; exact H
theorem qHy {p q : Prop} {α : Type} {y v : α} (hy : y = v) (H : p) (i : y = v → p → q := by intro h_ H_; first | (rw [h_]; with_reducible exact H_) | (have H2_ := (Option.bind_some _ _).symm.trans H_; rw [h_]; with_reducible exact H2_) | (have H2_ := (Option.bind_some _ _).symm.trans H_; with_reducible exact H2_) | with_reducible exact H_ | (rw [h_]; exact H_) | exact H_) : q := i hy H
theorem qif {c : Prop} [Decidable c] {α : Type} {x : Option α} {r : α} (h : (if c then x else none) = some r) : c ∧ x = some r := by
  by_cases hc : c
  · rw [if_pos hc] at h; exact ⟨hc, h⟩
  · rw [if_neg hc] at h; exact absurd h (by simp)
theorem qU {w : World} {g i : Nat} {t : TypeId} {cs cs' : Array Value} {u : Value} (h : w.heap[g]? = some (.cells cs t (0, 0))) (e : cs.setIfInBounds i u = cs' := by rfl) : (w.setCell ⟨g, i, none⟩ u).heap[g]? = some (.cells cs' t (0, 0)) := blk_put h i u e
theorem qF {w : World} {g g' i : Nat} {t : TypeId} {cs : Array Value} {u : Value} (h : w.heap[g]? = some (.cells cs t (0, 0))) (n : g ≠ g') : (w.setCell ⟨g', i, none⟩ u).heap[g]? = some (.cells cs t (0, 0)) := blk_far h n u
theorem qP {P : Program} {ops : Array Oper} {Q : Exit → Act → World → Prop} {md : Region.Mode} {S : World → Prop} {ds : List Nat} (i N : Nat) {oi : Oper} {v : Value} {fuel : Nat} {l : Array Bool} {a : Act} {w : World} (l' : Array Bool) {a' : Act} (h : Go.Proofs.YtfpkooafbeejmaaW.PrintLast.wpAnyLast P md ops Q S ds fuel l' a' w) (hi : ops[i]? = some oi := by rfl) (hN : oi.dst = some N := by rfl) (hc : Go.Proofs.YtfpkooafbeejmaaW.PrintLast.anyB md ops l l' i = true := by exact any_of HT_.out (by kernel_rfl)) (hy : ∀ w, (execOp a.eval oi).run P w = .ok (.value v) w := by intro w'; go_simp; with_reducible rfl) (ha : a.put (some N) v = a' := by simp only [Act.put, qzA, qzB, qzC, i64_w, i32_w]; rfl) (hQ : ∀ c a w, Q (.panic c) (a.put oi.dst v) w → Q (.panic c) a w := by exact fun _ _ _ h => h) (hw : Region.wanted oi (yielded ops a.tmps) = true := by rfl) : Go.Proofs.YtfpkooafbeejmaaW.PrintLast.wpAnyLast P md ops Q S ds (fuel + 1) l a w := Go.Proofs.YtfpkooafbeejmaaW.PrintLast.pure_ l' hi hN hc hQ (.inl ⟨hw, hy⟩) ha h
theorem qD {P : Program} {ops : Array Oper} {Q : Exit → Act → World → Prop} {md : Region.Mode} {S : World → Prop} {ds : List Nat} (i N : Nat) {oi : Oper} {fuel : Nat} {l : Array Bool} {a : Act} {w : World} (l' : Array Bool) {a' : Act} (h : Go.Proofs.YtfpkooafbeejmaaW.PrintLast.wpAnyLast P md ops Q S ds fuel l' a' w) (hi : ops[i]? = some oi := by rfl) (hN : oi.dst = some N := by rfl) (hc : Go.Proofs.YtfpkooafbeejmaaW.PrintLast.anyB md ops l l' i = true := by exact any_of HT_.out (by kernel_rfl)) (ha : a.put (some N) undef = a' := by simp only [Act.put, qzA, qzB, qzC, i64_w, i32_w]; rfl) (hQ : ∀ c a w, Q (.panic c) (a.put oi.dst undef) w → Q (.panic c) a w := by exact fun _ _ _ h => h) (hw : Region.wanted oi (yielded ops a.tmps) = false := by rfl) : Go.Proofs.YtfpkooafbeejmaaW.PrintLast.wpAnyLast P md ops Q S ds (fuel + 1) l a w := Go.Proofs.YtfpkooafbeejmaaW.PrintLast.pure_ l' hi hN hc hQ (.inr ⟨hw, rfl⟩) ha h
theorem qK1 {P : Program} {ops : Array Oper} {Q : Exit → Act → World → Prop} {md : Region.Mode} {S : World → Prop} {ds : List Nat} (i N : Nat) {oi : Oper} {v : Value} {fuel : Nat} {l : Array Bool} {a : Act} {w : World} (l' : Array Bool) {a' : Act} (h : Go.Proofs.YtfpkooafbeejmaaW.PrintLast.wpAnyLast P md ops Q S ds fuel l' a' w) (hi : ops[i]? = some oi := by rfl) (hN : oi.dst = some N := by rfl) (hc : Go.Proofs.YtfpkooafbeejmaaW.PrintLast.takeB md ops ds l l' i = true := by exact take_ofW HT_.out HW_.out (by kernel_rfl)) (hy : ∀ w, S w → (execOp a.eval oi).run P w = .ok (.value v) w := by rintro w' ⟨s0⟩; go_simp; with_reducible rfl) (hS : S w := by exact hHeld) (ha : a.put (some N) v = a' := by simp only [Act.put, qzA, qzB, qzC, i64_w, i32_w]; rfl) (hQ : ∀ c a w, Q (.panic c) (a.put oi.dst v) w → Q (.panic c) a w := by exact fun _ _ _ h => h) (hw : Region.wanted oi (yielded ops a.tmps) = true := by rfl) : Go.Proofs.YtfpkooafbeejmaaW.PrintLast.wpAnyLast P md ops Q S ds (fuel + 1) l a w := Go.Proofs.YtfpkooafbeejmaaW.PrintLast.take_ l' hi hN hc hQ (.inl ⟨hw, hy⟩) hS ha h
theorem qK2 {P : Program} {ops : Array Oper} {Q : Exit → Act → World → Prop} {md : Region.Mode} {S : World → Prop} {ds : List Nat} (i N : Nat) {oi : Oper} {v : Value} {fuel : Nat} {l : Array Bool} {a : Act} {w : World} (l' : Array Bool) {a' : Act} (h : Go.Proofs.YtfpkooafbeejmaaW.PrintLast.wpAnyLast P md ops Q S ds fuel l' a' w) (hi : ops[i]? = some oi := by rfl) (hN : oi.dst = some N := by rfl) (hc : Go.Proofs.YtfpkooafbeejmaaW.PrintLast.takeB md ops ds l l' i = true := by exact take_ofW HT_.out HW_.out (by kernel_rfl)) (hy : ∀ w, S w → (execOp a.eval oi).run P w = .ok (.value v) w := by rintro w' ⟨s0, s1⟩; go_simp; with_reducible rfl) (hS : S w := by exact hHeld) (ha : a.put (some N) v = a' := by simp only [Act.put, qzA, qzB, qzC, i64_w, i32_w]; rfl) (hQ : ∀ c a w, Q (.panic c) (a.put oi.dst v) w → Q (.panic c) a w := by exact fun _ _ _ h => h) (hw : Region.wanted oi (yielded ops a.tmps) = true := by rfl) : Go.Proofs.YtfpkooafbeejmaaW.PrintLast.wpAnyLast P md ops Q S ds (fuel + 1) l a w := Go.Proofs.YtfpkooafbeejmaaW.PrintLast.take_ l' hi hN hc hQ (.inl ⟨hw, hy⟩) hS ha h
theorem qK3 {P : Program} {ops : Array Oper} {Q : Exit → Act → World → Prop} {md : Region.Mode} {S : World → Prop} {ds : List Nat} (i N : Nat) {oi : Oper} {v : Value} {fuel : Nat} {l : Array Bool} {a : Act} {w : World} (l' : Array Bool) {a' : Act} (h : Go.Proofs.YtfpkooafbeejmaaW.PrintLast.wpAnyLast P md ops Q S ds fuel l' a' w) (hi : ops[i]? = some oi := by rfl) (hN : oi.dst = some N := by rfl) (hc : Go.Proofs.YtfpkooafbeejmaaW.PrintLast.takeB md ops ds l l' i = true := by exact take_ofW HT_.out HW_.out (by kernel_rfl)) (hy : ∀ w, S w → (execOp a.eval oi).run P w = .ok (.value v) w := by rintro w' ⟨s0, s1, s2⟩; go_simp; with_reducible rfl) (hS : S w := by exact hHeld) (ha : a.put (some N) v = a' := by simp only [Act.put, qzA, qzB, qzC, i64_w, i32_w]; rfl) (hQ : ∀ c a w, Q (.panic c) (a.put oi.dst v) w → Q (.panic c) a w := by exact fun _ _ _ h => h) (hw : Region.wanted oi (yielded ops a.tmps) = true := by rfl) : Go.Proofs.YtfpkooafbeejmaaW.PrintLast.wpAnyLast P md ops Q S ds (fuel + 1) l a w := Go.Proofs.YtfpkooafbeejmaaW.PrintLast.take_ l' hi hN hc hQ (.inl ⟨hw, hy⟩) hS ha h
theorem qK4 {P : Program} {ops : Array Oper} {Q : Exit → Act → World → Prop} {md : Region.Mode} {S : World → Prop} {ds : List Nat} (i N : Nat) {oi : Oper} {v : Value} {fuel : Nat} {l : Array Bool} {a : Act} {w : World} (l' : Array Bool) {a' : Act} (h : Go.Proofs.YtfpkooafbeejmaaW.PrintLast.wpAnyLast P md ops Q S ds fuel l' a' w) (hi : ops[i]? = some oi := by rfl) (hN : oi.dst = some N := by rfl) (hc : Go.Proofs.YtfpkooafbeejmaaW.PrintLast.takeB md ops ds l l' i = true := by exact take_ofW HT_.out HW_.out (by kernel_rfl)) (hy : ∀ w, S w → (execOp a.eval oi).run P w = .ok (.value v) w := by rintro w' ⟨s0, s1, s2, s3⟩; go_simp; with_reducible rfl) (hS : S w := by exact hHeld) (ha : a.put (some N) v = a' := by simp only [Act.put, qzA, qzB, qzC, i64_w, i32_w]; rfl) (hQ : ∀ c a w, Q (.panic c) (a.put oi.dst v) w → Q (.panic c) a w := by exact fun _ _ _ h => h) (hw : Region.wanted oi (yielded ops a.tmps) = true := by rfl) : Go.Proofs.YtfpkooafbeejmaaW.PrintLast.wpAnyLast P md ops Q S ds (fuel + 1) l a w := Go.Proofs.YtfpkooafbeejmaaW.PrintLast.take_ l' hi hN hc hQ (.inl ⟨hw, hy⟩) hS ha h
theorem qK5 {P : Program} {ops : Array Oper} {Q : Exit → Act → World → Prop} {md : Region.Mode} {S : World → Prop} {ds : List Nat} (i N : Nat) {oi : Oper} {v : Value} {fuel : Nat} {l : Array Bool} {a : Act} {w : World} (l' : Array Bool) {a' : Act} (h : Go.Proofs.YtfpkooafbeejmaaW.PrintLast.wpAnyLast P md ops Q S ds fuel l' a' w) (hi : ops[i]? = some oi := by rfl) (hN : oi.dst = some N := by rfl) (hc : Go.Proofs.YtfpkooafbeejmaaW.PrintLast.takeB md ops ds l l' i = true := by exact take_ofW HT_.out HW_.out (by kernel_rfl)) (hy : ∀ w, S w → (execOp a.eval oi).run P w = .ok (.value v) w := by rintro w' ⟨s0, s1, s2, s3, s4⟩; go_simp; with_reducible rfl) (hS : S w := by exact hHeld) (ha : a.put (some N) v = a' := by simp only [Act.put, qzA, qzB, qzC, i64_w, i32_w]; rfl) (hQ : ∀ c a w, Q (.panic c) (a.put oi.dst v) w → Q (.panic c) a w := by exact fun _ _ _ h => h) (hw : Region.wanted oi (yielded ops a.tmps) = true := by rfl) : Go.Proofs.YtfpkooafbeejmaaW.PrintLast.wpAnyLast P md ops Q S ds (fuel + 1) l a w := Go.Proofs.YtfpkooafbeejmaaW.PrintLast.take_ l' hi hN hc hQ (.inl ⟨hw, hy⟩) hS ha h
theorem qK6 {P : Program} {ops : Array Oper} {Q : Exit → Act → World → Prop} {md : Region.Mode} {S : World → Prop} {ds : List Nat} (i N : Nat) {oi : Oper} {v : Value} {fuel : Nat} {l : Array Bool} {a : Act} {w : World} (l' : Array Bool) {a' : Act} (h : Go.Proofs.YtfpkooafbeejmaaW.PrintLast.wpAnyLast P md ops Q S ds fuel l' a' w) (hi : ops[i]? = some oi := by rfl) (hN : oi.dst = some N := by rfl) (hc : Go.Proofs.YtfpkooafbeejmaaW.PrintLast.takeB md ops ds l l' i = true := by exact take_ofW HT_.out HW_.out (by kernel_rfl)) (hy : ∀ w, S w → (execOp a.eval oi).run P w = .ok (.value v) w := by rintro w' ⟨s0, s1, s2, s3, s4, s5⟩; go_simp; with_reducible rfl) (hS : S w := by exact hHeld) (ha : a.put (some N) v = a' := by simp only [Act.put, qzA, qzB, qzC, i64_w, i32_w]; rfl) (hQ : ∀ c a w, Q (.panic c) (a.put oi.dst v) w → Q (.panic c) a w := by exact fun _ _ _ h => h) (hw : Region.wanted oi (yielded ops a.tmps) = true := by rfl) : Go.Proofs.YtfpkooafbeejmaaW.PrintLast.wpAnyLast P md ops Q S ds (fuel + 1) l a w := Go.Proofs.YtfpkooafbeejmaaW.PrintLast.take_ l' hi hN hc hQ (.inl ⟨hw, hy⟩) hS ha h
theorem qK7 {P : Program} {ops : Array Oper} {Q : Exit → Act → World → Prop} {md : Region.Mode} {S : World → Prop} {ds : List Nat} (i N : Nat) {oi : Oper} {v : Value} {fuel : Nat} {l : Array Bool} {a : Act} {w : World} (l' : Array Bool) {a' : Act} (h : Go.Proofs.YtfpkooafbeejmaaW.PrintLast.wpAnyLast P md ops Q S ds fuel l' a' w) (hi : ops[i]? = some oi := by rfl) (hN : oi.dst = some N := by rfl) (hc : Go.Proofs.YtfpkooafbeejmaaW.PrintLast.takeB md ops ds l l' i = true := by exact take_ofW HT_.out HW_.out (by kernel_rfl)) (hy : ∀ w, S w → (execOp a.eval oi).run P w = .ok (.value v) w := by rintro w' ⟨s0, s1, s2, s3, s4, s5, s6⟩; go_simp; with_reducible rfl) (hS : S w := by exact hHeld) (ha : a.put (some N) v = a' := by simp only [Act.put, qzA, qzB, qzC, i64_w, i32_w]; rfl) (hQ : ∀ c a w, Q (.panic c) (a.put oi.dst v) w → Q (.panic c) a w := by exact fun _ _ _ h => h) (hw : Region.wanted oi (yielded ops a.tmps) = true := by rfl) : Go.Proofs.YtfpkooafbeejmaaW.PrintLast.wpAnyLast P md ops Q S ds (fuel + 1) l a w := Go.Proofs.YtfpkooafbeejmaaW.PrintLast.take_ l' hi hN hc hQ (.inl ⟨hw, hy⟩) hS ha h
theorem qK8 {P : Program} {ops : Array Oper} {Q : Exit → Act → World → Prop} {md : Region.Mode} {S : World → Prop} {ds : List Nat} (i N : Nat) {oi : Oper} {v : Value} {fuel : Nat} {l : Array Bool} {a : Act} {w : World} (l' : Array Bool) {a' : Act} (h : Go.Proofs.YtfpkooafbeejmaaW.PrintLast.wpAnyLast P md ops Q S ds fuel l' a' w) (hi : ops[i]? = some oi := by rfl) (hN : oi.dst = some N := by rfl) (hc : Go.Proofs.YtfpkooafbeejmaaW.PrintLast.takeB md ops ds l l' i = true := by exact take_ofW HT_.out HW_.out (by kernel_rfl)) (hy : ∀ w, S w → (execOp a.eval oi).run P w = .ok (.value v) w := by rintro w' ⟨s0, s1, s2, s3, s4, s5, s6, s7⟩; go_simp; with_reducible rfl) (hS : S w := by exact hHeld) (ha : a.put (some N) v = a' := by simp only [Act.put, qzA, qzB, qzC, i64_w, i32_w]; rfl) (hQ : ∀ c a w, Q (.panic c) (a.put oi.dst v) w → Q (.panic c) a w := by exact fun _ _ _ h => h) (hw : Region.wanted oi (yielded ops a.tmps) = true := by rfl) : Go.Proofs.YtfpkooafbeejmaaW.PrintLast.wpAnyLast P md ops Q S ds (fuel + 1) l a w := Go.Proofs.YtfpkooafbeejmaaW.PrintLast.take_ l' hi hN hc hQ (.inl ⟨hw, hy⟩) hS ha h
theorem qK9 {P : Program} {ops : Array Oper} {Q : Exit → Act → World → Prop} {md : Region.Mode} {S : World → Prop} {ds : List Nat} (i N : Nat) {oi : Oper} {v : Value} {fuel : Nat} {l : Array Bool} {a : Act} {w : World} (l' : Array Bool) {a' : Act} (h : Go.Proofs.YtfpkooafbeejmaaW.PrintLast.wpAnyLast P md ops Q S ds fuel l' a' w) (hi : ops[i]? = some oi := by rfl) (hN : oi.dst = some N := by rfl) (hc : Go.Proofs.YtfpkooafbeejmaaW.PrintLast.takeB md ops ds l l' i = true := by exact take_ofW HT_.out HW_.out (by kernel_rfl)) (hy : ∀ w, S w → (execOp a.eval oi).run P w = .ok (.value v) w := by rintro w' ⟨s0, s1, s2, s3, s4, s5, s6, s7, s8⟩; go_simp; with_reducible rfl) (hS : S w := by exact hHeld) (ha : a.put (some N) v = a' := by simp only [Act.put, qzA, qzB, qzC, i64_w, i32_w]; rfl) (hQ : ∀ c a w, Q (.panic c) (a.put oi.dst v) w → Q (.panic c) a w := by exact fun _ _ _ h => h) (hw : Region.wanted oi (yielded ops a.tmps) = true := by rfl) : Go.Proofs.YtfpkooafbeejmaaW.PrintLast.wpAnyLast P md ops Q S ds (fuel + 1) l a w := Go.Proofs.YtfpkooafbeejmaaW.PrintLast.take_ l' hi hN hc hQ (.inl ⟨hw, hy⟩) hS ha h
theorem qK10 {P : Program} {ops : Array Oper} {Q : Exit → Act → World → Prop} {md : Region.Mode} {S : World → Prop} {ds : List Nat} (i N : Nat) {oi : Oper} {v : Value} {fuel : Nat} {l : Array Bool} {a : Act} {w : World} (l' : Array Bool) {a' : Act} (h : Go.Proofs.YtfpkooafbeejmaaW.PrintLast.wpAnyLast P md ops Q S ds fuel l' a' w) (hi : ops[i]? = some oi := by rfl) (hN : oi.dst = some N := by rfl) (hc : Go.Proofs.YtfpkooafbeejmaaW.PrintLast.takeB md ops ds l l' i = true := by exact take_ofW HT_.out HW_.out (by kernel_rfl)) (hy : ∀ w, S w → (execOp a.eval oi).run P w = .ok (.value v) w := by rintro w' ⟨s0, s1, s2, s3, s4, s5, s6, s7, s8, s9⟩; go_simp; with_reducible rfl) (hS : S w := by exact hHeld) (ha : a.put (some N) v = a' := by simp only [Act.put, qzA, qzB, qzC, i64_w, i32_w]; rfl) (hQ : ∀ c a w, Q (.panic c) (a.put oi.dst v) w → Q (.panic c) a w := by exact fun _ _ _ h => h) (hw : Region.wanted oi (yielded ops a.tmps) = true := by rfl) : Go.Proofs.YtfpkooafbeejmaaW.PrintLast.wpAnyLast P md ops Q S ds (fuel + 1) l a w := Go.Proofs.YtfpkooafbeejmaaW.PrintLast.take_ l' hi hN hc hQ (.inl ⟨hw, hy⟩) hS ha h
theorem qK11 {P : Program} {ops : Array Oper} {Q : Exit → Act → World → Prop} {md : Region.Mode} {S : World → Prop} {ds : List Nat} (i N : Nat) {oi : Oper} {v : Value} {fuel : Nat} {l : Array Bool} {a : Act} {w : World} (l' : Array Bool) {a' : Act} (h : Go.Proofs.YtfpkooafbeejmaaW.PrintLast.wpAnyLast P md ops Q S ds fuel l' a' w) (hi : ops[i]? = some oi := by rfl) (hN : oi.dst = some N := by rfl) (hc : Go.Proofs.YtfpkooafbeejmaaW.PrintLast.takeB md ops ds l l' i = true := by exact take_ofW HT_.out HW_.out (by kernel_rfl)) (hy : ∀ w, S w → (execOp a.eval oi).run P w = .ok (.value v) w := by rintro w' ⟨s0, s1, s2, s3, s4, s5, s6, s7, s8, s9, s10⟩; go_simp; with_reducible rfl) (hS : S w := by exact hHeld) (ha : a.put (some N) v = a' := by simp only [Act.put, qzA, qzB, qzC, i64_w, i32_w]; rfl) (hQ : ∀ c a w, Q (.panic c) (a.put oi.dst v) w → Q (.panic c) a w := by exact fun _ _ _ h => h) (hw : Region.wanted oi (yielded ops a.tmps) = true := by rfl) : Go.Proofs.YtfpkooafbeejmaaW.PrintLast.wpAnyLast P md ops Q S ds (fuel + 1) l a w := Go.Proofs.YtfpkooafbeejmaaW.PrintLast.take_ l' hi hN hc hQ (.inl ⟨hw, hy⟩) hS ha h
theorem qK12 {P : Program} {ops : Array Oper} {Q : Exit → Act → World → Prop} {md : Region.Mode} {S : World → Prop} {ds : List Nat} (i N : Nat) {oi : Oper} {v : Value} {fuel : Nat} {l : Array Bool} {a : Act} {w : World} (l' : Array Bool) {a' : Act} (h : Go.Proofs.YtfpkooafbeejmaaW.PrintLast.wpAnyLast P md ops Q S ds fuel l' a' w) (hi : ops[i]? = some oi := by rfl) (hN : oi.dst = some N := by rfl) (hc : Go.Proofs.YtfpkooafbeejmaaW.PrintLast.takeB md ops ds l l' i = true := by exact take_ofW HT_.out HW_.out (by kernel_rfl)) (hy : ∀ w, S w → (execOp a.eval oi).run P w = .ok (.value v) w := by rintro w' ⟨s0, s1, s2, s3, s4, s5, s6, s7, s8, s9, s10, s11⟩; go_simp; with_reducible rfl) (hS : S w := by exact hHeld) (ha : a.put (some N) v = a' := by simp only [Act.put, qzA, qzB, qzC, i64_w, i32_w]; rfl) (hQ : ∀ c a w, Q (.panic c) (a.put oi.dst v) w → Q (.panic c) a w := by exact fun _ _ _ h => h) (hw : Region.wanted oi (yielded ops a.tmps) = true := by rfl) : Go.Proofs.YtfpkooafbeejmaaW.PrintLast.wpAnyLast P md ops Q S ds (fuel + 1) l a w := Go.Proofs.YtfpkooafbeejmaaW.PrintLast.take_ l' hi hN hc hQ (.inl ⟨hw, hy⟩) hS ha h
theorem qK13 {P : Program} {ops : Array Oper} {Q : Exit → Act → World → Prop} {md : Region.Mode} {S : World → Prop} {ds : List Nat} (i N : Nat) {oi : Oper} {v : Value} {fuel : Nat} {l : Array Bool} {a : Act} {w : World} (l' : Array Bool) {a' : Act} (h : Go.Proofs.YtfpkooafbeejmaaW.PrintLast.wpAnyLast P md ops Q S ds fuel l' a' w) (hi : ops[i]? = some oi := by rfl) (hN : oi.dst = some N := by rfl) (hc : Go.Proofs.YtfpkooafbeejmaaW.PrintLast.takeB md ops ds l l' i = true := by exact take_ofW HT_.out HW_.out (by kernel_rfl)) (hy : ∀ w, S w → (execOp a.eval oi).run P w = .ok (.value v) w := by rintro w' ⟨s0, s1, s2, s3, s4, s5, s6, s7, s8, s9, s10, s11, s12⟩; go_simp; with_reducible rfl) (hS : S w := by exact hHeld) (ha : a.put (some N) v = a' := by simp only [Act.put, qzA, qzB, qzC, i64_w, i32_w]; rfl) (hQ : ∀ c a w, Q (.panic c) (a.put oi.dst v) w → Q (.panic c) a w := by exact fun _ _ _ h => h) (hw : Region.wanted oi (yielded ops a.tmps) = true := by rfl) : Go.Proofs.YtfpkooafbeejmaaW.PrintLast.wpAnyLast P md ops Q S ds (fuel + 1) l a w := Go.Proofs.YtfpkooafbeejmaaW.PrintLast.take_ l' hi hN hc hQ (.inl ⟨hw, hy⟩) hS ha h
theorem qK14 {P : Program} {ops : Array Oper} {Q : Exit → Act → World → Prop} {md : Region.Mode} {S : World → Prop} {ds : List Nat} (i N : Nat) {oi : Oper} {v : Value} {fuel : Nat} {l : Array Bool} {a : Act} {w : World} (l' : Array Bool) {a' : Act} (h : Go.Proofs.YtfpkooafbeejmaaW.PrintLast.wpAnyLast P md ops Q S ds fuel l' a' w) (hi : ops[i]? = some oi := by rfl) (hN : oi.dst = some N := by rfl) (hc : Go.Proofs.YtfpkooafbeejmaaW.PrintLast.takeB md ops ds l l' i = true := by exact take_ofW HT_.out HW_.out (by kernel_rfl)) (hy : ∀ w, S w → (execOp a.eval oi).run P w = .ok (.value v) w := by rintro w' ⟨s0, s1, s2, s3, s4, s5, s6, s7, s8, s9, s10, s11, s12, s13⟩; go_simp; with_reducible rfl) (hS : S w := by exact hHeld) (ha : a.put (some N) v = a' := by simp only [Act.put, qzA, qzB, qzC, i64_w, i32_w]; rfl) (hQ : ∀ c a w, Q (.panic c) (a.put oi.dst v) w → Q (.panic c) a w := by exact fun _ _ _ h => h) (hw : Region.wanted oi (yielded ops a.tmps) = true := by rfl) : Go.Proofs.YtfpkooafbeejmaaW.PrintLast.wpAnyLast P md ops Q S ds (fuel + 1) l a w := Go.Proofs.YtfpkooafbeejmaaW.PrintLast.take_ l' hi hN hc hQ (.inl ⟨hw, hy⟩) hS ha h
theorem qK15 {P : Program} {ops : Array Oper} {Q : Exit → Act → World → Prop} {md : Region.Mode} {S : World → Prop} {ds : List Nat} (i N : Nat) {oi : Oper} {v : Value} {fuel : Nat} {l : Array Bool} {a : Act} {w : World} (l' : Array Bool) {a' : Act} (h : Go.Proofs.YtfpkooafbeejmaaW.PrintLast.wpAnyLast P md ops Q S ds fuel l' a' w) (hi : ops[i]? = some oi := by rfl) (hN : oi.dst = some N := by rfl) (hc : Go.Proofs.YtfpkooafbeejmaaW.PrintLast.takeB md ops ds l l' i = true := by exact take_ofW HT_.out HW_.out (by kernel_rfl)) (hy : ∀ w, S w → (execOp a.eval oi).run P w = .ok (.value v) w := by rintro w' ⟨s0, s1, s2, s3, s4, s5, s6, s7, s8, s9, s10, s11, s12, s13, s14⟩; go_simp; with_reducible rfl) (hS : S w := by exact hHeld) (ha : a.put (some N) v = a' := by simp only [Act.put, qzA, qzB, qzC, i64_w, i32_w]; rfl) (hQ : ∀ c a w, Q (.panic c) (a.put oi.dst v) w → Q (.panic c) a w := by exact fun _ _ _ h => h) (hw : Region.wanted oi (yielded ops a.tmps) = true := by rfl) : Go.Proofs.YtfpkooafbeejmaaW.PrintLast.wpAnyLast P md ops Q S ds (fuel + 1) l a w := Go.Proofs.YtfpkooafbeejmaaW.PrintLast.take_ l' hi hN hc hQ (.inl ⟨hw, hy⟩) hS ha h
theorem qK16 {P : Program} {ops : Array Oper} {Q : Exit → Act → World → Prop} {md : Region.Mode} {S : World → Prop} {ds : List Nat} (i N : Nat) {oi : Oper} {v : Value} {fuel : Nat} {l : Array Bool} {a : Act} {w : World} (l' : Array Bool) {a' : Act} (h : Go.Proofs.YtfpkooafbeejmaaW.PrintLast.wpAnyLast P md ops Q S ds fuel l' a' w) (hi : ops[i]? = some oi := by rfl) (hN : oi.dst = some N := by rfl) (hc : Go.Proofs.YtfpkooafbeejmaaW.PrintLast.takeB md ops ds l l' i = true := by exact take_ofW HT_.out HW_.out (by kernel_rfl)) (hy : ∀ w, S w → (execOp a.eval oi).run P w = .ok (.value v) w := by rintro w' ⟨s0, s1, s2, s3, s4, s5, s6, s7, s8, s9, s10, s11, s12, s13, s14, s15⟩; go_simp; with_reducible rfl) (hS : S w := by exact hHeld) (ha : a.put (some N) v = a' := by simp only [Act.put, qzA, qzB, qzC, i64_w, i32_w]; rfl) (hQ : ∀ c a w, Q (.panic c) (a.put oi.dst v) w → Q (.panic c) a w := by exact fun _ _ _ h => h) (hw : Region.wanted oi (yielded ops a.tmps) = true := by rfl) : Go.Proofs.YtfpkooafbeejmaaW.PrintLast.wpAnyLast P md ops Q S ds (fuel + 1) l a w := Go.Proofs.YtfpkooafbeejmaaW.PrintLast.take_ l' hi hN hc hQ (.inl ⟨hw, hy⟩) hS ha h
theorem qK17 {P : Program} {ops : Array Oper} {Q : Exit → Act → World → Prop} {md : Region.Mode} {S : World → Prop} {ds : List Nat} (i N : Nat) {oi : Oper} {v : Value} {fuel : Nat} {l : Array Bool} {a : Act} {w : World} (l' : Array Bool) {a' : Act} (h : Go.Proofs.YtfpkooafbeejmaaW.PrintLast.wpAnyLast P md ops Q S ds fuel l' a' w) (hi : ops[i]? = some oi := by rfl) (hN : oi.dst = some N := by rfl) (hc : Go.Proofs.YtfpkooafbeejmaaW.PrintLast.takeB md ops ds l l' i = true := by exact take_ofW HT_.out HW_.out (by kernel_rfl)) (hy : ∀ w, S w → (execOp a.eval oi).run P w = .ok (.value v) w := by rintro w' ⟨s0, s1, s2, s3, s4, s5, s6, s7, s8, s9, s10, s11, s12, s13, s14, s15, s16⟩; go_simp; with_reducible rfl) (hS : S w := by exact hHeld) (ha : a.put (some N) v = a' := by simp only [Act.put, qzA, qzB, qzC, i64_w, i32_w]; rfl) (hQ : ∀ c a w, Q (.panic c) (a.put oi.dst v) w → Q (.panic c) a w := by exact fun _ _ _ h => h) (hw : Region.wanted oi (yielded ops a.tmps) = true := by rfl) : Go.Proofs.YtfpkooafbeejmaaW.PrintLast.wpAnyLast P md ops Q S ds (fuel + 1) l a w := Go.Proofs.YtfpkooafbeejmaaW.PrintLast.take_ l' hi hN hc hQ (.inl ⟨hw, hy⟩) hS ha h
theorem qK18 {P : Program} {ops : Array Oper} {Q : Exit → Act → World → Prop} {md : Region.Mode} {S : World → Prop} {ds : List Nat} (i N : Nat) {oi : Oper} {v : Value} {fuel : Nat} {l : Array Bool} {a : Act} {w : World} (l' : Array Bool) {a' : Act} (h : Go.Proofs.YtfpkooafbeejmaaW.PrintLast.wpAnyLast P md ops Q S ds fuel l' a' w) (hi : ops[i]? = some oi := by rfl) (hN : oi.dst = some N := by rfl) (hc : Go.Proofs.YtfpkooafbeejmaaW.PrintLast.takeB md ops ds l l' i = true := by exact take_ofW HT_.out HW_.out (by kernel_rfl)) (hy : ∀ w, S w → (execOp a.eval oi).run P w = .ok (.value v) w := by rintro w' ⟨s0, s1, s2, s3, s4, s5, s6, s7, s8, s9, s10, s11, s12, s13, s14, s15, s16, s17⟩; go_simp; with_reducible rfl) (hS : S w := by exact hHeld) (ha : a.put (some N) v = a' := by simp only [Act.put, qzA, qzB, qzC, i64_w, i32_w]; rfl) (hQ : ∀ c a w, Q (.panic c) (a.put oi.dst v) w → Q (.panic c) a w := by exact fun _ _ _ h => h) (hw : Region.wanted oi (yielded ops a.tmps) = true := by rfl) : Go.Proofs.YtfpkooafbeejmaaW.PrintLast.wpAnyLast P md ops Q S ds (fuel + 1) l a w := Go.Proofs.YtfpkooafbeejmaaW.PrintLast.take_ l' hi hN hc hQ (.inl ⟨hw, hy⟩) hS ha h
theorem qK19 {P : Program} {ops : Array Oper} {Q : Exit → Act → World → Prop} {md : Region.Mode} {S : World → Prop} {ds : List Nat} (i N : Nat) {oi : Oper} {v : Value} {fuel : Nat} {l : Array Bool} {a : Act} {w : World} (l' : Array Bool) {a' : Act} (h : Go.Proofs.YtfpkooafbeejmaaW.PrintLast.wpAnyLast P md ops Q S ds fuel l' a' w) (hi : ops[i]? = some oi := by rfl) (hN : oi.dst = some N := by rfl) (hc : Go.Proofs.YtfpkooafbeejmaaW.PrintLast.takeB md ops ds l l' i = true := by exact take_ofW HT_.out HW_.out (by kernel_rfl)) (hy : ∀ w, S w → (execOp a.eval oi).run P w = .ok (.value v) w := by rintro w' ⟨s0, s1, s2, s3, s4, s5, s6, s7, s8, s9, s10, s11, s12, s13, s14, s15, s16, s17, s18⟩; go_simp; with_reducible rfl) (hS : S w := by exact hHeld) (ha : a.put (some N) v = a' := by simp only [Act.put, qzA, qzB, qzC, i64_w, i32_w]; rfl) (hQ : ∀ c a w, Q (.panic c) (a.put oi.dst v) w → Q (.panic c) a w := by exact fun _ _ _ h => h) (hw : Region.wanted oi (yielded ops a.tmps) = true := by rfl) : Go.Proofs.YtfpkooafbeejmaaW.PrintLast.wpAnyLast P md ops Q S ds (fuel + 1) l a w := Go.Proofs.YtfpkooafbeejmaaW.PrintLast.take_ l' hi hN hc hQ (.inl ⟨hw, hy⟩) hS ha h
theorem qNm {P : Program} {ops : Array Oper} {Q : Exit → Act → World → Prop} {md : Region.Mode} {S : World → Prop} {ds : List Nat} {fuel : Nat} {l : Array Bool} {a a' : Act} {w : World} (h : Go.Proofs.YtfpkooafbeejmaaW.PrintLast.wpAnyLast P md ops Q S ds fuel l a' w) (ha : a = a' := by first | (show Act.put _ (some _) _ = _; simp only [Act.put, qzA, qzB, qzC, i64_w, i32_w]; rfl) | (show Act.put _ none _ = _; simp only [Act.put, qzA, qzB, qzC, i64_w, i32_w]; rfl)) : Go.Proofs.YtfpkooafbeejmaaW.PrintLast.wpAnyLast P md ops Q S ds fuel l a w := Go.Proofs.YtfpkooafbeejmaaW.PrintLast.norm_ ha h
theorem qNp {P : Program} {ops : Array Oper} {Q : Exit → Act → World → Prop} {md : Region.Mode} {S : World → Prop} {ds : List Nat} {fuel : Nat} {l : Array Bool} {a a' : Act} {w : World} (h : Go.Proofs.YtfpkooafbeejmaaW.PrintLast.wpAnyLast P md ops Q S ds fuel l a' w) (ha : a = a' := by simp only [putAll, Act.put, qzA, qzB, qzC]; rfl) : Go.Proofs.YtfpkooafbeejmaaW.PrintLast.wpAnyLast P md ops Q S ds fuel l a w := Go.Proofs.YtfpkooafbeejmaaW.PrintLast.norm_ ha h
theorem qOn {P : Program} {ops : Array Oper} {Q : Exit → Act → World → Prop} {md : Region.Mode} {S : World → Prop} {ds : List Nat} (i : Nat) (N : Option Tmp) {oi : Oper} {fuel : Nat} {l : Array Bool} {a : Act} {w : World} (l' : Array Bool) (h : ∀ K : Act → World → Prop, Shut (∀ a' w', S w' → (S w' → Go.Proofs.YtfpkooafbeejmaaW.PrintLast.wpAnyLast P md ops Q S ds fuel l' a' w') → K a' w') → if Region.wanted oi (yielded ops a.tmps) = true then Oper.wp P oi a w K Q else K (a.put N undef) w) (hi : ops[i]? = some oi := by rfl) (hN : oi.dst = N := by rfl) (hc : Go.Proofs.YtfpkooafbeejmaaW.PrintLast.readyB md ops l l' i = true := by exact one_of HT_.out (by kernel_rfl)) (hd : i ∉ ds := by decide) : Go.Proofs.YtfpkooafbeejmaaW.PrintLast.wpAnyLast P md ops Q S ds (fuel + 1) l a w := Go.Proofs.YtfpkooafbeejmaaW.PrintLast.one_ l' hi hN hc hd h
theorem qGo {P : Program} {ops : Array Oper} {Q : Exit → Act → World → Prop} {oi : Oper} {N : Option Tmp} {a : Act} {w : World} {K : Act → World → Prop} {f : FuncId} {fn : Func} {as_ : Array Operand} {ts : Array TypeId} (hf : P.funcs[f]? = some fn) (args : Array Value) (h : Calls P f args w fun e w' => ∃ v, e = .returned v ∧ K (a.put N v) w') (hop : oi.op = .call { callee := .value (.func f), args := as_, argTypes := ts } := by rfl) (hname : (fn.name == "runtime.NumGoroutine") = false := by kernel_rfl) (hb : fn.body.isSome = true := by rfl) (hw : Region.wanted oi (yielded ops a.tmps) = true := by rfl) (hN : oi.dst = N := by rfl) (hargs : as_.map a.eval = args := by (try simp only [List.map_toArray, List.map_cons, List.map_nil]); first | done | rfl | (simp only [List.length_drop, List.length_take]; rfl)) : if Region.wanted oi (yielded ops a.tmps) = true then Oper.wp P oi a w K Q else K (a.put N undef) w := Go.Proofs.YtfpkooafbeejmaaW.PrintLast.goes_ hf hname hb args hw hN hop hargs h
theorem qGL {P : Program} {ops : Array Oper} {Q : Exit → Act → World → Prop} {rest : List Oper} {oi : Oper} {a : Act} {w : World} (N : Tmp) {f : FuncId} {fn : Func} {as_ : Array Operand} {ts : Array TypeId} (hf : P.funcs[f]? = some fn) (args : Array Value) (h : Calls P f args w fun e w' => ∃ v, e = .returned v ∧ wpList P ops Q rest (a.put (some N) v) w') (hd : oi.dst = some N := by rfl) (hg : oi.guard = none := by rfl) (hname : (fn.name == "runtime.NumGoroutine") = false := by kernel_rfl) (hb : fn.body.isSome = true := by rfl) (hop : oi.op = .call { callee := .value (.func f), args := as_, argTypes := ts } := by rfl) (hargs : as_.map a.eval = args := by (try simp only [List.map_toArray, List.map_cons, List.map_nil]); first | done | rfl | (simp only [List.length_drop, List.length_take]; rfl)) : wpList P ops Q (oi :: rest) a w := Go.Proofs.YtfpkooafbeejmaaW.PrintLast.goesL_ (some N) hd hg hf hname hb args hop hargs h
theorem qge {a b : Int} (h : a ≥ b) : decide (b ≤ a) = true := decide_eq_true h
theorem qgt {a b : Int} (h : a > b) : decide (b < a) = true := decide_eq_true h
theorem qnge {a b : Int} (h : ¬a ≥ b) : decide (b ≤ a) = false := decide_eq_false h
theorem qngt {a b : Int} (h : ¬a > b) : decide (b < a) = false := decide_eq_false h
theorem qw {w W : World} {p : World → Prop} (hw : w = W) (h : p w) : Aside0 (p W) := ⟨hw ▸ h⟩
theorem qX2 {P : Program} {ops : Array Oper} {Q : Exit → Act → World → Prop} {o : Oper} {a : Act} {Kc : Act → World → Prop} {W : World} (N : Tmp) (cs : Array Value) (t : TypeId) (h : ∀ g, g = W.heap.size → ∀ w1, w1.heap[g]? = some (.cells cs t (0, 0)) → Below W.heap.size W w1 → Kc (a.put o.dst (.pointer (some ⟨g, 0, none⟩))) w1) (hw : Region.wanted o (yielded ops a.tmps) = true := by rfl) (hd : o.dst = some N := by rfl) (hrun : (execOp a.eval o).run P W = .ok (.value (.pointer (some ⟨W.heap.size, 0, none⟩))) (W.alloc (.cells cs t (0, 0))) := by first | (go_simp; done) | (go_simp; rfl)) : if Region.wanted o (yielded ops a.tmps) = true then Oper.wp P o a W Kc Q else Kc (a.put o.dst undef) W := box_step hw hd hrun h
@[reducible] def qt : Bool := true
@[reducible] def qf : Bool := false
end Go.Proofs.Ytfpkooafbeejmaa.Q
namespace Go.Proofs.Ytfpkooafbeejmaa.Q
open Go.RowKit Go.Proofs.YtfpkooafbeejmaaW.PrintWords Go.Proofs.YtfpkooafbeejmaaW.PrintLast Go.Proofs.YtfpkooafbeejmaaW.PrintMore
attribute [local go_sem] max2_int min2_int max_two min_two max_three min_three max_four min_four
set_option linter.unusedVariables false
set_option linter.unusedSimpArgs false
set_option maxHeartbeats 8000000
set_option maxRecDepth 100000
def laws_szValue.f (a0_0 : Int) (a0_1 : Int) (a0_2 : ByteArray) (a1 : Int) : Option (Int) := if (wrap64 (a1 - (a0_2.size : Int))) < 0 then (some (-1)) else (some (wrap64 (a1 - (a0_2.size : Int))))
theorem laws_szValue.calls (a0_0 : Int) (a0_1 : Int) (a0_2 : ByteArray) (a1 : Int) (r : Int) (w : World) (h : laws_szValue.f a0_0 a0_1 a0_2 a1 = some r) :
  Calls Try.prog 16 #[.agg #[.int .i64 a0_0, .int .i64 a0_1, .string a0_2], .int .i64 a1] w fun e w' => e = .returned (.int .i64 r) ∧ Below w.heap.size w w' := by
 have hu30 := Try.underlying30; have HB := qO (Below.refl w.heap.size w); have H : (if (wrap64 (a1 - (a0_2.size : Int))) < 0 then (some (-1)) else (some (wrap64 (a1 - (a0_2.size : Int))))) = some r := h; clear h
 by_cases c3 : (wrap64 (a1 - (a0_2.size : Int))) < 0
 ·rw [if_pos c3] at H
  have c3b0 := decide_eq_true c3; clear c3; obtain rfl := Option.some.inj H
  go_enter Try.func16, Try.ntmps16
  go_wp2_with (first | ((with_reducible refine gate_dst (N := 2) rfl ?_); refine qX 2 #[.int .i64 a0_0, .int .i64 a0_1, .string a0_2] 30 ?_; intro gb101 hg w4 hbox hb; have hx_ := qHX HB hb qa0; have BK101 := qO (hbox); have GW101 := qO ((qa3 : w.heap.size ≤ gb101)); have GE101 := GW101; replace HB := qO (below_step (below_step HB.out hx_) hb); clear hx_ hb hbox hg; obtain ⟨hcz5_0, hcz5_1, hcz5_2, hfz5_0, hfz5_1, hfz5_2⟩ := qb3 BK101.out))
  go_ret
  exact ⟨qa1, qH HB.out⟩
 ·rw [if_neg c3] at H
  have c3b0 := decide_eq_false c3; clear c3; obtain rfl := Option.some.inj H
  go_enter Try.func16, Try.ntmps16
  go_wp2_with (first | ((with_reducible refine gate_dst (N := 2) rfl ?_); refine qX 2 #[.int .i64 a0_0, .int .i64 a0_1, .string a0_2] 30 ?_; intro gb101 hg w6 hbox hb; have hx_ := qHX HB hb qa0; have BK101 := qO (hbox); have GW101 := qO ((qa3 : w.heap.size ≤ gb101)); have GE101 := GW101; replace HB := qO (below_step (below_step HB.out hx_) hb); clear hx_ hb hbox hg; obtain ⟨hcz7_0, hcz7_1, hcz7_2, hfz7_0, hfz7_1, hfz7_2⟩ := qb3 BK101.out))
  go_ret
  exact ⟨qa1, qH HB.out⟩
set_option maxHeartbeats 8000000
set_option maxRecDepth 100000
def laws_szBinding.f (a0_0 : ByteArray) (a0_1 : Int) (a0_2 : Int) (a0_3 : ByteArray) (a1 : Int) : Option (Int) := if (wrap64 (a1 - (a0_0.size : Int))) < 0 then (some (-1)) else ((laws_szValue.f a0_1 a0_2 a0_3 (wrap64 (a1 - (a0_0.size : Int)))).bind fun t102 => (if t102 < 0 then (some (-1)) else (some t102)))
theorem laws_szBinding.calls (a0_0 : ByteArray) (a0_1 : Int) (a0_2 : Int) (a0_3 : ByteArray) (a1 : Int) (r : Int) (w : World) (h : laws_szBinding.f a0_0 a0_1 a0_2 a0_3 a1 = some r) :
  Calls Try.prog 46 #[.agg #[.string a0_0, .int .i64 a0_1, .int .i64 a0_2, .string a0_3], .int .i64 a1] w fun e w' => e = .returned (.int .i64 r) ∧ Below w.heap.size w w' := by
 have hu77 := Try.underlying77; have hu30 := Try.underlying30; have HB := qO (Below.refl w.heap.size w); have H : (if (wrap64 (a1 - (a0_0.size : Int))) < 0 then (some (-1)) else ((laws_szValue.f a0_1 a0_2 a0_3 (wrap64 (a1 - (a0_0.size : Int)))).bind fun t102 => (if t102 < 0 then (some (-1)) else (some t102)))) = some r := h; clear h
 by_cases c3 : (wrap64 (a1 - (a0_0.size : Int))) < 0
 ·rw [if_pos c3] at H
  have c3b0 := decide_eq_true c3; clear c3; obtain rfl := Option.some.inj H
  go_enter Try.func46, Try.ntmps46
  go_wp2_with (first | ((with_reducible refine gate_dst (N := 2) rfl ?_); refine qX 2 #[.string a0_0, .int .i64 a0_1, .int .i64 a0_2, .string a0_3] 77 ?_; intro gb101 hg w4 hbox hb; have hx_ := qHX HB hb qa0; have BK101 := qO (hbox); have GW101 := qO ((qa3 : w.heap.size ≤ gb101)); have GE101 := GW101; replace HB := qO (below_step (below_step HB.out hx_) hb); clear hx_ hb hbox hg; obtain ⟨hcz5_0, hcz5_1, hcz5_2, hcz5_3, hfz5_0, hfz5_1, hfz5_2, hfz5_3⟩ := qb4 BK101.out))
  go_ret
  exact ⟨qa1, qH HB.out⟩
 ·rw [if_neg c3] at H
  have c3b0 := decide_eq_false c3; clear c3; replace H := Option.bind_eq_some_iff.mp H; obtain ⟨t102, A60, H⟩ := H; have A6 := qO A60; clear A60
  by_cases c7 : t102 < 0
  ·rw [if_pos c7] at H
   have c7b0 := decide_eq_true c7; clear c7; obtain rfl := Option.some.inj H
   go_enter Try.func46, Try.ntmps46
   go_wp2_with (first | ((with_reducible refine gate_dst (N := 2) rfl ?_); refine qX 2 #[.string a0_0, .int .i64 a0_1, .int .i64 a0_2, .string a0_3] 77 ?_; intro gb101 hg w8 hbox hb; have hx_ := qHX HB hb qa0; have BK101 := qO (hbox); have GW101 := qO ((qa3 : w.heap.size ≤ gb101)); have GE101 := GW101; replace HB := qO (below_step (below_step HB.out hx_) hb); clear hx_ hb hbox hg; obtain ⟨hcz9_0, hcz9_1, hcz9_2, hcz9_3, hfz9_0, hfz9_1, hfz9_2, hfz9_3⟩ := qb4 BK101.out) | ((with_reducible refine gate_callee (f := 16) rfl ?_); refine qGL 15 Try.func16 #[.agg #[.int .i64 a0_1, .int .i64 a0_2, .string a0_3], .int .i64 (wrap64 (a1 - (a0_0.size : Int)))] ?_; (with_reducible refine (laws_szValue.calls a0_1 a0_2 a0_3 (wrap64 (a1 - (a0_0.size : Int))) t102 _ A6.out).mono ?_); rintro e w10 ⟨rfl, hb⟩; have hx_ := qHX HB hb qa0; refine ⟨_, rfl, ?_⟩; replace BK101 := qO (qB BK101.out hx_ hb); replace HB := qO (below_step (below_step HB.out hx_) hb); clear hx_ hb))
   go_ret
   exact ⟨qa1, qH HB.out⟩
  ·rw [if_neg c7] at H
   have c7b0 := decide_eq_false c7; clear c7; obtain rfl := Option.some.inj H
   go_enter Try.func46, Try.ntmps46
   go_wp2_with (first | ((with_reducible refine gate_dst (N := 2) rfl ?_); refine qX 2 #[.string a0_0, .int .i64 a0_1, .int .i64 a0_2, .string a0_3] 77 ?_; intro gb101 hg w11 hbox hb; have hx_ := qHX HB hb qa0; have BK101 := qO (hbox); have GW101 := qO ((qa3 : w.heap.size ≤ gb101)); have GE101 := GW101; replace HB := qO (below_step (below_step HB.out hx_) hb); clear hx_ hb hbox hg; obtain ⟨hcz12_0, hcz12_1, hcz12_2, hcz12_3, hfz12_0, hfz12_1, hfz12_2, hfz12_3⟩ := qb4 BK101.out) | ((with_reducible refine gate_callee (f := 16) rfl ?_); refine qGL 15 Try.func16 #[.agg #[.int .i64 a0_1, .int .i64 a0_2, .string a0_3], .int .i64 (wrap64 (a1 - (a0_0.size : Int)))] ?_; (with_reducible refine (laws_szValue.calls a0_1 a0_2 a0_3 (wrap64 (a1 - (a0_0.size : Int))) t102 _ A6.out).mono ?_); rintro e w13 ⟨rfl, hb⟩; have hx_ := qHX HB hb qa0; refine ⟨_, rfl, ?_⟩; replace BK101 := qO (qB BK101.out hx_ hb); replace HB := qO (below_step (below_step HB.out hx_) hb); clear hx_ hb))
   go_ret
   exact ⟨qa1, qH HB.out⟩
set_option maxHeartbeats 8000000
set_option maxRecDepth 100000
def laws_szBindingS.l0 : Nat → List (S77) → Int → Int → Option (Int)
 | 0, _, _, _ => none
 | k + 1, x0, x1, x5 => if x5 < (x0.length : Int) then (if 0 ≤ x5 then ((laws_szBinding.f ((rd_T77 x0 x5).f0) ((rd_T77 x0 x5).f1.f0) ((rd_T77 x0 x5).f1.f1) ((rd_T77 x0 x5).f1.f2) x1).bind fun t102 => (if t102 < 0 then (some (-1)) else (laws_szBindingS.l0 k x0 t102 (wrap64 (x5 + 1))))) else (none)) else (some x1)
def laws_szBindingS.f (k : Nat) (l0 : List (S77)) (a1 : Int) : Option (Int) := if (wrap64 (a1 - (l0.length : Int))) < 0 then (some (-1)) else (laws_szBindingS.l0 k l0 (wrap64 (a1 - (l0.length : Int))) 0)
theorem laws_szBindingS.calls (k : Nat) (A0 : Option Addr) (c0 : Nat) (l0 : List (S77)) (a1 : Int) (r : Int) (w : World) (hr0 : Kd.C k77 w A0 l0.length l0) (hc0 : l0.length ≤ c0) (h : laws_szBindingS.f k l0 a1 = some r) :
  Calls Try.prog 11 #[.slice A0 l0.length c0, .int .i64 a1] w fun e w' => e = .returned (.int .i64 r) ∧ Below w.heap.size w w' := by
 have hu77 := Try.underlying77; have HR0 := qO hr0; have HC0 := qO hc0; clear hr0 hc0; have HB := qO (Below.refl w.heap.size w); have H : (if (wrap64 (a1 - (l0.length : Int))) < 0 then (some (-1)) else (laws_szBindingS.l0 k l0 (wrap64 (a1 - (l0.length : Int))) 0)) = some r := h; clear h
 by_cases c3 : (wrap64 (a1 - (l0.length : Int))) < 0
 ·rw [if_pos c3] at H
  have c3b0 := decide_eq_true c3; clear c3; obtain rfl := Option.some.inj H
  go_enter Try.func11, Try.ntmps11
  go_wp2
  go_ret
  exact ⟨qa1, qH HB.out⟩
 ·rw [if_neg c3] at H
  have c3b0 := decide_eq_false c3; clear c3; have H' := qO H; clear H
  go_enter Try.func11, Try.ntmps11
  go_wp2
  go_loopg [1, 5] k (fun kq v1 v5 w' => ∃ (x1_1 : Int) (x5_1 : Int), v1 = .int .i64 x1_1 ∧ v5 = .int .i64 x5_1 ∧ Aside0 (laws_szBindingS.l0 kq l0 x1_1 x5_1 = some r) ∧ Aside0 (kq ≤ k) ∧ Aside0 (Below w.heap.size w w'))
  case atStart => exact ⟨(wrap64 (a1 - (l0.length : Int))), (0), qa4, qa4, H', ⟨Nat.le_refl _⟩, ⟨qH HB.out⟩⟩
  case round =>
   clear H'
   obtain ⟨x1_1, x5_1, rfl, rfl, HA, HK1, HB⟩ := hrel
   cases gk with
   | zero => exact absurd HA.out (by simp [laws_szBindingS.l0])
   | succ k1 =>
    have H := HA.out; clear HA; simp only [laws_szBindingS.l0] at H
    by_cases c4 : x5_1 < (l0.length : Int)
    ·rw [if_pos c4] at H
     have c4b0 := decide_eq_true c4; clear c4
     by_cases c5 : 0 ≤ x5_1
     ·rw [if_pos c5] at H
      have c5b0 := decide_eq_true c5; clear c5; replace H := Option.bind_eq_some_iff.mp H; obtain ⟨t102, A60, H⟩ := H; have A6 := qO A60; clear A60
      by_cases c7 : t102 < 0
      ·rw [if_pos c7] at H
       have c7b0 := decide_eq_true c7; clear c7; obtain rfl := Option.some.inj H; have p101 : 0 ≤ (x5_1 : Int) := qT qa2; have q101 : x5_1 < (l0.length : Int) := qT qa2; obtain ⟨ad101, e101, hx101_0, hx101_1, hx101_2, hx101_3⟩ := at_T77 HR0.out x5_1 p101 q101
       cases e101
       replace hx101_0 := (HB.out.cell (qL w _ hx101_0)).trans hx101_0; replace hx101_1 := (HB.out.cell (qL w _ hx101_1)).trans hx101_1; replace hx101_2 := (HB.out.cell (qL w _ hx101_2)).trans hx101_2; replace hx101_3 := (HB.out.cell (qL w _ hx101_3)).trans hx101_3; replace p101 := eq_true p101; replace q101 := eq_true q101
       go_wp2_with (first | ((with_reducible refine gate_callee (f := 46) rfl ?_); refine qGL 23 Try.func46 #[.agg #[.string ((rd_T77 l0 x5_1).f0), .int .i64 ((rd_T77 l0 x5_1).f1.f0), .int .i64 ((rd_T77 l0 x5_1).f1.f1), .string ((rd_T77 l0 x5_1).f1.f2)], .int .i64 x1_1] ?_; (with_reducible refine (laws_szBinding.calls ((rd_T77 l0 x5_1).f0) ((rd_T77 l0 x5_1).f1.f0) ((rd_T77 l0 x5_1).f1.f1) ((rd_T77 l0 x5_1).f1.f2) x1_1 t102 _ A6.out).mono ?_); rintro e w8 ⟨rfl, hb⟩; have hx_ := qHX HB hb qa0; refine ⟨_, rfl, ?_⟩; replace HB := qO (below_step (below_step HB.out hx_) hb); clear hx_ hb))
       go_ret
       exact ⟨qa1, qH HB.out⟩
      ·rw [if_neg c7] at H
       have c7b0 := decide_eq_false c7; clear c7; have H' := qO H; clear H; have p101 : 0 ≤ (x5_1 : Int) := qT qa2; have q101 : x5_1 < (l0.length : Int) := qT qa2; obtain ⟨ad101, e101, hx101_0, hx101_1, hx101_2, hx101_3⟩ := at_T77 HR0.out x5_1 p101 q101
       cases e101
       replace hx101_0 := (HB.out.cell (qL w _ hx101_0)).trans hx101_0; replace hx101_1 := (HB.out.cell (qL w _ hx101_1)).trans hx101_1; replace hx101_2 := (HB.out.cell (qL w _ hx101_2)).trans hx101_2; replace hx101_3 := (HB.out.cell (qL w _ hx101_3)).trans hx101_3; replace p101 := eq_true p101; replace q101 := eq_true q101
       go_wp2_with (first | ((with_reducible refine gate_callee (f := 46) rfl ?_); refine qGL 23 Try.func46 #[.agg #[.string ((rd_T77 l0 x5_1).f0), .int .i64 ((rd_T77 l0 x5_1).f1.f0), .int .i64 ((rd_T77 l0 x5_1).f1.f1), .string ((rd_T77 l0 x5_1).f1.f2)], .int .i64 x1_1] ?_; (with_reducible refine (laws_szBinding.calls ((rd_T77 l0 x5_1).f0) ((rd_T77 l0 x5_1).f1.f0) ((rd_T77 l0 x5_1).f1.f1) ((rd_T77 l0 x5_1).f1.f2) x1_1 t102 _ A6.out).mono ?_); rintro e w9 ⟨rfl, hb⟩; have hx_ := qHX HB hb qa0; refine ⟨_, rfl, ?_⟩; replace HB := qO (below_step (below_step HB.out hx_) hb); clear hx_ hb))
       go_roundg k1
       case measure => have := HK1.out; omega
       case rel => exact ⟨(t102), (wrap64 (x5_1 + 1)), qa4, qa4, H', ⟨qa9⟩, ⟨qH HB.out⟩⟩
     ·rw [if_neg c5] at H
      exact absurd H qa12
    ·rw [if_neg c4] at H
     have c4b0 := decide_eq_false c4; clear c4; obtain rfl := Option.some.inj H; go_wp2
     go_ret
     exact ⟨qa1, qH HB.out⟩
set_option maxHeartbeats 8000000
set_option maxRecDepth 100000
def laws_szArg.f (a0_0 : ByteArray) (a0_1 : Int) (a0_2 : Int) (a0_3 : ByteArray) (a1 : Int) : Option (Int) := if (wrap64 (a1 - (a0_0.size : Int))) < 0 then (some (-1)) else ((laws_szValue.f a0_1 a0_2 a0_3 (wrap64 (a1 - (a0_0.size : Int)))).bind fun t102 => (if t102 < 0 then (some (-1)) else (some t102)))
theorem laws_szArg.calls (a0_0 : ByteArray) (a0_1 : Int) (a0_2 : Int) (a0_3 : ByteArray) (a1 : Int) (r : Int) (w : World) (h : laws_szArg.f a0_0 a0_1 a0_2 a0_3 a1 = some r) :
  Calls Try.prog 162 #[.agg #[.string a0_0, .int .i64 a0_1, .int .i64 a0_2, .string a0_3], .int .i64 a1] w fun e w' => e = .returned (.int .i64 r) ∧ Below w.heap.size w w' := by
 have hu204 := Try.underlying204; have hu30 := Try.underlying30; have HB := qO (Below.refl w.heap.size w); have H : (if (wrap64 (a1 - (a0_0.size : Int))) < 0 then (some (-1)) else ((laws_szValue.f a0_1 a0_2 a0_3 (wrap64 (a1 - (a0_0.size : Int)))).bind fun t102 => (if t102 < 0 then (some (-1)) else (some t102)))) = some r := h; clear h
 by_cases c3 : (wrap64 (a1 - (a0_0.size : Int))) < 0
 ·rw [if_pos c3] at H
  have c3b0 := decide_eq_true c3; clear c3; obtain rfl := Option.some.inj H
  go_enter Try.func162, Try.ntmps162
  go_wp2_with (first | ((with_reducible refine gate_dst (N := 2) rfl ?_); refine qX 2 #[.string a0_0, .int .i64 a0_1, .int .i64 a0_2, .string a0_3] 204 ?_; intro gb101 hg w4 hbox hb; have hx_ := qHX HB hb qa0; have BK101 := qO (hbox); have GW101 := qO ((qa3 : w.heap.size ≤ gb101)); have GE101 := GW101; replace HB := qO (below_step (below_step HB.out hx_) hb); clear hx_ hb hbox hg; obtain ⟨hcz5_0, hcz5_1, hcz5_2, hcz5_3, hfz5_0, hfz5_1, hfz5_2, hfz5_3⟩ := qb4 BK101.out))
  go_ret
  exact ⟨qa1, qH HB.out⟩
 ·rw [if_neg c3] at H
  have c3b0 := decide_eq_false c3; clear c3; replace H := Option.bind_eq_some_iff.mp H; obtain ⟨t102, A60, H⟩ := H; have A6 := qO A60; clear A60
  by_cases c7 : t102 < 0
  ·rw [if_pos c7] at H
   have c7b0 := decide_eq_true c7; clear c7; obtain rfl := Option.some.inj H
   go_enter Try.func162, Try.ntmps162
   go_wp2_with (first | ((with_reducible refine gate_dst (N := 2) rfl ?_); refine qX 2 #[.string a0_0, .int .i64 a0_1, .int .i64 a0_2, .string a0_3] 204 ?_; intro gb101 hg w8 hbox hb; have hx_ := qHX HB hb qa0; have BK101 := qO (hbox); have GW101 := qO ((qa3 : w.heap.size ≤ gb101)); have GE101 := GW101; replace HB := qO (below_step (below_step HB.out hx_) hb); clear hx_ hb hbox hg; obtain ⟨hcz9_0, hcz9_1, hcz9_2, hcz9_3, hfz9_0, hfz9_1, hfz9_2, hfz9_3⟩ := qb4 BK101.out) | ((with_reducible refine gate_callee (f := 16) rfl ?_); refine qGL 15 Try.func16 #[.agg #[.int .i64 a0_1, .int .i64 a0_2, .string a0_3], .int .i64 (wrap64 (a1 - (a0_0.size : Int)))] ?_; (with_reducible refine (laws_szValue.calls a0_1 a0_2 a0_3 (wrap64 (a1 - (a0_0.size : Int))) t102 _ A6.out).mono ?_); rintro e w10 ⟨rfl, hb⟩; have hx_ := qHX HB hb qa0; refine ⟨_, rfl, ?_⟩; replace BK101 := qO (qB BK101.out hx_ hb); replace HB := qO (below_step (below_step HB.out hx_) hb); clear hx_ hb))
   go_ret
   exact ⟨qa1, qH HB.out⟩
  ·rw [if_neg c7] at H
   have c7b0 := decide_eq_false c7; clear c7; obtain rfl := Option.some.inj H
   go_enter Try.func162, Try.ntmps162
   go_wp2_with (first | ((with_reducible refine gate_dst (N := 2) rfl ?_); refine qX 2 #[.string a0_0, .int .i64 a0_1, .int .i64 a0_2, .string a0_3] 204 ?_; intro gb101 hg w11 hbox hb; have hx_ := qHX HB hb qa0; have BK101 := qO (hbox); have GW101 := qO ((qa3 : w.heap.size ≤ gb101)); have GE101 := GW101; replace HB := qO (below_step (below_step HB.out hx_) hb); clear hx_ hb hbox hg; obtain ⟨hcz12_0, hcz12_1, hcz12_2, hcz12_3, hfz12_0, hfz12_1, hfz12_2, hfz12_3⟩ := qb4 BK101.out) | ((with_reducible refine gate_callee (f := 16) rfl ?_); refine qGL 15 Try.func16 #[.agg #[.int .i64 a0_1, .int .i64 a0_2, .string a0_3], .int .i64 (wrap64 (a1 - (a0_0.size : Int)))] ?_; (with_reducible refine (laws_szValue.calls a0_1 a0_2 a0_3 (wrap64 (a1 - (a0_0.size : Int))) t102 _ A6.out).mono ?_); rintro e w13 ⟨rfl, hb⟩; have hx_ := qHX HB hb qa0; refine ⟨_, rfl, ?_⟩; replace BK101 := qO (qB BK101.out hx_ hb); replace HB := qO (below_step (below_step HB.out hx_) hb); clear hx_ hb))
   go_ret
   exact ⟨qa1, qH HB.out⟩
set_option maxHeartbeats 8000000
set_option maxRecDepth 100000
def laws_szArgS.l0 : Nat → List (S204) → Int → Int → Option (Int)
 | 0, _, _, _ => none
 | k + 1, x0, x1, x5 => if x5 < (x0.length : Int) then (if 0 ≤ x5 then ((laws_szArg.f ((rd_T204 x0 x5).f0) ((rd_T204 x0 x5).f1.f0) ((rd_T204 x0 x5).f1.f1) ((rd_T204 x0 x5).f1.f2) x1).bind fun t102 => (if t102 < 0 then (some (-1)) else (laws_szArgS.l0 k x0 t102 (wrap64 (x5 + 1))))) else (none)) else (some x1)
def laws_szArgS.f (k : Nat) (l0 : List (S204)) (a1 : Int) : Option (Int) := if (wrap64 (a1 - (l0.length : Int))) < 0 then (some (-1)) else (laws_szArgS.l0 k l0 (wrap64 (a1 - (l0.length : Int))) 0)
theorem laws_szArgS.calls (k : Nat) (A0 : Option Addr) (c0 : Nat) (l0 : List (S204)) (a1 : Int) (r : Int) (w : World) (hr0 : Kd.C k204 w A0 l0.length l0) (hc0 : l0.length ≤ c0) (h : laws_szArgS.f k l0 a1 = some r) :
  Calls Try.prog 156 #[.slice A0 l0.length c0, .int .i64 a1] w fun e w' => e = .returned (.int .i64 r) ∧ Below w.heap.size w w' := by
 have hu204 := Try.underlying204; have HR0 := qO hr0; have HC0 := qO hc0; clear hr0 hc0; have HB := qO (Below.refl w.heap.size w); have H : (if (wrap64 (a1 - (l0.length : Int))) < 0 then (some (-1)) else (laws_szArgS.l0 k l0 (wrap64 (a1 - (l0.length : Int))) 0)) = some r := h; clear h
 by_cases c3 : (wrap64 (a1 - (l0.length : Int))) < 0
 ·rw [if_pos c3] at H
  have c3b0 := decide_eq_true c3; clear c3; obtain rfl := Option.some.inj H
  go_enter Try.func156, Try.ntmps156
  go_wp2
  go_ret
  exact ⟨qa1, qH HB.out⟩
 ·rw [if_neg c3] at H
  have c3b0 := decide_eq_false c3; clear c3; have H' := qO H; clear H
  go_enter Try.func156, Try.ntmps156
  go_wp2
  go_loopg [1, 5] k (fun kq v1 v5 w' => ∃ (x1_1 : Int) (x5_1 : Int), v1 = .int .i64 x1_1 ∧ v5 = .int .i64 x5_1 ∧ Aside0 (laws_szArgS.l0 kq l0 x1_1 x5_1 = some r) ∧ Aside0 (kq ≤ k) ∧ Aside0 (Below w.heap.size w w'))
  case atStart => exact ⟨(wrap64 (a1 - (l0.length : Int))), (0), qa4, qa4, H', ⟨Nat.le_refl _⟩, ⟨qH HB.out⟩⟩
  case round =>
   clear H'
   obtain ⟨x1_1, x5_1, rfl, rfl, HA, HK1, HB⟩ := hrel
   cases gk with
   | zero => exact absurd HA.out (by simp [laws_szArgS.l0])
   | succ k1 =>
    have H := HA.out; clear HA; simp only [laws_szArgS.l0] at H
    by_cases c4 : x5_1 < (l0.length : Int)
    ·rw [if_pos c4] at H
     have c4b0 := decide_eq_true c4; clear c4
     by_cases c5 : 0 ≤ x5_1
     ·rw [if_pos c5] at H
      have c5b0 := decide_eq_true c5; clear c5; replace H := Option.bind_eq_some_iff.mp H; obtain ⟨t102, A60, H⟩ := H; have A6 := qO A60; clear A60
      by_cases c7 : t102 < 0
      ·rw [if_pos c7] at H
       have c7b0 := decide_eq_true c7; clear c7; obtain rfl := Option.some.inj H; have p101 : 0 ≤ (x5_1 : Int) := qT qa2; have q101 : x5_1 < (l0.length : Int) := qT qa2; obtain ⟨ad101, e101, hx101_0, hx101_1, hx101_2, hx101_3⟩ := at_T204 HR0.out x5_1 p101 q101
       cases e101
       replace hx101_0 := (HB.out.cell (qL w _ hx101_0)).trans hx101_0; replace hx101_1 := (HB.out.cell (qL w _ hx101_1)).trans hx101_1; replace hx101_2 := (HB.out.cell (qL w _ hx101_2)).trans hx101_2; replace hx101_3 := (HB.out.cell (qL w _ hx101_3)).trans hx101_3; replace p101 := eq_true p101; replace q101 := eq_true q101
       go_wp2_with (first | ((with_reducible refine gate_callee (f := 162) rfl ?_); refine qGL 23 Try.func162 #[.agg #[.string ((rd_T204 l0 x5_1).f0), .int .i64 ((rd_T204 l0 x5_1).f1.f0), .int .i64 ((rd_T204 l0 x5_1).f1.f1), .string ((rd_T204 l0 x5_1).f1.f2)], .int .i64 x1_1] ?_; (with_reducible refine (laws_szArg.calls ((rd_T204 l0 x5_1).f0) ((rd_T204 l0 x5_1).f1.f0) ((rd_T204 l0 x5_1).f1.f1) ((rd_T204 l0 x5_1).f1.f2) x1_1 t102 _ A6.out).mono ?_); rintro e w8 ⟨rfl, hb⟩; have hx_ := qHX HB hb qa0; refine ⟨_, rfl, ?_⟩; replace HB := qO (below_step (below_step HB.out hx_) hb); clear hx_ hb))
       go_ret
       exact ⟨qa1, qH HB.out⟩
      ·rw [if_neg c7] at H
       have c7b0 := decide_eq_false c7; clear c7; have H' := qO H; clear H; have p101 : 0 ≤ (x5_1 : Int) := qT qa2; have q101 : x5_1 < (l0.length : Int) := qT qa2; obtain ⟨ad101, e101, hx101_0, hx101_1, hx101_2, hx101_3⟩ := at_T204 HR0.out x5_1 p101 q101
       cases e101
       replace hx101_0 := (HB.out.cell (qL w _ hx101_0)).trans hx101_0; replace hx101_1 := (HB.out.cell (qL w _ hx101_1)).trans hx101_1; replace hx101_2 := (HB.out.cell (qL w _ hx101_2)).trans hx101_2; replace hx101_3 := (HB.out.cell (qL w _ hx101_3)).trans hx101_3; replace p101 := eq_true p101; replace q101 := eq_true q101
       go_wp2_with (first | ((with_reducible refine gate_callee (f := 162) rfl ?_); refine qGL 23 Try.func162 #[.agg #[.string ((rd_T204 l0 x5_1).f0), .int .i64 ((rd_T204 l0 x5_1).f1.f0), .int .i64 ((rd_T204 l0 x5_1).f1.f1), .string ((rd_T204 l0 x5_1).f1.f2)], .int .i64 x1_1] ?_; (with_reducible refine (laws_szArg.calls ((rd_T204 l0 x5_1).f0) ((rd_T204 l0 x5_1).f1.f0) ((rd_T204 l0 x5_1).f1.f1) ((rd_T204 l0 x5_1).f1.f2) x1_1 t102 _ A6.out).mono ?_); rintro e w9 ⟨rfl, hb⟩; have hx_ := qHX HB hb qa0; refine ⟨_, rfl, ?_⟩; replace HB := qO (below_step (below_step HB.out hx_) hb); clear hx_ hb))
       go_roundg k1
       case measure => have := HK1.out; omega
       case rel => exact ⟨(t102), (wrap64 (x5_1 + 1)), qa4, qa4, H', ⟨qa9⟩, ⟨qH HB.out⟩⟩
     ·rw [if_neg c5] at H
      exact absurd H qa12
    ·rw [if_neg c4] at H
     have c4b0 := decide_eq_false c4; clear c4; obtain rfl := Option.some.inj H; go_wp2
     go_ret
     exact ⟨qa1, qH HB.out⟩
set_option maxHeartbeats 8000000
set_option maxRecDepth 100000
def laws_szDir.f (a0_0 : Bool) (a0_1 : Int) (a0_2 : Int) (a0_3 : ByteArray) (a1 : Int) : Option (Int) := (laws_szValue.f a0_1 a0_2 a0_3 a1).bind fun t102 => (if t102 < 0 then (some (-1)) else (some t102))
theorem laws_szDir.calls (a0_0 : Bool) (a0_1 : Int) (a0_2 : Int) (a0_3 : ByteArray) (a1 : Int) (r : Int) (w : World) (h : laws_szDir.f a0_0 a0_1 a0_2 a0_3 a1 = some r) :
  Calls Try.prog 163 #[.agg #[.bool a0_0, .int .i64 a0_1, .int .i64 a0_2, .string a0_3], .int .i64 a1] w fun e w' => e = .returned (.int .i64 r) ∧ Below w.heap.size w w' := by
 have hu207 := Try.underlying207; have hu30 := Try.underlying30; have HB := qO (Below.refl w.heap.size w); have H : ((laws_szValue.f a0_1 a0_2 a0_3 a1).bind fun t102 => (if t102 < 0 then (some (-1)) else (some t102))) = some r := h; clear h; replace H := Option.bind_eq_some_iff.mp H; obtain ⟨t102, A30, H⟩ := H; have A3 := qO A30; clear A30
 by_cases c4 : t102 < 0
 ·rw [if_pos c4] at H
  have c4b0 := decide_eq_true c4; clear c4; obtain rfl := Option.some.inj H
  go_enter Try.func163, Try.ntmps163
  go_wp2_with (first | ((with_reducible refine gate_dst (N := 2) rfl ?_); refine qX 2 #[.bool a0_0, .int .i64 a0_1, .int .i64 a0_2, .string a0_3] 207 ?_; intro gb101 hg w5 hbox hb; have hx_ := qHX HB hb qa0; have BK101 := qO (hbox); have GW101 := qO ((qa3 : w.heap.size ≤ gb101)); have GE101 := GW101; replace HB := qO (below_step (below_step HB.out hx_) hb); clear hx_ hb hbox hg; obtain ⟨hcz6_0, hcz6_1, hcz6_2, hcz6_3, hfz6_0, hfz6_1, hfz6_2, hfz6_3⟩ := qb4 BK101.out) | ((with_reducible refine gate_callee (f := 16) rfl ?_); refine qGL 8 Try.func16 #[.agg #[.int .i64 a0_1, .int .i64 a0_2, .string a0_3], .int .i64 a1] ?_; (with_reducible refine (laws_szValue.calls a0_1 a0_2 a0_3 a1 t102 _ A3.out).mono ?_); rintro e w7 ⟨rfl, hb⟩; have hx_ := qHX HB hb qa0; refine ⟨_, rfl, ?_⟩; replace BK101 := qO (qB BK101.out hx_ hb); replace HB := qO (below_step (below_step HB.out hx_) hb); clear hx_ hb))
  go_ret
  exact ⟨qa1, qH HB.out⟩
 ·rw [if_neg c4] at H
  have c4b0 := decide_eq_false c4; clear c4; obtain rfl := Option.some.inj H
  go_enter Try.func163, Try.ntmps163
  go_wp2_with (first | ((with_reducible refine gate_dst (N := 2) rfl ?_); refine qX 2 #[.bool a0_0, .int .i64 a0_1, .int .i64 a0_2, .string a0_3] 207 ?_; intro gb101 hg w8 hbox hb; have hx_ := qHX HB hb qa0; have BK101 := qO (hbox); have GW101 := qO ((qa3 : w.heap.size ≤ gb101)); have GE101 := GW101; replace HB := qO (below_step (below_step HB.out hx_) hb); clear hx_ hb hbox hg; obtain ⟨hcz9_0, hcz9_1, hcz9_2, hcz9_3, hfz9_0, hfz9_1, hfz9_2, hfz9_3⟩ := qb4 BK101.out) | ((with_reducible refine gate_callee (f := 16) rfl ?_); refine qGL 8 Try.func16 #[.agg #[.int .i64 a0_1, .int .i64 a0_2, .string a0_3], .int .i64 a1] ?_; (with_reducible refine (laws_szValue.calls a0_1 a0_2 a0_3 a1 t102 _ A3.out).mono ?_); rintro e w10 ⟨rfl, hb⟩; have hx_ := qHX HB hb qa0; refine ⟨_, rfl, ?_⟩; replace BK101 := qO (qB BK101.out hx_ hb); replace HB := qO (below_step (below_step HB.out hx_) hb); clear hx_ hb))
  go_ret
  exact ⟨qa1, qH HB.out⟩
set_option maxHeartbeats 8000000
set_option maxRecDepth 100000
def laws_szDirS.l0 : Nat → List (S207) → Int → Int → Option (Int)
 | 0, _, _, _ => none
 | k + 1, x0, x1, x5 => if x5 < (x0.length : Int) then (if 0 ≤ x5 then ((laws_szDir.f ((rd_T207 x0 x5).f0) ((rd_T207 x0 x5).f1.f0) ((rd_T207 x0 x5).f1.f1) ((rd_T207 x0 x5).f1.f2) x1).bind fun t102 => (if t102 < 0 then (some (-1)) else (laws_szDirS.l0 k x0 t102 (wrap64 (x5 + 1))))) else (none)) else (some x1)
def laws_szDirS.f (k : Nat) (l0 : List (S207)) (a1 : Int) : Option (Int) := if (wrap64 (a1 - (l0.length : Int))) < 0 then (some (-1)) else (laws_szDirS.l0 k l0 (wrap64 (a1 - (l0.length : Int))) 0)
theorem laws_szDirS.calls (k : Nat) (A0 : Option Addr) (c0 : Nat) (l0 : List (S207)) (a1 : Int) (r : Int) (w : World) (hr0 : Kd.C k207 w A0 l0.length l0) (hc0 : l0.length ≤ c0) (h : laws_szDirS.f k l0 a1 = some r) :
  Calls Try.prog 157 #[.slice A0 l0.length c0, .int .i64 a1] w fun e w' => e = .returned (.int .i64 r) ∧ Below w.heap.size w w' := by
 have hu207 := Try.underlying207; have HR0 := qO hr0; have HC0 := qO hc0; clear hr0 hc0; have HB := qO (Below.refl w.heap.size w); have H : (if (wrap64 (a1 - (l0.length : Int))) < 0 then (some (-1)) else (laws_szDirS.l0 k l0 (wrap64 (a1 - (l0.length : Int))) 0)) = some r := h; clear h
 by_cases c3 : (wrap64 (a1 - (l0.length : Int))) < 0
 ·rw [if_pos c3] at H
  have c3b0 := decide_eq_true c3; clear c3; obtain rfl := Option.some.inj H
  go_enter Try.func157, Try.ntmps157
  go_wp2
  go_ret
  exact ⟨qa1, qH HB.out⟩
 ·rw [if_neg c3] at H
  have c3b0 := decide_eq_false c3; clear c3; have H' := qO H; clear H
  go_enter Try.func157, Try.ntmps157
  go_wp2
  go_loopg [1, 5] k (fun kq v1 v5 w' => ∃ (x1_1 : Int) (x5_1 : Int), v1 = .int .i64 x1_1 ∧ v5 = .int .i64 x5_1 ∧ Aside0 (laws_szDirS.l0 kq l0 x1_1 x5_1 = some r) ∧ Aside0 (kq ≤ k) ∧ Aside0 (Below w.heap.size w w'))
  case atStart => exact ⟨(wrap64 (a1 - (l0.length : Int))), (0), qa4, qa4, H', ⟨Nat.le_refl _⟩, ⟨qH HB.out⟩⟩
  case round =>
   clear H'
   obtain ⟨x1_1, x5_1, rfl, rfl, HA, HK1, HB⟩ := hrel
   cases gk with
   | zero => exact absurd HA.out (by simp [laws_szDirS.l0])
   | succ k1 =>
    have H := HA.out; clear HA; simp only [laws_szDirS.l0] at H
    by_cases c4 : x5_1 < (l0.length : Int)
    ·rw [if_pos c4] at H
     have c4b0 := decide_eq_true c4; clear c4
     by_cases c5 : 0 ≤ x5_1
     ·rw [if_pos c5] at H
      have c5b0 := decide_eq_true c5; clear c5; replace H := Option.bind_eq_some_iff.mp H; obtain ⟨t102, A60, H⟩ := H; have A6 := qO A60; clear A60
      by_cases c7 : t102 < 0
      ·rw [if_pos c7] at H
       have c7b0 := decide_eq_true c7; clear c7; obtain rfl := Option.some.inj H; have p101 : 0 ≤ (x5_1 : Int) := qT qa2; have q101 : x5_1 < (l0.length : Int) := qT qa2; obtain ⟨ad101, e101, hx101_0, hx101_1, hx101_2, hx101_3⟩ := at_T207 HR0.out x5_1 p101 q101
       cases e101
       replace hx101_0 := (HB.out.cell (qL w _ hx101_0)).trans hx101_0; replace hx101_1 := (HB.out.cell (qL w _ hx101_1)).trans hx101_1; replace hx101_2 := (HB.out.cell (qL w _ hx101_2)).trans hx101_2; replace hx101_3 := (HB.out.cell (qL w _ hx101_3)).trans hx101_3; replace p101 := eq_true p101; replace q101 := eq_true q101
       go_wp2_with (first | ((with_reducible refine gate_callee (f := 163) rfl ?_); refine qGL 23 Try.func163 #[.agg #[.bool ((rd_T207 l0 x5_1).f0), .int .i64 ((rd_T207 l0 x5_1).f1.f0), .int .i64 ((rd_T207 l0 x5_1).f1.f1), .string ((rd_T207 l0 x5_1).f1.f2)], .int .i64 x1_1] ?_; (with_reducible refine (laws_szDir.calls ((rd_T207 l0 x5_1).f0) ((rd_T207 l0 x5_1).f1.f0) ((rd_T207 l0 x5_1).f1.f1) ((rd_T207 l0 x5_1).f1.f2) x1_1 t102 _ A6.out).mono ?_); rintro e w8 ⟨rfl, hb⟩; have hx_ := qHX HB hb qa0; refine ⟨_, rfl, ?_⟩; replace HB := qO (below_step (below_step HB.out hx_) hb); clear hx_ hb))
       go_ret
       exact ⟨qa1, qH HB.out⟩
      ·rw [if_neg c7] at H
       have c7b0 := decide_eq_false c7; clear c7; have H' := qO H; clear H; have p101 : 0 ≤ (x5_1 : Int) := qT qa2; have q101 : x5_1 < (l0.length : Int) := qT qa2; obtain ⟨ad101, e101, hx101_0, hx101_1, hx101_2, hx101_3⟩ := at_T207 HR0.out x5_1 p101 q101
       cases e101
       replace hx101_0 := (HB.out.cell (qL w _ hx101_0)).trans hx101_0; replace hx101_1 := (HB.out.cell (qL w _ hx101_1)).trans hx101_1; replace hx101_2 := (HB.out.cell (qL w _ hx101_2)).trans hx101_2; replace hx101_3 := (HB.out.cell (qL w _ hx101_3)).trans hx101_3; replace p101 := eq_true p101; replace q101 := eq_true q101
       go_wp2_with (first | ((with_reducible refine gate_callee (f := 163) rfl ?_); refine qGL 23 Try.func163 #[.agg #[.bool ((rd_T207 l0 x5_1).f0), .int .i64 ((rd_T207 l0 x5_1).f1.f0), .int .i64 ((rd_T207 l0 x5_1).f1.f1), .string ((rd_T207 l0 x5_1).f1.f2)], .int .i64 x1_1] ?_; (with_reducible refine (laws_szDir.calls ((rd_T207 l0 x5_1).f0) ((rd_T207 l0 x5_1).f1.f0) ((rd_T207 l0 x5_1).f1.f1) ((rd_T207 l0 x5_1).f1.f2) x1_1 t102 _ A6.out).mono ?_); rintro e w9 ⟨rfl, hb⟩; have hx_ := qHX HB hb qa0; refine ⟨_, rfl, ?_⟩; replace HB := qO (below_step (below_step HB.out hx_) hb); clear hx_ hb))
       go_roundg k1
       case measure => have := HK1.out; omega
       case rel => exact ⟨(t102), (wrap64 (x5_1 + 1)), qa4, qa4, H', ⟨qa9⟩, ⟨qH HB.out⟩⟩
     ·rw [if_neg c5] at H
      exact absurd H qa12
    ·rw [if_neg c4] at H
     have c4b0 := decide_eq_false c4; clear c4; obtain rfl := Option.some.inj H; go_wp2
     go_ret
     exact ⟨qa1, qH HB.out⟩
set_option maxHeartbeats 8000000
set_option maxRecDepth 100000
mutual
def laws_szSelS.l0 : Nat → List (S194) → Int → Int → Option (Int)
 | 0, _, _, _ => none
 | k + 1, x0, x1, x5 => if x5 < (x0.length : Int) then (if 0 ≤ x5 then ((laws_szSel.f k ((rd_T194 x0 x5).f0) ((rd_T194 x0 x5).f1) ((rd_T194 x0 x5).f2) ((rd_T194 x0 x5).f3) ((rd_T194 x0 x5).f4) ((rd_T194 x0 x5).f5) x1).bind fun t102 => (if t102 < 0 then (some (-1)) else (laws_szSelS.l0 k x0 t102 (wrap64 (x5 + 1))))) else (none)) else (some x1)
def laws_szSelS.f : Nat → List (S194) → Int → Option (Int)
 | 0, _, _ => none
 | k + 1, l0, a1 => if (wrap64 (a1 - (l0.length : Int))) < 0 then (some (-1)) else (laws_szSelS.l0 k l0 (wrap64 (a1 - (l0.length : Int))) 0)
def laws_szSel.f : Nat → Int → ByteArray → ByteArray → List (S204) → List (S207) → List (S194) → Int → Option (Int)
 | 0, _, _, _, _, _, _, _ => none
 | k + 1, a0_0, a0_1, a0_2, l0_3, l0_4, l0_5, a1 => if (wrap64 (a1 - (a0_1.size : Int))) < 0 then (some (-1)) else (if (wrap64 ((wrap64 (a1 - (a0_1.size : Int))) - (a0_2.size : Int))) < 0 then (some (-1)) else ((laws_szArgS.f k l0_3 (wrap64 ((wrap64 (a1 - (a0_1.size : Int))) - (a0_2.size : Int)))).bind fun t102 => (if t102 < 0 then (some (-1)) else ((laws_szDirS.f k l0_4 t102).bind fun t103 => (if t103 < 0 then (some (-1)) else ((laws_szSelS.f k l0_5 t103).bind fun t104 => (if t104 < 0 then (some (-1)) else (some t104))))))))
end
theorem laws_szSelS.calls_of (k : Nat) (ih149 : ∀ j_, j_ < k → ∀ (A0 : Option Addr) (c0 : Nat) (l0 : List (S194)) (a1 : Int) (r : Int) (w : World) (hr0 : Kd.C k194 w A0 l0.length l0) (hc0 : l0.length ≤ c0) (h : laws_szSelS.f j_ l0 a1 = some r),
  Calls Try.prog 149 #[.slice A0 l0.length c0, .int .i64 a1] w fun e w' => e = .returned (.int .i64 r) ∧ Below w.heap.size w w') (ih153 : ∀ j_, j_ < k → ∀ (a0_0 : Int) (a0_1 : ByteArray) (a0_2 : ByteArray) (A0_3 : Option Addr) (c0_3 : Nat) (l0_3 : List (S204)) (A0_4 : Option Addr) (c0_4 : Nat) (l0_4 : List (S207)) (A0_5 : Option Addr) (c0_5 : Nat) (l0_5 : List (S194)) (a1 : Int) (r : Int) (w : World) (hr0_3 : Kd.C k204 w A0_3 l0_3.length l0_3) (hc0_3 : l0_3.length ≤ c0_3) (hr0_4 : Kd.C k207 w A0_4 l0_4.length l0_4) (hc0_4 : l0_4.length ≤ c0_4) (hr0_5 : Kd.C k194 w A0_5 l0_5.length l0_5) (hc0_5 : l0_5.length ≤ c0_5) (h : laws_szSel.f j_ a0_0 a0_1 a0_2 l0_3 l0_4 l0_5 a1 = some r),
  Calls Try.prog 153 #[.agg #[.int .i64 a0_0, .string a0_1, .string a0_2, .slice A0_3 l0_3.length c0_3, .slice A0_4 l0_4.length c0_4, .slice A0_5 l0_5.length c0_5], .int .i64 a1] w fun e w' => e = .returned (.int .i64 r) ∧ Below w.heap.size w w') : ∀ (A0 : Option Addr) (c0 : Nat) (l0 : List (S194)) (a1 : Int) (r : Int) (w : World) (hr0 : Kd.C k194 w A0 l0.length l0) (hc0 : l0.length ≤ c0) (h : laws_szSelS.f k l0 a1 = some r),
  Calls Try.prog 149 #[.slice A0 l0.length c0, .int .i64 a1] w fun e w' => e = .returned (.int .i64 r) ∧ Below w.heap.size w w' := by
 intro A0 c0 l0 a1 r w hr0 hc0 h
 cases k with
 | zero => exact absurd h (by simp [laws_szSelS.f])
 | succ k =>
 simp only [laws_szSelS.f] at h; have hu194 := Try.underlying194; have HR0 := qO hr0; have HC0 := qO hc0; clear hr0 hc0; have HB := qO (Below.refl w.heap.size w); have H : (if (wrap64 (a1 - (l0.length : Int))) < 0 then (some (-1)) else (laws_szSelS.l0 k l0 (wrap64 (a1 - (l0.length : Int))) 0)) = some r := h; clear h
 by_cases c3 : (wrap64 (a1 - (l0.length : Int))) < 0
 ·rw [if_pos c3] at H
  have c3b0 := decide_eq_true c3; clear c3; obtain rfl := Option.some.inj H
  go_enter Try.func149, Try.ntmps149
  go_wp2
  go_ret
  exact ⟨qa1, qH HB.out⟩
 ·rw [if_neg c3] at H
  have c3b0 := decide_eq_false c3; clear c3; have H' := qO H; clear H
  go_enter Try.func149, Try.ntmps149
  go_wp2
  go_loopg [1, 5] k (fun kq v1 v5 w' => ∃ (x1_1 : Int) (x5_1 : Int), v1 = .int .i64 x1_1 ∧ v5 = .int .i64 x5_1 ∧ Aside0 (laws_szSelS.l0 kq l0 x1_1 x5_1 = some r) ∧ Aside0 (kq ≤ k) ∧ Aside0 (Below w.heap.size w w'))
  case atStart => exact ⟨(wrap64 (a1 - (l0.length : Int))), (0), qa4, qa4, H', ⟨Nat.le_refl _⟩, ⟨qH HB.out⟩⟩
  case round =>
   clear H'
   obtain ⟨x1_1, x5_1, rfl, rfl, HA, HK1, HB⟩ := hrel
   cases gk with
   | zero => exact absurd HA.out (by simp [laws_szSelS.l0])
   | succ k1 =>
    have H := HA.out; clear HA; simp only [laws_szSelS.l0] at H
    by_cases c4 : x5_1 < (l0.length : Int)
    ·rw [if_pos c4] at H
     have c4b0 := decide_eq_true c4; clear c4
     by_cases c5 : 0 ≤ x5_1
     ·rw [if_pos c5] at H
      have c5b0 := decide_eq_true c5; clear c5; replace H := Option.bind_eq_some_iff.mp H; obtain ⟨t102, A60, H⟩ := H; have A6 := qO A60; clear A60
      by_cases c7 : t102 < 0
      ·rw [if_pos c7] at H
       have c7b0 := decide_eq_true c7; clear c7; obtain rfl := Option.some.inj H; have p101 : 0 ≤ (x5_1 : Int) := qT qa2; have q101 : x5_1 < (l0.length : Int) := qT qa2; obtain ⟨ad101, A101_3, c101_3, A101_4, c101_4, A101_5, c101_5, e101, hx101_0, hx101_1, hx101_2, hx101_3, hx101_4, hx101_5, hl101_3, hi101_3, hl101_4, hi101_4, hl101_5, hi101_5⟩ := at_T194 HR0.out x5_1 p101 q101
       cases e101
       replace hx101_0 := (HB.out.cell (qL w _ hx101_0)).trans hx101_0; replace hx101_1 := (HB.out.cell (qL w _ hx101_1)).trans hx101_1; replace hx101_2 := (HB.out.cell (qL w _ hx101_2)).trans hx101_2; replace hx101_3 := (HB.out.cell (qL w _ hx101_3)).trans hx101_3; replace hx101_4 := (HB.out.cell (qL w _ hx101_4)).trans hx101_4; replace hx101_5 := (HB.out.cell (qL w _ hx101_5)).trans hx101_5; have HR101_3 := qO hi101_3; have HC101_3 := qO hl101_3; clear hi101_3 hl101_3; have HR101_4 := qO hi101_4; have HC101_4 := qO hl101_4; clear hi101_4 hl101_4; have HR101_5 := qO hi101_5; have HC101_5 := qO hl101_5; clear hi101_5 hl101_5; replace p101 := eq_true p101; replace q101 := eq_true q101
       go_wp2_with (first | ((with_reducible refine gate_callee (f := 153) rfl ?_); refine qGL 23 Try.func153 #[.agg #[.int .i64 ((rd_T194 l0 x5_1).f0), .string ((rd_T194 l0 x5_1).f1), .string ((rd_T194 l0 x5_1).f2), .slice A101_3 ((rd_T194 l0 x5_1).f3).length c101_3, .slice A101_4 ((rd_T194 l0 x5_1).f4).length c101_4, .slice A101_5 ((rd_T194 l0 x5_1).f5).length c101_5], .int .i64 x1_1] ?_; (with_reducible refine (ih153 k1 qa9 ((rd_T194 l0 x5_1).f0) ((rd_T194 l0 x5_1).f1) ((rd_T194 l0 x5_1).f2) _ _ ((rd_T194 l0 x5_1).f3) _ _ ((rd_T194 l0 x5_1).f4) _ _ ((rd_T194 l0 x5_1).f5) x1_1 t102 _ ?side1 ?side2 ?side3 ?side4 ?side5 ?side6 A6.out).mono ?_); (case side1 => exact qa31); (case side2 => exact HC101_3.out); (case side3 => exact qa56); (case side4 => exact HC101_4.out); (case side5 => exact qa32); (case side6 => exact HC101_5.out); rintro e w8 ⟨rfl, hb⟩; have hx_ := qHX HB hb qa0; refine ⟨_, rfl, ?_⟩; replace HB := qO (below_step (below_step HB.out hx_) hb); clear hx_ hb))
       go_ret
       exact ⟨qa1, qH HB.out⟩
      ·rw [if_neg c7] at H
       have c7b0 := decide_eq_false c7; clear c7; have H' := qO H; clear H; have p101 : 0 ≤ (x5_1 : Int) := qT qa2; have q101 : x5_1 < (l0.length : Int) := qT qa2; obtain ⟨ad101, A101_3, c101_3, A101_4, c101_4, A101_5, c101_5, e101, hx101_0, hx101_1, hx101_2, hx101_3, hx101_4, hx101_5, hl101_3, hi101_3, hl101_4, hi101_4, hl101_5, hi101_5⟩ := at_T194 HR0.out x5_1 p101 q101
       cases e101
       replace hx101_0 := (HB.out.cell (qL w _ hx101_0)).trans hx101_0; replace hx101_1 := (HB.out.cell (qL w _ hx101_1)).trans hx101_1; replace hx101_2 := (HB.out.cell (qL w _ hx101_2)).trans hx101_2; replace hx101_3 := (HB.out.cell (qL w _ hx101_3)).trans hx101_3; replace hx101_4 := (HB.out.cell (qL w _ hx101_4)).trans hx101_4; replace hx101_5 := (HB.out.cell (qL w _ hx101_5)).trans hx101_5; have HR101_3 := qO hi101_3; have HC101_3 := qO hl101_3; clear hi101_3 hl101_3; have HR101_4 := qO hi101_4; have HC101_4 := qO hl101_4; clear hi101_4 hl101_4; have HR101_5 := qO hi101_5; have HC101_5 := qO hl101_5; clear hi101_5 hl101_5; replace p101 := eq_true p101; replace q101 := eq_true q101
       go_wp2_with (first | ((with_reducible refine gate_callee (f := 153) rfl ?_); refine qGL 23 Try.func153 #[.agg #[.int .i64 ((rd_T194 l0 x5_1).f0), .string ((rd_T194 l0 x5_1).f1), .string ((rd_T194 l0 x5_1).f2), .slice A101_3 ((rd_T194 l0 x5_1).f3).length c101_3, .slice A101_4 ((rd_T194 l0 x5_1).f4).length c101_4, .slice A101_5 ((rd_T194 l0 x5_1).f5).length c101_5], .int .i64 x1_1] ?_; (with_reducible refine (ih153 k1 qa9 ((rd_T194 l0 x5_1).f0) ((rd_T194 l0 x5_1).f1) ((rd_T194 l0 x5_1).f2) _ _ ((rd_T194 l0 x5_1).f3) _ _ ((rd_T194 l0 x5_1).f4) _ _ ((rd_T194 l0 x5_1).f5) x1_1 t102 _ ?side1 ?side2 ?side3 ?side4 ?side5 ?side6 A6.out).mono ?_); (case side1 => exact qa31); (case side2 => exact HC101_3.out); (case side3 => exact qa56); (case side4 => exact HC101_4.out); (case side5 => exact qa32); (case side6 => exact HC101_5.out); rintro e w9 ⟨rfl, hb⟩; have hx_ := qHX HB hb qa0; refine ⟨_, rfl, ?_⟩; replace HB := qO (below_step (below_step HB.out hx_) hb); clear hx_ hb))
       go_roundg k1
       case measure => have := HK1.out; omega
       case rel => exact ⟨(t102), (wrap64 (x5_1 + 1)), qa4, qa4, H', ⟨qa9⟩, ⟨qH HB.out⟩⟩
     ·rw [if_neg c5] at H
      exact absurd H qa12
    ·rw [if_neg c4] at H
     have c4b0 := decide_eq_false c4; clear c4; obtain rfl := Option.some.inj H; go_wp2
     go_ret
     exact ⟨qa1, qH HB.out⟩
theorem laws_szSel.calls_of (k : Nat) (ih149 : ∀ j_, j_ < k → ∀ (A0 : Option Addr) (c0 : Nat) (l0 : List (S194)) (a1 : Int) (r : Int) (w : World) (hr0 : Kd.C k194 w A0 l0.length l0) (hc0 : l0.length ≤ c0) (h : laws_szSelS.f j_ l0 a1 = some r),
  Calls Try.prog 149 #[.slice A0 l0.length c0, .int .i64 a1] w fun e w' => e = .returned (.int .i64 r) ∧ Below w.heap.size w w') (ih153 : ∀ j_, j_ < k → ∀ (a0_0 : Int) (a0_1 : ByteArray) (a0_2 : ByteArray) (A0_3 : Option Addr) (c0_3 : Nat) (l0_3 : List (S204)) (A0_4 : Option Addr) (c0_4 : Nat) (l0_4 : List (S207)) (A0_5 : Option Addr) (c0_5 : Nat) (l0_5 : List (S194)) (a1 : Int) (r : Int) (w : World) (hr0_3 : Kd.C k204 w A0_3 l0_3.length l0_3) (hc0_3 : l0_3.length ≤ c0_3) (hr0_4 : Kd.C k207 w A0_4 l0_4.length l0_4) (hc0_4 : l0_4.length ≤ c0_4) (hr0_5 : Kd.C k194 w A0_5 l0_5.length l0_5) (hc0_5 : l0_5.length ≤ c0_5) (h : laws_szSel.f j_ a0_0 a0_1 a0_2 l0_3 l0_4 l0_5 a1 = some r),
  Calls Try.prog 153 #[.agg #[.int .i64 a0_0, .string a0_1, .string a0_2, .slice A0_3 l0_3.length c0_3, .slice A0_4 l0_4.length c0_4, .slice A0_5 l0_5.length c0_5], .int .i64 a1] w fun e w' => e = .returned (.int .i64 r) ∧ Below w.heap.size w w') : ∀ (a0_0 : Int) (a0_1 : ByteArray) (a0_2 : ByteArray) (A0_3 : Option Addr) (c0_3 : Nat) (l0_3 : List (S204)) (A0_4 : Option Addr) (c0_4 : Nat) (l0_4 : List (S207)) (A0_5 : Option Addr) (c0_5 : Nat) (l0_5 : List (S194)) (a1 : Int) (r : Int) (w : World) (hr0_3 : Kd.C k204 w A0_3 l0_3.length l0_3) (hc0_3 : l0_3.length ≤ c0_3) (hr0_4 : Kd.C k207 w A0_4 l0_4.length l0_4) (hc0_4 : l0_4.length ≤ c0_4) (hr0_5 : Kd.C k194 w A0_5 l0_5.length l0_5) (hc0_5 : l0_5.length ≤ c0_5) (h : laws_szSel.f k a0_0 a0_1 a0_2 l0_3 l0_4 l0_5 a1 = some r),
  Calls Try.prog 153 #[.agg #[.int .i64 a0_0, .string a0_1, .string a0_2, .slice A0_3 l0_3.length c0_3, .slice A0_4 l0_4.length c0_4, .slice A0_5 l0_5.length c0_5], .int .i64 a1] w fun e w' => e = .returned (.int .i64 r) ∧ Below w.heap.size w w' := by
 intro a0_0 a0_1 a0_2 A0_3 c0_3 l0_3 A0_4 c0_4 l0_4 A0_5 c0_5 l0_5 a1 r w hr0_3 hc0_3 hr0_4 hc0_4 hr0_5 hc0_5 h
 cases k with
 | zero => exact absurd h (by simp [laws_szSel.f])
 | succ k =>
 simp only [laws_szSel.f] at h; have hu194 := Try.underlying194; have HR0_3 := qO hr0_3; have HC0_3 := qO hc0_3; clear hr0_3 hc0_3; have HR0_4 := qO hr0_4; have HC0_4 := qO hc0_4; clear hr0_4 hc0_4; have HR0_5 := qO hr0_5; have HC0_5 := qO hc0_5; clear hr0_5 hc0_5; have HB := qO (Below.refl w.heap.size w); have H : (if (wrap64 (a1 - (a0_1.size : Int))) < 0 then (some (-1)) else (if (wrap64 ((wrap64 (a1 - (a0_1.size : Int))) - (a0_2.size : Int))) < 0 then (some (-1)) else ((laws_szArgS.f k l0_3 (wrap64 ((wrap64 (a1 - (a0_1.size : Int))) - (a0_2.size : Int)))).bind fun t102 => (if t102 < 0 then (some (-1)) else ((laws_szDirS.f k l0_4 t102).bind fun t103 => (if t103 < 0 then (some (-1)) else ((laws_szSelS.f k l0_5 t103).bind fun t104 => (if t104 < 0 then (some (-1)) else (some t104))))))))) = some r := h; clear h
 by_cases c3 : (wrap64 (a1 - (a0_1.size : Int))) < 0
 ·rw [if_pos c3] at H
  have c3b0 := decide_eq_true c3; clear c3; obtain rfl := Option.some.inj H
  go_enter Try.func153, Try.ntmps153
  go_wp2_with (first | ((with_reducible refine gate_dst (N := 2) rfl ?_); refine qX 2 #[.int .i64 a0_0, .string a0_1, .string a0_2, .slice A0_3 l0_3.length c0_3, .slice A0_4 l0_4.length c0_4, .slice A0_5 l0_5.length c0_5] 194 ?_; intro gb101 hg w4 hbox hb; have hx_ := qHX HB hb qa0; have BK101 := qO (hbox); have GW101 := qO ((qa3 : w.heap.size ≤ gb101)); have GE101 := GW101; replace HB := qO (below_step (below_step HB.out hx_) hb); clear hx_ hb hbox hg; have hcz5_0 := qc0 BK101.out; have hcz5_1 := qc1 BK101.out; have hcz5_2 := qc2 BK101.out; have hcz5_3 := qc3 BK101.out; have hcz5_4 := qc4 BK101.out; have hcz5_5 := qc5 BK101.out; have hfz5_0 := blk_frozen BK101.out 0; have hfz5_1 := blk_frozen BK101.out 1; have hfz5_2 := blk_frozen BK101.out 2; have hfz5_3 := blk_frozen BK101.out 3; have hfz5_4 := blk_frozen BK101.out 4; have hfz5_5 := blk_frozen BK101.out 5))
  go_ret
  exact ⟨qa1, qH HB.out⟩
 ·rw [if_neg c3] at H
  have c3b0 := decide_eq_false c3; clear c3
  by_cases c6 : (wrap64 ((wrap64 (a1 - (a0_1.size : Int))) - (a0_2.size : Int))) < 0
  ·rw [if_pos c6] at H
   have c6b0 := decide_eq_true c6; clear c6; obtain rfl := Option.some.inj H
   go_enter Try.func153, Try.ntmps153
   go_wp2_with (first | ((with_reducible refine gate_dst (N := 2) rfl ?_); refine qX 2 #[.int .i64 a0_0, .string a0_1, .string a0_2, .slice A0_3 l0_3.length c0_3, .slice A0_4 l0_4.length c0_4, .slice A0_5 l0_5.length c0_5] 194 ?_; intro gb101 hg w7 hbox hb; have hx_ := qHX HB hb qa0; have BK101 := qO (hbox); have GW101 := qO ((qa3 : w.heap.size ≤ gb101)); have GE101 := GW101; replace HB := qO (below_step (below_step HB.out hx_) hb); clear hx_ hb hbox hg; have hcz8_0 := qc0 BK101.out; have hcz8_1 := qc1 BK101.out; have hcz8_2 := qc2 BK101.out; have hcz8_3 := qc3 BK101.out; have hcz8_4 := qc4 BK101.out; have hcz8_5 := qc5 BK101.out; have hfz8_0 := blk_frozen BK101.out 0; have hfz8_1 := blk_frozen BK101.out 1; have hfz8_2 := blk_frozen BK101.out 2; have hfz8_3 := blk_frozen BK101.out 3; have hfz8_4 := blk_frozen BK101.out 4; have hfz8_5 := blk_frozen BK101.out 5))
   go_ret
   exact ⟨qa1, qH HB.out⟩
  ·rw [if_neg c6] at H
   have c6b0 := decide_eq_false c6; clear c6; replace H := Option.bind_eq_some_iff.mp H; obtain ⟨t102, A90, H⟩ := H; have A9 := qO A90; clear A90
   by_cases c10 : t102 < 0
   ·rw [if_pos c10] at H
    have c10b0 := decide_eq_true c10; clear c10; obtain rfl := Option.some.inj H
    go_enter Try.func153, Try.ntmps153
    go_wp2_with (first | ((with_reducible refine gate_dst (N := 2) rfl ?_); refine qX 2 #[.int .i64 a0_0, .string a0_1, .string a0_2, .slice A0_3 l0_3.length c0_3, .slice A0_4 l0_4.length c0_4, .slice A0_5 l0_5.length c0_5] 194 ?_; intro gb101 hg w11 hbox hb; have hx_ := qHX HB hb qa0; have BK101 := qO (hbox); have GW101 := qO ((qa3 : w.heap.size ≤ gb101)); have GE101 := GW101; replace HB := qO (below_step (below_step HB.out hx_) hb); clear hx_ hb hbox hg; have hcz12_0 := qc0 BK101.out; have hcz12_1 := qc1 BK101.out; have hcz12_2 := qc2 BK101.out; have hcz12_3 := qc3 BK101.out; have hcz12_4 := qc4 BK101.out; have hcz12_5 := qc5 BK101.out; have hfz12_0 := blk_frozen BK101.out 0; have hfz12_1 := blk_frozen BK101.out 1; have hfz12_2 := blk_frozen BK101.out 2; have hfz12_3 := blk_frozen BK101.out 3; have hfz12_4 := blk_frozen BK101.out 4; have hfz12_5 := blk_frozen BK101.out 5) | ((with_reducible refine gate_callee (f := 156) rfl ?_); refine qGL 22 Try.func156 #[.slice A0_3 l0_3.length c0_3, .int .i64 (wrap64 ((wrap64 (a1 - (a0_1.size : Int))) - (a0_2.size : Int)))] ?_; (with_reducible refine (laws_szArgS.calls k _ _ l0_3 (wrap64 ((wrap64 (a1 - (a0_1.size : Int))) - (a0_2.size : Int))) t102 _ ?side1 ?side2 A9.out).mono ?_); (case side1 => exact qa22); (case side2 => exact HC0_3.out); rintro e w13 ⟨rfl, hb⟩; have hx_ := qHX HB hb qa0; refine ⟨_, rfl, ?_⟩; replace BK101 := qO (qB BK101.out hx_ hb); replace HB := qO (below_step (below_step HB.out hx_) hb); clear hx_ hb))
    go_ret
    exact ⟨qa1, qH HB.out⟩
   ·rw [if_neg c10] at H
    have c10b0 := decide_eq_false c10; clear c10; replace H := Option.bind_eq_some_iff.mp H; obtain ⟨t103, A140, H⟩ := H; have A14 := qO A140; clear A140
    by_cases c15 : t103 < 0
    ·rw [if_pos c15] at H
     have c15b0 := decide_eq_true c15; clear c15; obtain rfl := Option.some.inj H
     go_enter Try.func153, Try.ntmps153
     go_wp2_with (first | ((with_reducible refine gate_dst (N := 2) rfl ?_); refine qX 2 #[.int .i64 a0_0, .string a0_1, .string a0_2, .slice A0_3 l0_3.length c0_3, .slice A0_4 l0_4.length c0_4, .slice A0_5 l0_5.length c0_5] 194 ?_; intro gb101 hg w16 hbox hb; have hx_ := qHX HB hb qa0; have BK101 := qO (hbox); have GW101 := qO ((qa3 : w.heap.size ≤ gb101)); have GE101 := GW101; replace HB := qO (below_step (below_step HB.out hx_) hb); clear hx_ hb hbox hg; have hcz17_0 := qc0 BK101.out; have hcz17_1 := qc1 BK101.out; have hcz17_2 := qc2 BK101.out; have hcz17_3 := qc3 BK101.out; have hcz17_4 := qc4 BK101.out; have hcz17_5 := qc5 BK101.out; have hfz17_0 := blk_frozen BK101.out 0; have hfz17_1 := blk_frozen BK101.out 1; have hfz17_2 := blk_frozen BK101.out 2; have hfz17_3 := blk_frozen BK101.out 3; have hfz17_4 := blk_frozen BK101.out 4; have hfz17_5 := blk_frozen BK101.out 5) | ((with_reducible refine gate_callee (f := 156) rfl ?_); refine qGL 22 Try.func156 #[.slice A0_3 l0_3.length c0_3, .int .i64 (wrap64 ((wrap64 (a1 - (a0_1.size : Int))) - (a0_2.size : Int)))] ?_; (with_reducible refine (laws_szArgS.calls k _ _ l0_3 (wrap64 ((wrap64 (a1 - (a0_1.size : Int))) - (a0_2.size : Int))) t102 _ ?side1 ?side2 A9.out).mono ?_); (case side1 => exact qa22); (case side2 => exact HC0_3.out); rintro e w18 ⟨rfl, hb⟩; have hx_ := qHX HB hb qa0; refine ⟨_, rfl, ?_⟩; replace BK101 := qO (qB BK101.out hx_ hb); replace HB := qO (below_step (below_step HB.out hx_) hb); clear hx_ hb; have hcz19_0 := qc0 BK101.out; have hcz19_1 := qc1 BK101.out; have hcz19_2 := qc2 BK101.out; have hcz19_3 := qc3 BK101.out; have hcz19_4 := qc4 BK101.out; have hcz19_5 := qc5 BK101.out; have hfz19_0 := blk_frozen BK101.out 0; have hfz19_1 := blk_frozen BK101.out 1; have hfz19_2 := blk_frozen BK101.out 2; have hfz19_3 := blk_frozen BK101.out 3; have hfz19_4 := blk_frozen BK101.out 4; have hfz19_5 := blk_frozen BK101.out 5) | ((with_reducible refine gate_callee (f := 157) rfl ?_); refine qGL 28 Try.func157 #[.slice A0_4 l0_4.length c0_4, .int .i64 t102] ?_; (with_reducible refine (laws_szDirS.calls k _ _ l0_4 t102 t103 _ ?side1 ?side2 A14.out).mono ?_); (case side1 => exact qa40); (case side2 => exact HC0_4.out); rintro e w20 ⟨rfl, hb⟩; have hx_ := qHX HB hb qa0; refine ⟨_, rfl, ?_⟩; replace BK101 := qO (qB BK101.out hx_ hb); replace HB := qO (below_step (below_step HB.out hx_) hb); clear hx_ hb))
     go_ret
     exact ⟨qa1, qH HB.out⟩
    ·rw [if_neg c15] at H
     have c15b0 := decide_eq_false c15; clear c15; replace H := Option.bind_eq_some_iff.mp H; obtain ⟨t104, A210, H⟩ := H; have A21 := qO A210; clear A210
     by_cases c22 : t104 < 0
     ·rw [if_pos c22] at H
      have c22b0 := decide_eq_true c22; clear c22; obtain rfl := Option.some.inj H
      go_enter Try.func153, Try.ntmps153
      go_wp2_with (first | ((with_reducible refine gate_dst (N := 2) rfl ?_); refine qX 2 #[.int .i64 a0_0, .string a0_1, .string a0_2, .slice A0_3 l0_3.length c0_3, .slice A0_4 l0_4.length c0_4, .slice A0_5 l0_5.length c0_5] 194 ?_; intro gb101 hg w23 hbox hb; have hx_ := qHX HB hb qa0; have BK101 := qO (hbox); have GW101 := qO ((qa3 : w.heap.size ≤ gb101)); have GE101 := GW101; replace HB := qO (below_step (below_step HB.out hx_) hb); clear hx_ hb hbox hg; have hcz24_0 := qc0 BK101.out; have hcz24_1 := qc1 BK101.out; have hcz24_2 := qc2 BK101.out; have hcz24_3 := qc3 BK101.out; have hcz24_4 := qc4 BK101.out; have hcz24_5 := qc5 BK101.out; have hfz24_0 := blk_frozen BK101.out 0; have hfz24_1 := blk_frozen BK101.out 1; have hfz24_2 := blk_frozen BK101.out 2; have hfz24_3 := blk_frozen BK101.out 3; have hfz24_4 := blk_frozen BK101.out 4; have hfz24_5 := blk_frozen BK101.out 5) | ((with_reducible refine gate_callee (f := 156) rfl ?_); refine qGL 22 Try.func156 #[.slice A0_3 l0_3.length c0_3, .int .i64 (wrap64 ((wrap64 (a1 - (a0_1.size : Int))) - (a0_2.size : Int)))] ?_; (with_reducible refine (laws_szArgS.calls k _ _ l0_3 (wrap64 ((wrap64 (a1 - (a0_1.size : Int))) - (a0_2.size : Int))) t102 _ ?side1 ?side2 A9.out).mono ?_); (case side1 => exact qa22); (case side2 => exact HC0_3.out); rintro e w25 ⟨rfl, hb⟩; have hx_ := qHX HB hb qa0; refine ⟨_, rfl, ?_⟩; replace BK101 := qO (qB BK101.out hx_ hb); replace HB := qO (below_step (below_step HB.out hx_) hb); clear hx_ hb; have hcz26_0 := qc0 BK101.out; have hcz26_1 := qc1 BK101.out; have hcz26_2 := qc2 BK101.out; have hcz26_3 := qc3 BK101.out; have hcz26_4 := qc4 BK101.out; have hcz26_5 := qc5 BK101.out; have hfz26_0 := blk_frozen BK101.out 0; have hfz26_1 := blk_frozen BK101.out 1; have hfz26_2 := blk_frozen BK101.out 2; have hfz26_3 := blk_frozen BK101.out 3; have hfz26_4 := blk_frozen BK101.out 4; have hfz26_5 := blk_frozen BK101.out 5) | ((with_reducible refine gate_callee (f := 157) rfl ?_); refine qGL 28 Try.func157 #[.slice A0_4 l0_4.length c0_4, .int .i64 t102] ?_; (with_reducible refine (laws_szDirS.calls k _ _ l0_4 t102 t103 _ ?side1 ?side2 A14.out).mono ?_); (case side1 => exact qa40); (case side2 => exact HC0_4.out); rintro e w27 ⟨rfl, hb⟩; have hx_ := qHX HB hb qa0; refine ⟨_, rfl, ?_⟩; replace BK101 := qO (qB BK101.out hx_ hb); replace HB := qO (below_step (below_step HB.out hx_) hb); clear hx_ hb; have hcz28_0 := qc0 BK101.out; have hcz28_1 := qc1 BK101.out; have hcz28_2 := qc2 BK101.out; have hcz28_3 := qc3 BK101.out; have hcz28_4 := qc4 BK101.out; have hcz28_5 := qc5 BK101.out; have hfz28_0 := blk_frozen BK101.out 0; have hfz28_1 := blk_frozen BK101.out 1; have hfz28_2 := blk_frozen BK101.out 2; have hfz28_3 := blk_frozen BK101.out 3; have hfz28_4 := blk_frozen BK101.out 4; have hfz28_5 := blk_frozen BK101.out 5) | ((with_reducible refine gate_callee (f := 149) rfl ?_); refine qGL 34 Try.func149 #[.slice A0_5 l0_5.length c0_5, .int .i64 t103] ?_; (with_reducible refine (ih149 k qa5 _ _ l0_5 t103 t104 _ ?side1 ?side2 A21.out).mono ?_); (case side1 => exact qa27); (case side2 => exact HC0_5.out); rintro e w29 ⟨rfl, hb⟩; have hx_ := qHX HB hb qa0; refine ⟨_, rfl, ?_⟩; replace BK101 := qO (qB BK101.out hx_ hb); replace HB := qO (below_step (below_step HB.out hx_) hb); clear hx_ hb))
      go_ret
      exact ⟨qa1, qH HB.out⟩
     ·rw [if_neg c22] at H
      have c22b0 := decide_eq_false c22; clear c22; obtain rfl := Option.some.inj H
      go_enter Try.func153, Try.ntmps153
      go_wp2_with (first | ((with_reducible refine gate_dst (N := 2) rfl ?_); refine qX 2 #[.int .i64 a0_0, .string a0_1, .string a0_2, .slice A0_3 l0_3.length c0_3, .slice A0_4 l0_4.length c0_4, .slice A0_5 l0_5.length c0_5] 194 ?_; intro gb101 hg w30 hbox hb; have hx_ := qHX HB hb qa0; have BK101 := qO (hbox); have GW101 := qO ((qa3 : w.heap.size ≤ gb101)); have GE101 := GW101; replace HB := qO (below_step (below_step HB.out hx_) hb); clear hx_ hb hbox hg; have hcz31_0 := qc0 BK101.out; have hcz31_1 := qc1 BK101.out; have hcz31_2 := qc2 BK101.out; have hcz31_3 := qc3 BK101.out; have hcz31_4 := qc4 BK101.out; have hcz31_5 := qc5 BK101.out; have hfz31_0 := blk_frozen BK101.out 0; have hfz31_1 := blk_frozen BK101.out 1; have hfz31_2 := blk_frozen BK101.out 2; have hfz31_3 := blk_frozen BK101.out 3; have hfz31_4 := blk_frozen BK101.out 4; have hfz31_5 := blk_frozen BK101.out 5) | ((with_reducible refine gate_callee (f := 156) rfl ?_); refine qGL 22 Try.func156 #[.slice A0_3 l0_3.length c0_3, .int .i64 (wrap64 ((wrap64 (a1 - (a0_1.size : Int))) - (a0_2.size : Int)))] ?_; (with_reducible refine (laws_szArgS.calls k _ _ l0_3 (wrap64 ((wrap64 (a1 - (a0_1.size : Int))) - (a0_2.size : Int))) t102 _ ?side1 ?side2 A9.out).mono ?_); (case side1 => exact qa22); (case side2 => exact HC0_3.out); rintro e w32 ⟨rfl, hb⟩; have hx_ := qHX HB hb qa0; refine ⟨_, rfl, ?_⟩; replace BK101 := qO (qB BK101.out hx_ hb); replace HB := qO (below_step (below_step HB.out hx_) hb); clear hx_ hb; have hcz33_0 := qc0 BK101.out; have hcz33_1 := qc1 BK101.out; have hcz33_2 := qc2 BK101.out; have hcz33_3 := qc3 BK101.out; have hcz33_4 := qc4 BK101.out; have hcz33_5 := qc5 BK101.out; have hfz33_0 := blk_frozen BK101.out 0; have hfz33_1 := blk_frozen BK101.out 1; have hfz33_2 := blk_frozen BK101.out 2; have hfz33_3 := blk_frozen BK101.out 3; have hfz33_4 := blk_frozen BK101.out 4; have hfz33_5 := blk_frozen BK101.out 5) | ((with_reducible refine gate_callee (f := 157) rfl ?_); refine qGL 28 Try.func157 #[.slice A0_4 l0_4.length c0_4, .int .i64 t102] ?_; (with_reducible refine (laws_szDirS.calls k _ _ l0_4 t102 t103 _ ?side1 ?side2 A14.out).mono ?_); (case side1 => exact qa40); (case side2 => exact HC0_4.out); rintro e w34 ⟨rfl, hb⟩; have hx_ := qHX HB hb qa0; refine ⟨_, rfl, ?_⟩; replace BK101 := qO (qB BK101.out hx_ hb); replace HB := qO (below_step (below_step HB.out hx_) hb); clear hx_ hb; have hcz35_0 := qc0 BK101.out; have hcz35_1 := qc1 BK101.out; have hcz35_2 := qc2 BK101.out; have hcz35_3 := qc3 BK101.out; have hcz35_4 := qc4 BK101.out; have hcz35_5 := qc5 BK101.out; have hfz35_0 := blk_frozen BK101.out 0; have hfz35_1 := blk_frozen BK101.out 1; have hfz35_2 := blk_frozen BK101.out 2; have hfz35_3 := blk_frozen BK101.out 3; have hfz35_4 := blk_frozen BK101.out 4; have hfz35_5 := blk_frozen BK101.out 5) | ((with_reducible refine gate_callee (f := 149) rfl ?_); refine qGL 34 Try.func149 #[.slice A0_5 l0_5.length c0_5, .int .i64 t103] ?_; (with_reducible refine (ih149 k qa5 _ _ l0_5 t103 t104 _ ?side1 ?side2 A21.out).mono ?_); (case side1 => exact qa27); (case side2 => exact HC0_5.out); rintro e w36 ⟨rfl, hb⟩; have hx_ := qHX HB hb qa0; refine ⟨_, rfl, ?_⟩; replace BK101 := qO (qB BK101.out hx_ hb); replace HB := qO (below_step (below_step HB.out hx_) hb); clear hx_ hb))
      go_ret
      exact ⟨qa1, qH HB.out⟩
theorem laws_szSelS.calls_grp (k : Nat) : (∀ (A0 : Option Addr) (c0 : Nat) (l0 : List (S194)) (a1 : Int) (r : Int) (w : World) (hr0 : Kd.C k194 w A0 l0.length l0) (hc0 : l0.length ≤ c0) (h : laws_szSelS.f k l0 a1 = some r),
  Calls Try.prog 149 #[.slice A0 l0.length c0, .int .i64 a1] w fun e w' => e = .returned (.int .i64 r) ∧ Below w.heap.size w w') ∧ (∀ (a0_0 : Int) (a0_1 : ByteArray) (a0_2 : ByteArray) (A0_3 : Option Addr) (c0_3 : Nat) (l0_3 : List (S204)) (A0_4 : Option Addr) (c0_4 : Nat) (l0_4 : List (S207)) (A0_5 : Option Addr) (c0_5 : Nat) (l0_5 : List (S194)) (a1 : Int) (r : Int) (w : World) (hr0_3 : Kd.C k204 w A0_3 l0_3.length l0_3) (hc0_3 : l0_3.length ≤ c0_3) (hr0_4 : Kd.C k207 w A0_4 l0_4.length l0_4) (hc0_4 : l0_4.length ≤ c0_4) (hr0_5 : Kd.C k194 w A0_5 l0_5.length l0_5) (hc0_5 : l0_5.length ≤ c0_5) (h : laws_szSel.f k a0_0 a0_1 a0_2 l0_3 l0_4 l0_5 a1 = some r),
  Calls Try.prog 153 #[.agg #[.int .i64 a0_0, .string a0_1, .string a0_2, .slice A0_3 l0_3.length c0_3, .slice A0_4 l0_4.length c0_4, .slice A0_5 l0_5.length c0_5], .int .i64 a1] w fun e w' => e = .returned (.int .i64 r) ∧ Below w.heap.size w w') := by
 induction k using Nat.strongRecOn with
 | _ k ih => exact ⟨laws_szSelS.calls_of k (fun j_ hj_ => (ih j_ hj_).1) (fun j_ hj_ => (ih j_ hj_).2), laws_szSel.calls_of k (fun j_ hj_ => (ih j_ hj_).1) (fun j_ hj_ => (ih j_ hj_).2)⟩
theorem laws_szSelS.calls (k : Nat) : ∀ (A0 : Option Addr) (c0 : Nat) (l0 : List (S194)) (a1 : Int) (r : Int) (w : World) (hr0 : Kd.C k194 w A0 l0.length l0) (hc0 : l0.length ≤ c0) (h : laws_szSelS.f k l0 a1 = some r),
  Calls Try.prog 149 #[.slice A0 l0.length c0, .int .i64 a1] w fun e w' => e = .returned (.int .i64 r) ∧ Below w.heap.size w w' := (laws_szSelS.calls_grp k).1
theorem laws_szSel.calls (k : Nat) : ∀ (a0_0 : Int) (a0_1 : ByteArray) (a0_2 : ByteArray) (A0_3 : Option Addr) (c0_3 : Nat) (l0_3 : List (S204)) (A0_4 : Option Addr) (c0_4 : Nat) (l0_4 : List (S207)) (A0_5 : Option Addr) (c0_5 : Nat) (l0_5 : List (S194)) (a1 : Int) (r : Int) (w : World) (hr0_3 : Kd.C k204 w A0_3 l0_3.length l0_3) (hc0_3 : l0_3.length ≤ c0_3) (hr0_4 : Kd.C k207 w A0_4 l0_4.length l0_4) (hc0_4 : l0_4.length ≤ c0_4) (hr0_5 : Kd.C k194 w A0_5 l0_5.length l0_5) (hc0_5 : l0_5.length ≤ c0_5) (h : laws_szSel.f k a0_0 a0_1 a0_2 l0_3 l0_4 l0_5 a1 = some r),
  Calls Try.prog 153 #[.agg #[.int .i64 a0_0, .string a0_1, .string a0_2, .slice A0_3 l0_3.length c0_3, .slice A0_4 l0_4.length c0_4, .slice A0_5 l0_5.length c0_5], .int .i64 a1] w fun e w' => e = .returned (.int .i64 r) ∧ Below w.heap.size w w' := (laws_szSelS.calls_grp k).2
set_option maxHeartbeats 8000000
set_option maxRecDepth 100000
def laws_szDef.f (k : Nat) (a0_0 : Int) (a0_1 : ByteArray) (a0_2 : ByteArray) (l0_3 : List (S194)) (a1 : Int) : Option (Int) := if (wrap64 (a1 - (a0_1.size : Int))) < 0 then (some (-1)) else (if (wrap64 ((wrap64 (a1 - (a0_1.size : Int))) - (a0_2.size : Int))) < 0 then (some (-1)) else ((laws_szSelS.f k l0_3 (wrap64 ((wrap64 (a1 - (a0_1.size : Int))) - (a0_2.size : Int)))).bind fun t102 => (if t102 < 0 then (some (-1)) else (some t102))))
theorem laws_szDef.calls (k : Nat) (a0_0 : Int) (a0_1 : ByteArray) (a0_2 : ByteArray) (A0_3 : Option Addr) (c0_3 : Nat) (l0_3 : List (S194)) (a1 : Int) (r : Int) (w : World) (hr0_3 : Kd.C k194 w A0_3 l0_3.length l0_3) (hc0_3 : l0_3.length ≤ c0_3) (h : laws_szDef.f k a0_0 a0_1 a0_2 l0_3 a1 = some r) :
  Calls Try.prog 145 #[.agg #[.int .i64 a0_0, .string a0_1, .string a0_2, .slice A0_3 l0_3.length c0_3], .int .i64 a1] w fun e w' => e = .returned (.int .i64 r) ∧ Below w.heap.size w w' := by
 have hu183 := Try.underlying183; have HR0_3 := qO hr0_3; have HC0_3 := qO hc0_3; clear hr0_3 hc0_3; have HB := qO (Below.refl w.heap.size w); have H : (if (wrap64 (a1 - (a0_1.size : Int))) < 0 then (some (-1)) else (if (wrap64 ((wrap64 (a1 - (a0_1.size : Int))) - (a0_2.size : Int))) < 0 then (some (-1)) else ((laws_szSelS.f k l0_3 (wrap64 ((wrap64 (a1 - (a0_1.size : Int))) - (a0_2.size : Int)))).bind fun t102 => (if t102 < 0 then (some (-1)) else (some t102))))) = some r := h; clear h
 by_cases c3 : (wrap64 (a1 - (a0_1.size : Int))) < 0
 ·rw [if_pos c3] at H
  have c3b0 := decide_eq_true c3; clear c3; obtain rfl := Option.some.inj H
  go_enter Try.func145, Try.ntmps145
  go_wp2_with (first | ((with_reducible refine gate_dst (N := 2) rfl ?_); refine qX 2 #[.int .i64 a0_0, .string a0_1, .string a0_2, .slice A0_3 l0_3.length c0_3] 183 ?_; intro gb101 hg w4 hbox hb; have hx_ := qHX HB hb qa0; have BK101 := qO (hbox); have GW101 := qO ((qa3 : w.heap.size ≤ gb101)); have GE101 := GW101; replace HB := qO (below_step (below_step HB.out hx_) hb); clear hx_ hb hbox hg; obtain ⟨hcz5_0, hcz5_1, hcz5_2, hcz5_3, hfz5_0, hfz5_1, hfz5_2, hfz5_3⟩ := qb4 BK101.out))
  go_ret
  exact ⟨qa1, qH HB.out⟩
 ·rw [if_neg c3] at H
  have c3b0 := decide_eq_false c3; clear c3
  by_cases c6 : (wrap64 ((wrap64 (a1 - (a0_1.size : Int))) - (a0_2.size : Int))) < 0
  ·rw [if_pos c6] at H
   have c6b0 := decide_eq_true c6; clear c6; obtain rfl := Option.some.inj H
   go_enter Try.func145, Try.ntmps145
   go_wp2_with (first | ((with_reducible refine gate_dst (N := 2) rfl ?_); refine qX 2 #[.int .i64 a0_0, .string a0_1, .string a0_2, .slice A0_3 l0_3.length c0_3] 183 ?_; intro gb101 hg w7 hbox hb; have hx_ := qHX HB hb qa0; have BK101 := qO (hbox); have GW101 := qO ((qa3 : w.heap.size ≤ gb101)); have GE101 := GW101; replace HB := qO (below_step (below_step HB.out hx_) hb); clear hx_ hb hbox hg; obtain ⟨hcz8_0, hcz8_1, hcz8_2, hcz8_3, hfz8_0, hfz8_1, hfz8_2, hfz8_3⟩ := qb4 BK101.out))
   go_ret
   exact ⟨qa1, qH HB.out⟩
  ·rw [if_neg c6] at H
   have c6b0 := decide_eq_false c6; clear c6; replace H := Option.bind_eq_some_iff.mp H; obtain ⟨t102, A90, H⟩ := H; have A9 := qO A90; clear A90
   by_cases c10 : t102 < 0
   ·rw [if_pos c10] at H
    have c10b0 := decide_eq_true c10; clear c10; obtain rfl := Option.some.inj H
    go_enter Try.func145, Try.ntmps145
    go_wp2_with (first | ((with_reducible refine gate_dst (N := 2) rfl ?_); refine qX 2 #[.int .i64 a0_0, .string a0_1, .string a0_2, .slice A0_3 l0_3.length c0_3] 183 ?_; intro gb101 hg w11 hbox hb; have hx_ := qHX HB hb qa0; have BK101 := qO (hbox); have GW101 := qO ((qa3 : w.heap.size ≤ gb101)); have GE101 := GW101; replace HB := qO (below_step (below_step HB.out hx_) hb); clear hx_ hb hbox hg; obtain ⟨hcz12_0, hcz12_1, hcz12_2, hcz12_3, hfz12_0, hfz12_1, hfz12_2, hfz12_3⟩ := qb4 BK101.out) | ((with_reducible refine gate_callee (f := 149) rfl ?_); refine qGL 22 Try.func149 #[.slice A0_3 l0_3.length c0_3, .int .i64 (wrap64 ((wrap64 (a1 - (a0_1.size : Int))) - (a0_2.size : Int)))] ?_; (with_reducible refine (laws_szSelS.calls k _ _ l0_3 (wrap64 ((wrap64 (a1 - (a0_1.size : Int))) - (a0_2.size : Int))) t102 _ ?side1 ?side2 A9.out).mono ?_); (case side1 => exact qa22); (case side2 => exact HC0_3.out); rintro e w13 ⟨rfl, hb⟩; have hx_ := qHX HB hb qa0; refine ⟨_, rfl, ?_⟩; replace BK101 := qO (qB BK101.out hx_ hb); replace HB := qO (below_step (below_step HB.out hx_) hb); clear hx_ hb))
    go_ret
    exact ⟨qa1, qH HB.out⟩
   ·rw [if_neg c10] at H
    have c10b0 := decide_eq_false c10; clear c10; obtain rfl := Option.some.inj H
    go_enter Try.func145, Try.ntmps145
    go_wp2_with (first | ((with_reducible refine gate_dst (N := 2) rfl ?_); refine qX 2 #[.int .i64 a0_0, .string a0_1, .string a0_2, .slice A0_3 l0_3.length c0_3] 183 ?_; intro gb101 hg w14 hbox hb; have hx_ := qHX HB hb qa0; have BK101 := qO (hbox); have GW101 := qO ((qa3 : w.heap.size ≤ gb101)); have GE101 := GW101; replace HB := qO (below_step (below_step HB.out hx_) hb); clear hx_ hb hbox hg; obtain ⟨hcz15_0, hcz15_1, hcz15_2, hcz15_3, hfz15_0, hfz15_1, hfz15_2, hfz15_3⟩ := qb4 BK101.out) | ((with_reducible refine gate_callee (f := 149) rfl ?_); refine qGL 22 Try.func149 #[.slice A0_3 l0_3.length c0_3, .int .i64 (wrap64 ((wrap64 (a1 - (a0_1.size : Int))) - (a0_2.size : Int)))] ?_; (with_reducible refine (laws_szSelS.calls k _ _ l0_3 (wrap64 ((wrap64 (a1 - (a0_1.size : Int))) - (a0_2.size : Int))) t102 _ ?side1 ?side2 A9.out).mono ?_); (case side1 => exact qa22); (case side2 => exact HC0_3.out); rintro e w16 ⟨rfl, hb⟩; have hx_ := qHX HB hb qa0; refine ⟨_, rfl, ?_⟩; replace BK101 := qO (qB BK101.out hx_ hb); replace HB := qO (below_step (below_step HB.out hx_) hb); clear hx_ hb))
    go_ret
    exact ⟨qa1, qH HB.out⟩
set_option maxHeartbeats 8000000
set_option maxRecDepth 100000
def laws_szDefS.l0 : Nat → List (S183) → Int → Int → Option (Int)
 | 0, _, _, _ => none
 | k + 1, x0, x1, x5 => if x5 < (x0.length : Int) then (if 0 ≤ x5 then ((laws_szDef.f k ((rd_T183 x0 x5).f0) ((rd_T183 x0 x5).f1) ((rd_T183 x0 x5).f2) ((rd_T183 x0 x5).f3) x1).bind fun t102 => (if t102 < 0 then (some (-1)) else (laws_szDefS.l0 k x0 t102 (wrap64 (x5 + 1))))) else (none)) else (some x1)
def laws_szDefS.f (k : Nat) (l0 : List (S183)) (a1 : Int) : Option (Int) := if (wrap64 (a1 - (l0.length : Int))) < 0 then (some (-1)) else (laws_szDefS.l0 k l0 (wrap64 (a1 - (l0.length : Int))) 0)
theorem laws_szDefS.calls (k : Nat) (A0 : Option Addr) (c0 : Nat) (l0 : List (S183)) (a1 : Int) (r : Int) (w : World) (hr0 : Kd.C k183 w A0 l0.length l0) (hc0 : l0.length ≤ c0) (h : laws_szDefS.f k l0 a1 = some r) :
  Calls Try.prog 137 #[.slice A0 l0.length c0, .int .i64 a1] w fun e w' => e = .returned (.int .i64 r) ∧ Below w.heap.size w w' := by
 have hu183 := Try.underlying183; have HR0 := qO hr0; have HC0 := qO hc0; clear hr0 hc0; have HB := qO (Below.refl w.heap.size w); have H : (if (wrap64 (a1 - (l0.length : Int))) < 0 then (some (-1)) else (laws_szDefS.l0 k l0 (wrap64 (a1 - (l0.length : Int))) 0)) = some r := h; clear h
 by_cases c3 : (wrap64 (a1 - (l0.length : Int))) < 0
 ·rw [if_pos c3] at H
  have c3b0 := decide_eq_true c3; clear c3; obtain rfl := Option.some.inj H
  go_enter Try.func137, Try.ntmps137
  go_wp2
  go_ret
  exact ⟨qa1, qH HB.out⟩
 ·rw [if_neg c3] at H
  have c3b0 := decide_eq_false c3; clear c3; have H' := qO H; clear H
  go_enter Try.func137, Try.ntmps137
  go_wp2
  go_loopg [1, 5] k (fun kq v1 v5 w' => ∃ (x1_1 : Int) (x5_1 : Int), v1 = .int .i64 x1_1 ∧ v5 = .int .i64 x5_1 ∧ Aside0 (laws_szDefS.l0 kq l0 x1_1 x5_1 = some r) ∧ Aside0 (kq ≤ k) ∧ Aside0 (Below w.heap.size w w'))
  case atStart => exact ⟨(wrap64 (a1 - (l0.length : Int))), (0), qa4, qa4, H', ⟨Nat.le_refl _⟩, ⟨qH HB.out⟩⟩
  case round =>
   clear H'
   obtain ⟨x1_1, x5_1, rfl, rfl, HA, HK1, HB⟩ := hrel
   cases gk with
   | zero => exact absurd HA.out (by simp [laws_szDefS.l0])
   | succ k1 =>
    have H := HA.out; clear HA; simp only [laws_szDefS.l0] at H
    by_cases c4 : x5_1 < (l0.length : Int)
    ·rw [if_pos c4] at H
     have c4b0 := decide_eq_true c4; clear c4
     by_cases c5 : 0 ≤ x5_1
     ·rw [if_pos c5] at H
      have c5b0 := decide_eq_true c5; clear c5; replace H := Option.bind_eq_some_iff.mp H; obtain ⟨t102, A60, H⟩ := H; have A6 := qO A60; clear A60
      by_cases c7 : t102 < 0
      ·rw [if_pos c7] at H
       have c7b0 := decide_eq_true c7; clear c7; obtain rfl := Option.some.inj H; have p101 : 0 ≤ (x5_1 : Int) := qT qa2; have q101 : x5_1 < (l0.length : Int) := qT qa2; obtain ⟨ad101, A101_3, c101_3, e101, hx101_0, hx101_1, hx101_2, hx101_3, hl101_3, hi101_3⟩ := at_T183 HR0.out x5_1 p101 q101
       cases e101
       replace hx101_0 := (HB.out.cell (qL w _ hx101_0)).trans hx101_0; replace hx101_1 := (HB.out.cell (qL w _ hx101_1)).trans hx101_1; replace hx101_2 := (HB.out.cell (qL w _ hx101_2)).trans hx101_2; replace hx101_3 := (HB.out.cell (qL w _ hx101_3)).trans hx101_3; have HR101_3 := qO hi101_3; have HC101_3 := qO hl101_3; clear hi101_3 hl101_3; replace p101 := eq_true p101; replace q101 := eq_true q101
       go_wp2_with (first | ((with_reducible refine gate_callee (f := 145) rfl ?_); refine qGL 23 Try.func145 #[.agg #[.int .i64 ((rd_T183 l0 x5_1).f0), .string ((rd_T183 l0 x5_1).f1), .string ((rd_T183 l0 x5_1).f2), .slice A101_3 ((rd_T183 l0 x5_1).f3).length c101_3], .int .i64 x1_1] ?_; (with_reducible refine (laws_szDef.calls k1 ((rd_T183 l0 x5_1).f0) ((rd_T183 l0 x5_1).f1) ((rd_T183 l0 x5_1).f2) _ _ ((rd_T183 l0 x5_1).f3) x1_1 t102 _ ?side1 ?side2 A6.out).mono ?_); (case side1 => exact qa31); (case side2 => exact HC101_3.out); rintro e w8 ⟨rfl, hb⟩; have hx_ := qHX HB hb qa0; refine ⟨_, rfl, ?_⟩; replace HB := qO (below_step (below_step HB.out hx_) hb); clear hx_ hb))
       go_ret
       exact ⟨qa1, qH HB.out⟩
      ·rw [if_neg c7] at H
       have c7b0 := decide_eq_false c7; clear c7; have H' := qO H; clear H; have p101 : 0 ≤ (x5_1 : Int) := qT qa2; have q101 : x5_1 < (l0.length : Int) := qT qa2; obtain ⟨ad101, A101_3, c101_3, e101, hx101_0, hx101_1, hx101_2, hx101_3, hl101_3, hi101_3⟩ := at_T183 HR0.out x5_1 p101 q101
       cases e101
       replace hx101_0 := (HB.out.cell (qL w _ hx101_0)).trans hx101_0; replace hx101_1 := (HB.out.cell (qL w _ hx101_1)).trans hx101_1; replace hx101_2 := (HB.out.cell (qL w _ hx101_2)).trans hx101_2; replace hx101_3 := (HB.out.cell (qL w _ hx101_3)).trans hx101_3; have HR101_3 := qO hi101_3; have HC101_3 := qO hl101_3; clear hi101_3 hl101_3; replace p101 := eq_true p101; replace q101 := eq_true q101
       go_wp2_with (first | ((with_reducible refine gate_callee (f := 145) rfl ?_); refine qGL 23 Try.func145 #[.agg #[.int .i64 ((rd_T183 l0 x5_1).f0), .string ((rd_T183 l0 x5_1).f1), .string ((rd_T183 l0 x5_1).f2), .slice A101_3 ((rd_T183 l0 x5_1).f3).length c101_3], .int .i64 x1_1] ?_; (with_reducible refine (laws_szDef.calls k1 ((rd_T183 l0 x5_1).f0) ((rd_T183 l0 x5_1).f1) ((rd_T183 l0 x5_1).f2) _ _ ((rd_T183 l0 x5_1).f3) x1_1 t102 _ ?side1 ?side2 A6.out).mono ?_); (case side1 => exact qa31); (case side2 => exact HC101_3.out); rintro e w9 ⟨rfl, hb⟩; have hx_ := qHX HB hb qa0; refine ⟨_, rfl, ?_⟩; replace HB := qO (below_step (below_step HB.out hx_) hb); clear hx_ hb))
       go_roundg k1
       case measure => have := HK1.out; omega
       case rel => exact ⟨(t102), (wrap64 (x5_1 + 1)), qa4, qa4, H', ⟨qa9⟩, ⟨qH HB.out⟩⟩
     ·rw [if_neg c5] at H
      exact absurd H qa12
    ·rw [if_neg c4] at H
     have c4b0 := decide_eq_false c4; clear c4; obtain rfl := Option.some.inj H; go_wp2
     go_ret
     exact ⟨qa1, qH HB.out⟩
set_option maxHeartbeats 8000000
set_option maxRecDepth 100000
def laws_szDoc.f (k : Nat) (l0_0 : List (S183)) (a1 : Int) : Option (Int) := (laws_szDefS.f k l0_0 a1).bind fun t102 => (if t102 < 0 then (some (-1)) else (some t102))
theorem laws_szDoc.calls (k : Nat) (A0_0 : Option Addr) (c0_0 : Nat) (l0_0 : List (S183)) (a1 : Int) (r : Int) (w : World) (hr0_0 : Kd.C k183 w A0_0 l0_0.length l0_0) (hc0_0 : l0_0.length ≤ c0_0) (h : laws_szDoc.f k l0_0 a1 = some r) :
  Calls Try.prog 125 #[.agg #[.slice A0_0 l0_0.length c0_0], .int .i64 a1] w fun e w' => e = .returned (.int .i64 r) ∧ Below w.heap.size w w' := by
 have hu102 := Try.underlying102; have HR0_0 := qO hr0_0; have HC0_0 := qO hc0_0; clear hr0_0 hc0_0; have HB := qO (Below.refl w.heap.size w); have H : ((laws_szDefS.f k l0_0 a1).bind fun t102 => (if t102 < 0 then (some (-1)) else (some t102))) = some r := h; clear h; replace H := Option.bind_eq_some_iff.mp H; obtain ⟨t102, A30, H⟩ := H; have A3 := qO A30; clear A30
 by_cases c4 : t102 < 0
 ·rw [if_pos c4] at H
  have c4b0 := decide_eq_true c4; clear c4; obtain rfl := Option.some.inj H
  go_enter Try.func125, Try.ntmps125
  go_wp2_with (first | ((with_reducible refine gate_dst (N := 2) rfl ?_); refine qX 2 #[.slice A0_0 l0_0.length c0_0] 102 ?_; intro gb101 hg w5 hbox hb; have hx_ := qHX HB hb qa0; have BK101 := qO (hbox); have GW101 := qO ((qa3 : w.heap.size ≤ gb101)); have GE101 := GW101; replace HB := qO (below_step (below_step HB.out hx_) hb); clear hx_ hb hbox hg; have hcz6_0 := qc0 BK101.out; have hfz6_0 := blk_frozen BK101.out 0) | ((with_reducible refine gate_callee (f := 137) rfl ?_); refine qGL 8 Try.func137 #[.slice A0_0 l0_0.length c0_0, .int .i64 a1] ?_; (with_reducible refine (laws_szDefS.calls k _ _ l0_0 a1 t102 _ ?side1 ?side2 A3.out).mono ?_); (case side1 => exact qa23); (case side2 => exact HC0_0.out); rintro e w7 ⟨rfl, hb⟩; have hx_ := qHX HB hb qa0; refine ⟨_, rfl, ?_⟩; replace BK101 := qO (qB BK101.out hx_ hb); replace HB := qO (below_step (below_step HB.out hx_) hb); clear hx_ hb))
  go_ret
  exact ⟨qa1, qH HB.out⟩
 ·rw [if_neg c4] at H
  have c4b0 := decide_eq_false c4; clear c4; obtain rfl := Option.some.inj H
  go_enter Try.func125, Try.ntmps125
  go_wp2_with (first | ((with_reducible refine gate_dst (N := 2) rfl ?_); refine qX 2 #[.slice A0_0 l0_0.length c0_0] 102 ?_; intro gb101 hg w8 hbox hb; have hx_ := qHX HB hb qa0; have BK101 := qO (hbox); have GW101 := qO ((qa3 : w.heap.size ≤ gb101)); have GE101 := GW101; replace HB := qO (below_step (below_step HB.out hx_) hb); clear hx_ hb hbox hg; have hcz9_0 := qc0 BK101.out; have hfz9_0 := blk_frozen BK101.out 0) | ((with_reducible refine gate_callee (f := 137) rfl ?_); refine qGL 8 Try.func137 #[.slice A0_0 l0_0.length c0_0, .int .i64 a1] ?_; (with_reducible refine (laws_szDefS.calls k _ _ l0_0 a1 t102 _ ?side1 ?side2 A3.out).mono ?_); (case side1 => exact qa23); (case side2 => exact HC0_0.out); rintro e w10 ⟨rfl, hb⟩; have hx_ := qHX HB hb qa0; refine ⟨_, rfl, ?_⟩; replace BK101 := qO (qB BK101.out hx_ hb); replace HB := qO (below_step (below_step HB.out hx_) hb); clear hx_ hb))
  go_ret
  exact ⟨qa1, qH HB.out⟩
set_option maxHeartbeats 8000000
set_option maxRecDepth 100000
def laws_szRequest.f (k : Nat) (l0_0 : List (S183)) (l0_1 : List (S77)) (a1 : Int) : Option (Int) := (laws_szDoc.f k l0_0 a1).bind fun t102 => (if t102 < 0 then (some (-1)) else ((laws_szBindingS.f k l0_1 t102).bind fun t103 => (if t103 < 0 then (some (-1)) else (some t103))))
theorem laws_szRequest.calls (k : Nat) (A0_0 : Option Addr) (c0_0 : Nat) (l0_0 : List (S183)) (A0_1 : Option Addr) (c0_1 : Nat) (l0_1 : List (S77)) (a1 : Int) (r : Int) (w : World) (hr0_0 : Kd.C k183 w A0_0 l0_0.length l0_0) (hc0_0 : l0_0.length ≤ c0_0) (hr0_1 : Kd.C k77 w A0_1 l0_1.length l0_1) (hc0_1 : l0_1.length ≤ c0_1) (h : laws_szRequest.f k l0_0 l0_1 a1 = some r) :
  Calls Try.prog 107 #[.agg #[.slice A0_0 l0_0.length c0_0, .slice A0_1 l0_1.length c0_1], .int .i64 a1] w fun e w' => e = .returned (.int .i64 r) ∧ Below w.heap.size w w' := by
 have hu104 := Try.underlying104; have hu102 := Try.underlying102; have HR0_0 := qO hr0_0; have HC0_0 := qO hc0_0; clear hr0_0 hc0_0; have HR0_1 := qO hr0_1; have HC0_1 := qO hc0_1; clear hr0_1 hc0_1; have HB := qO (Below.refl w.heap.size w); have H : ((laws_szDoc.f k l0_0 a1).bind fun t102 => (if t102 < 0 then (some (-1)) else ((laws_szBindingS.f k l0_1 t102).bind fun t103 => (if t103 < 0 then (some (-1)) else (some t103))))) = some r := h; clear h; replace H := Option.bind_eq_some_iff.mp H; obtain ⟨t102, A30, H⟩ := H; have A3 := qO A30; clear A30
 by_cases c4 : t102 < 0
 ·rw [if_pos c4] at H
  have c4b0 := decide_eq_true c4; clear c4; obtain rfl := Option.some.inj H
  go_enter Try.func107, Try.ntmps107
  go_wp2_with (first | ((with_reducible refine gate_dst (N := 2) rfl ?_); refine qX 2 #[.slice A0_0 l0_0.length c0_0, .slice A0_1 l0_1.length c0_1] 104 ?_; intro gb101 hg w5 hbox hb; have hx_ := qHX HB hb qa0; have BK101 := qO (hbox); have GW101 := qO ((qa3 : w.heap.size ≤ gb101)); have GE101 := GW101; replace HB := qO (below_step (below_step HB.out hx_) hb); clear hx_ hb hbox hg; obtain ⟨hcz6_0, hcz6_1, hfz6_0, hfz6_1⟩ := qb2 BK101.out) | ((with_reducible refine gate_callee (f := 125) rfl ?_); refine qGL 8 Try.func125 #[.agg #[.slice A0_0 l0_0.length c0_0], .int .i64 a1] ?_; (with_reducible refine (laws_szDoc.calls k _ _ l0_0 a1 t102 _ ?side1 ?side2 A3.out).mono ?_); (case side1 => exact qa23); (case side2 => exact HC0_0.out); rintro e w7 ⟨rfl, hb⟩; have hx_ := qHX HB hb qa0; refine ⟨_, rfl, ?_⟩; replace BK101 := qO (qB BK101.out hx_ hb); replace HB := qO (below_step (below_step HB.out hx_) hb); clear hx_ hb))
  go_ret
  exact ⟨qa1, qH HB.out⟩
 ·rw [if_neg c4] at H
  have c4b0 := decide_eq_false c4; clear c4; replace H := Option.bind_eq_some_iff.mp H; obtain ⟨t103, A80, H⟩ := H; have A8 := qO A80; clear A80
  by_cases c9 : t103 < 0
  ·rw [if_pos c9] at H
   have c9b0 := decide_eq_true c9; clear c9; obtain rfl := Option.some.inj H
   go_enter Try.func107, Try.ntmps107
   go_wp2_with (first | ((with_reducible refine gate_dst (N := 2) rfl ?_); refine qX 2 #[.slice A0_0 l0_0.length c0_0, .slice A0_1 l0_1.length c0_1] 104 ?_; intro gb101 hg w10 hbox hb; have hx_ := qHX HB hb qa0; have BK101 := qO (hbox); have GW101 := qO ((qa3 : w.heap.size ≤ gb101)); have GE101 := GW101; replace HB := qO (below_step (below_step HB.out hx_) hb); clear hx_ hb hbox hg; obtain ⟨hcz11_0, hcz11_1, hfz11_0, hfz11_1⟩ := qb2 BK101.out) | ((with_reducible refine gate_callee (f := 125) rfl ?_); refine qGL 8 Try.func125 #[.agg #[.slice A0_0 l0_0.length c0_0], .int .i64 a1] ?_; (with_reducible refine (laws_szDoc.calls k _ _ l0_0 a1 t102 _ ?side1 ?side2 A3.out).mono ?_); (case side1 => exact qa23); (case side2 => exact HC0_0.out); rintro e w12 ⟨rfl, hb⟩; have hx_ := qHX HB hb qa0; refine ⟨_, rfl, ?_⟩; replace BK101 := qO (qB BK101.out hx_ hb); replace HB := qO (below_step (below_step HB.out hx_) hb); clear hx_ hb; obtain ⟨hcz13_0, hcz13_1, hfz13_0, hfz13_1⟩ := qb2 BK101.out) | ((with_reducible refine gate_callee (f := 11) rfl ?_); refine qGL 14 Try.func11 #[.slice A0_1 l0_1.length c0_1, .int .i64 t102] ?_; (with_reducible refine (laws_szBindingS.calls k _ _ l0_1 t102 t103 _ ?side1 ?side2 A8.out).mono ?_); (case side1 => exact qa61); (case side2 => exact HC0_1.out); rintro e w14 ⟨rfl, hb⟩; have hx_ := qHX HB hb qa0; refine ⟨_, rfl, ?_⟩; replace BK101 := qO (qB BK101.out hx_ hb); replace HB := qO (below_step (below_step HB.out hx_) hb); clear hx_ hb))
   go_ret
   exact ⟨qa1, qH HB.out⟩
  ·rw [if_neg c9] at H
   have c9b0 := decide_eq_false c9; clear c9; obtain rfl := Option.some.inj H
   go_enter Try.func107, Try.ntmps107
   go_wp2_with (first | ((with_reducible refine gate_dst (N := 2) rfl ?_); refine qX 2 #[.slice A0_0 l0_0.length c0_0, .slice A0_1 l0_1.length c0_1] 104 ?_; intro gb101 hg w15 hbox hb; have hx_ := qHX HB hb qa0; have BK101 := qO (hbox); have GW101 := qO ((qa3 : w.heap.size ≤ gb101)); have GE101 := GW101; replace HB := qO (below_step (below_step HB.out hx_) hb); clear hx_ hb hbox hg; obtain ⟨hcz16_0, hcz16_1, hfz16_0, hfz16_1⟩ := qb2 BK101.out) | ((with_reducible refine gate_callee (f := 125) rfl ?_); refine qGL 8 Try.func125 #[.agg #[.slice A0_0 l0_0.length c0_0], .int .i64 a1] ?_; (with_reducible refine (laws_szDoc.calls k _ _ l0_0 a1 t102 _ ?side1 ?side2 A3.out).mono ?_); (case side1 => exact qa23); (case side2 => exact HC0_0.out); rintro e w17 ⟨rfl, hb⟩; have hx_ := qHX HB hb qa0; refine ⟨_, rfl, ?_⟩; replace BK101 := qO (qB BK101.out hx_ hb); replace HB := qO (below_step (below_step HB.out hx_) hb); clear hx_ hb; obtain ⟨hcz18_0, hcz18_1, hfz18_0, hfz18_1⟩ := qb2 BK101.out) | ((with_reducible refine gate_callee (f := 11) rfl ?_); refine qGL 14 Try.func11 #[.slice A0_1 l0_1.length c0_1, .int .i64 t102] ?_; (with_reducible refine (laws_szBindingS.calls k _ _ l0_1 t102 t103 _ ?side1 ?side2 A8.out).mono ?_); (case side1 => exact qa61); (case side2 => exact HC0_1.out); rintro e w19 ⟨rfl, hb⟩; have hx_ := qHX HB hb qa0; refine ⟨_, rfl, ?_⟩; replace BK101 := qO (qB BK101.out hx_ hb); replace HB := qO (below_step (below_step HB.out hx_) hb); clear hx_ hb))
   go_ret
   exact ⟨qa1, qH HB.out⟩
set_option maxHeartbeats 8000000
set_option maxRecDepth 100000
def laws_szDone.f (k : Nat) (a0_0 : Int) (a0_1 : Int) (a0_2 : Int) (a0_3 : Int) (a0_4 : Bool) (l0_5 : List (S183)) (l0_6 : List (S77)) (a0_7 : ByteArray) (a1 : Int) : Option (Int) := (laws_szRequest.f k l0_5 l0_6 a1).bind fun t102 => (if t102 < 0 then (some (-1)) else (if (wrap64 (t102 - (a0_7.size : Int))) < 0 then (some (-1)) else (some (wrap64 (t102 - (a0_7.size : Int))))))
theorem laws_szDone.calls (k : Nat) (a0_0 : Int) (a0_1 : Int) (a0_2 : Int) (a0_3 : Int) (a0_4 : Bool) (A0_5 : Option Addr) (c0_5 : Nat) (l0_5 : List (S183)) (A0_6 : Option Addr) (c0_6 : Nat) (l0_6 : List (S77)) (a0_7 : ByteArray) (a1 : Int) (r : Int) (w : World) (hr0_5 : Kd.C k183 w A0_5 l0_5.length l0_5) (hc0_5 : l0_5.length ≤ c0_5) (hr0_6 : Kd.C k77 w A0_6 l0_6.length l0_6) (hc0_6 : l0_6.length ≤ c0_6) (h : laws_szDone.f k a0_0 a0_1 a0_2 a0_3 a0_4 l0_5 l0_6 a0_7 a1 = some r) :
  Calls Try.prog 68 #[.agg #[.int .i64 a0_0, .int .i64 a0_1, .int .i64 a0_2, .int .i64 a0_3, .bool a0_4, .slice A0_5 l0_5.length c0_5, .slice A0_6 l0_6.length c0_6, .string a0_7], .int .i64 a1] w fun e w' => e = .returned (.int .i64 r) ∧ Below w.heap.size w w' := by
 have hu106 := Try.underlying106; have hu104 := Try.underlying104; have HR0_5 := qO hr0_5; have HC0_5 := qO hc0_5; clear hr0_5 hc0_5; have HR0_6 := qO hr0_6; have HC0_6 := qO hc0_6; clear hr0_6 hc0_6; have HB := qO (Below.refl w.heap.size w); have H : ((laws_szRequest.f k l0_5 l0_6 a1).bind fun t102 => (if t102 < 0 then (some (-1)) else (if (wrap64 (t102 - (a0_7.size : Int))) < 0 then (some (-1)) else (some (wrap64 (t102 - (a0_7.size : Int))))))) = some r := h; clear h; replace H := Option.bind_eq_some_iff.mp H; obtain ⟨t102, A30, H⟩ := H; have A3 := qO A30; clear A30
 by_cases c4 : t102 < 0
 ·rw [if_pos c4] at H
  have c4b0 := decide_eq_true c4; clear c4; obtain rfl := Option.some.inj H
  go_enter Try.func68, Try.ntmps68
  go_wp2_with (first | ((with_reducible refine gate_dst (N := 2) rfl ?_); refine qX 2 #[.int .i64 a0_0, .int .i64 a0_1, .int .i64 a0_2, .int .i64 a0_3, .bool a0_4, .slice A0_5 l0_5.length c0_5, .slice A0_6 l0_6.length c0_6, .string a0_7] 106 ?_; intro gb101 hg w5 hbox hb; have hx_ := qHX HB hb qa0; have BK101 := qO (hbox); have GW101 := qO ((qa3 : w.heap.size ≤ gb101)); have GE101 := GW101; replace HB := qO (below_step (below_step HB.out hx_) hb); clear hx_ hb hbox hg; have hcz6_0 := qc0 BK101.out; have hcz6_1 := qc1 BK101.out; have hcz6_2 := qc2 BK101.out; have hcz6_3 := qc3 BK101.out; have hcz6_4 := qc4 BK101.out; have hcz6_5 := qc5 BK101.out; have hcz6_6 : w5.cell? ⟨gb101, 6, none⟩ = some (.slice A0_6 l0_6.length c0_6) := (blk_cell BK101.out 6).trans rfl; have hcz6_7 : w5.cell? ⟨gb101, 7, none⟩ = some (.string a0_7) := (blk_cell BK101.out 7).trans rfl; have hfz6_0 := blk_frozen BK101.out 0; have hfz6_1 := blk_frozen BK101.out 1; have hfz6_2 := blk_frozen BK101.out 2; have hfz6_3 := blk_frozen BK101.out 3; have hfz6_4 := blk_frozen BK101.out 4; have hfz6_5 := blk_frozen BK101.out 5; have hfz6_6 := blk_frozen BK101.out 6; have hfz6_7 := blk_frozen BK101.out 7) | ((with_reducible refine gate_callee (f := 107) rfl ?_); refine qGL 8 Try.func107 #[.agg #[.slice A0_5 l0_5.length c0_5, .slice A0_6 l0_6.length c0_6], .int .i64 a1] ?_; (with_reducible refine (laws_szRequest.calls k _ _ l0_5 _ _ l0_6 a1 t102 _ ?side1 ?side2 ?side3 ?side4 A3.out).mono ?_); (case side1 => exact qa27); (case side2 => exact HC0_5.out); (case side3 => exact qa41); (case side4 => exact HC0_6.out); rintro e w7 ⟨rfl, hb⟩; have hx_ := qHX HB hb qa0; refine ⟨_, rfl, ?_⟩; replace BK101 := qO (qB BK101.out hx_ hb); replace HB := qO (below_step (below_step HB.out hx_) hb); clear hx_ hb))
  go_ret
  exact ⟨qa1, qH HB.out⟩
 ·rw [if_neg c4] at H
  have c4b0 := decide_eq_false c4; clear c4
  by_cases c8 : (wrap64 (t102 - (a0_7.size : Int))) < 0
  ·rw [if_pos c8] at H
   have c8b0 := decide_eq_true c8; clear c8; obtain rfl := Option.some.inj H
   go_enter Try.func68, Try.ntmps68
   go_wp2_with (first | ((with_reducible refine gate_dst (N := 2) rfl ?_); refine qX 2 #[.int .i64 a0_0, .int .i64 a0_1, .int .i64 a0_2, .int .i64 a0_3, .bool a0_4, .slice A0_5 l0_5.length c0_5, .slice A0_6 l0_6.length c0_6, .string a0_7] 106 ?_; intro gb101 hg w9 hbox hb; have hx_ := qHX HB hb qa0; have BK101 := qO (hbox); have GW101 := qO ((qa3 : w.heap.size ≤ gb101)); have GE101 := GW101; replace HB := qO (below_step (below_step HB.out hx_) hb); clear hx_ hb hbox hg; have hcz10_0 := qc0 BK101.out; have hcz10_1 := qc1 BK101.out; have hcz10_2 := qc2 BK101.out; have hcz10_3 := qc3 BK101.out; have hcz10_4 := qc4 BK101.out; have hcz10_5 := qc5 BK101.out; have hcz10_6 : w9.cell? ⟨gb101, 6, none⟩ = some (.slice A0_6 l0_6.length c0_6) := (blk_cell BK101.out 6).trans rfl; have hcz10_7 : w9.cell? ⟨gb101, 7, none⟩ = some (.string a0_7) := (blk_cell BK101.out 7).trans rfl; have hfz10_0 := blk_frozen BK101.out 0; have hfz10_1 := blk_frozen BK101.out 1; have hfz10_2 := blk_frozen BK101.out 2; have hfz10_3 := blk_frozen BK101.out 3; have hfz10_4 := blk_frozen BK101.out 4; have hfz10_5 := blk_frozen BK101.out 5; have hfz10_6 := blk_frozen BK101.out 6; have hfz10_7 := blk_frozen BK101.out 7) | ((with_reducible refine gate_callee (f := 107) rfl ?_); refine qGL 8 Try.func107 #[.agg #[.slice A0_5 l0_5.length c0_5, .slice A0_6 l0_6.length c0_6], .int .i64 a1] ?_; (with_reducible refine (laws_szRequest.calls k _ _ l0_5 _ _ l0_6 a1 t102 _ ?side1 ?side2 ?side3 ?side4 A3.out).mono ?_); (case side1 => exact qa27); (case side2 => exact HC0_5.out); (case side3 => exact qa41); (case side4 => exact HC0_6.out); rintro e w11 ⟨rfl, hb⟩; have hx_ := qHX HB hb qa0; refine ⟨_, rfl, ?_⟩; replace BK101 := qO (qB BK101.out hx_ hb); replace HB := qO (below_step (below_step HB.out hx_) hb); clear hx_ hb; have hcz12_0 := qc0 BK101.out; have hcz12_1 := qc1 BK101.out; have hcz12_2 := qc2 BK101.out; have hcz12_3 := qc3 BK101.out; have hcz12_4 := qc4 BK101.out; have hcz12_5 := qc5 BK101.out; have hcz12_6 : w11.cell? ⟨gb101, 6, none⟩ = some (.slice A0_6 l0_6.length c0_6) := (blk_cell BK101.out 6).trans rfl; have hcz12_7 : w11.cell? ⟨gb101, 7, none⟩ = some (.string a0_7) := (blk_cell BK101.out 7).trans rfl; have hfz12_0 := blk_frozen BK101.out 0; have hfz12_1 := blk_frozen BK101.out 1; have hfz12_2 := blk_frozen BK101.out 2; have hfz12_3 := blk_frozen BK101.out 3; have hfz12_4 := blk_frozen BK101.out 4; have hfz12_5 := blk_frozen BK101.out 5; have hfz12_6 := blk_frozen BK101.out 6; have hfz12_7 := blk_frozen BK101.out 7))
   go_ret
   exact ⟨qa1, qH HB.out⟩
  ·rw [if_neg c8] at H
   have c8b0 := decide_eq_false c8; clear c8; obtain rfl := Option.some.inj H
   go_enter Try.func68, Try.ntmps68
   go_wp2_with (first | ((with_reducible refine gate_dst (N := 2) rfl ?_); refine qX 2 #[.int .i64 a0_0, .int .i64 a0_1, .int .i64 a0_2, .int .i64 a0_3, .bool a0_4, .slice A0_5 l0_5.length c0_5, .slice A0_6 l0_6.length c0_6, .string a0_7] 106 ?_; intro gb101 hg w13 hbox hb; have hx_ := qHX HB hb qa0; have BK101 := qO (hbox); have GW101 := qO ((qa3 : w.heap.size ≤ gb101)); have GE101 := GW101; replace HB := qO (below_step (below_step HB.out hx_) hb); clear hx_ hb hbox hg; have hcz14_0 := qc0 BK101.out; have hcz14_1 := qc1 BK101.out; have hcz14_2 := qc2 BK101.out; have hcz14_3 := qc3 BK101.out; have hcz14_4 := qc4 BK101.out; have hcz14_5 := qc5 BK101.out; have hcz14_6 : w13.cell? ⟨gb101, 6, none⟩ = some (.slice A0_6 l0_6.length c0_6) := (blk_cell BK101.out 6).trans rfl; have hcz14_7 : w13.cell? ⟨gb101, 7, none⟩ = some (.string a0_7) := (blk_cell BK101.out 7).trans rfl; have hfz14_0 := blk_frozen BK101.out 0; have hfz14_1 := blk_frozen BK101.out 1; have hfz14_2 := blk_frozen BK101.out 2; have hfz14_3 := blk_frozen BK101.out 3; have hfz14_4 := blk_frozen BK101.out 4; have hfz14_5 := blk_frozen BK101.out 5; have hfz14_6 := blk_frozen BK101.out 6; have hfz14_7 := blk_frozen BK101.out 7) | ((with_reducible refine gate_callee (f := 107) rfl ?_); refine qGL 8 Try.func107 #[.agg #[.slice A0_5 l0_5.length c0_5, .slice A0_6 l0_6.length c0_6], .int .i64 a1] ?_; (with_reducible refine (laws_szRequest.calls k _ _ l0_5 _ _ l0_6 a1 t102 _ ?side1 ?side2 ?side3 ?side4 A3.out).mono ?_); (case side1 => exact qa27); (case side2 => exact HC0_5.out); (case side3 => exact qa41); (case side4 => exact HC0_6.out); rintro e w15 ⟨rfl, hb⟩; have hx_ := qHX HB hb qa0; refine ⟨_, rfl, ?_⟩; replace BK101 := qO (qB BK101.out hx_ hb); replace HB := qO (below_step (below_step HB.out hx_) hb); clear hx_ hb; have hcz16_0 := qc0 BK101.out; have hcz16_1 := qc1 BK101.out; have hcz16_2 := qc2 BK101.out; have hcz16_3 := qc3 BK101.out; have hcz16_4 := qc4 BK101.out; have hcz16_5 := qc5 BK101.out; have hcz16_6 : w15.cell? ⟨gb101, 6, none⟩ = some (.slice A0_6 l0_6.length c0_6) := (blk_cell BK101.out 6).trans rfl; have hcz16_7 : w15.cell? ⟨gb101, 7, none⟩ = some (.string a0_7) := (blk_cell BK101.out 7).trans rfl; have hfz16_0 := blk_frozen BK101.out 0; have hfz16_1 := blk_frozen BK101.out 1; have hfz16_2 := blk_frozen BK101.out 2; have hfz16_3 := blk_frozen BK101.out 3; have hfz16_4 := blk_frozen BK101.out 4; have hfz16_5 := blk_frozen BK101.out 5; have hfz16_6 := blk_frozen BK101.out 6; have hfz16_7 := blk_frozen BK101.out 7))
   go_ret
   exact ⟨qa1, qH HB.out⟩
set_option maxHeartbeats 8000000
set_option maxRecDepth 100000
def laws_szDoneS.l0 : Nat → List (S106) → Int → Int → Option (Int)
 | 0, _, _, _ => none
 | k + 1, x0, x1, x5 => if x5 < (x0.length : Int) then (if 0 ≤ x5 then ((laws_szDone.f k ((rd_T106 x0 x5).f0) ((rd_T106 x0 x5).f1) ((rd_T106 x0 x5).f2) ((rd_T106 x0 x5).f3) ((rd_T106 x0 x5).f4) ((rd_T106 x0 x5).f5.f0.f0) ((rd_T106 x0 x5).f5.f1) ((rd_T106 x0 x5).f6) x1).bind fun t102 => (if t102 < 0 then (some (-1)) else (laws_szDoneS.l0 k x0 t102 (wrap64 (x5 + 1))))) else (none)) else (some x1)
def laws_szDoneS.f (k : Nat) (l0 : List (S106)) (a1 : Int) : Option (Int) := if (wrap64 (a1 - (l0.length : Int))) < 0 then (some (-1)) else (laws_szDoneS.l0 k l0 (wrap64 (a1 - (l0.length : Int))) 0)
theorem laws_szDoneS.calls (k : Nat) (A0 : Option Addr) (c0 : Nat) (l0 : List (S106)) (a1 : Int) (r : Int) (w : World) (hr0 : Kd.C k106 w A0 l0.length l0) (hc0 : l0.length ≤ c0) (h : laws_szDoneS.f k l0 a1 = some r) :
  Calls Try.prog 28 #[.slice A0 l0.length c0, .int .i64 a1] w fun e w' => e = .returned (.int .i64 r) ∧ Below w.heap.size w w' := by
 have hu106 := Try.underlying106; have HR0 := qO hr0; have HC0 := qO hc0; clear hr0 hc0; have HB := qO (Below.refl w.heap.size w); have H : (if (wrap64 (a1 - (l0.length : Int))) < 0 then (some (-1)) else (laws_szDoneS.l0 k l0 (wrap64 (a1 - (l0.length : Int))) 0)) = some r := h; clear h
 by_cases c3 : (wrap64 (a1 - (l0.length : Int))) < 0
 ·rw [if_pos c3] at H
  have c3b0 := decide_eq_true c3; clear c3; obtain rfl := Option.some.inj H
  go_enter Try.func28, Try.ntmps28
  go_wp2
  go_ret
  exact ⟨qa1, qH HB.out⟩
 ·rw [if_neg c3] at H
  have c3b0 := decide_eq_false c3; clear c3; have H' := qO H; clear H
  go_enter Try.func28, Try.ntmps28
  go_wp2
  go_loopg [1, 5] k (fun kq v1 v5 w' => ∃ (x1_1 : Int) (x5_1 : Int), v1 = .int .i64 x1_1 ∧ v5 = .int .i64 x5_1 ∧ Aside0 (laws_szDoneS.l0 kq l0 x1_1 x5_1 = some r) ∧ Aside0 (kq ≤ k) ∧ Aside0 (Below w.heap.size w w'))
  case atStart => exact ⟨(wrap64 (a1 - (l0.length : Int))), (0), qa4, qa4, H', ⟨Nat.le_refl _⟩, ⟨qH HB.out⟩⟩
  case round =>
   clear H'
   obtain ⟨x1_1, x5_1, rfl, rfl, HA, HK1, HB⟩ := hrel
   cases gk with
   | zero => exact absurd HA.out (by simp [laws_szDoneS.l0])
   | succ k1 =>
    have H := HA.out; clear HA; simp only [laws_szDoneS.l0] at H
    by_cases c4 : x5_1 < (l0.length : Int)
    ·rw [if_pos c4] at H
     have c4b0 := decide_eq_true c4; clear c4
     by_cases c5 : 0 ≤ x5_1
     ·rw [if_pos c5] at H
      have c5b0 := decide_eq_true c5; clear c5; replace H := Option.bind_eq_some_iff.mp H; obtain ⟨t102, A60, H⟩ := H; have A6 := qO A60; clear A60
      by_cases c7 : t102 < 0
      ·rw [if_pos c7] at H
       have c7b0 := decide_eq_true c7; clear c7; obtain rfl := Option.some.inj H; have p101 : 0 ≤ (x5_1 : Int) := qT qa2; have q101 : x5_1 < (l0.length : Int) := qT qa2; obtain ⟨ad101, A101_5, c101_5, A101_6, c101_6, e101, hx101_0, hx101_1, hx101_2, hx101_3, hx101_4, hx101_5, hx101_6, hx101_7, hl101_5, hi101_5, hl101_6, hi101_6⟩ := at_T106 HR0.out x5_1 p101 q101
       cases e101
       replace hx101_0 := (HB.out.cell (qL w _ hx101_0)).trans hx101_0; replace hx101_1 := (HB.out.cell (qL w _ hx101_1)).trans hx101_1; replace hx101_2 := (HB.out.cell (qL w _ hx101_2)).trans hx101_2; replace hx101_3 := (HB.out.cell (qL w _ hx101_3)).trans hx101_3; replace hx101_4 := (HB.out.cell (qL w _ hx101_4)).trans hx101_4; replace hx101_5 := (HB.out.cell (qL w _ hx101_5)).trans hx101_5; replace hx101_6 := (HB.out.cell (qL w _ hx101_6)).trans hx101_6; replace hx101_7 := (HB.out.cell (qL w _ hx101_7)).trans hx101_7; have HR101_5 := qO hi101_5; have HC101_5 := qO hl101_5; clear hi101_5 hl101_5; have HR101_6 := qO hi101_6; have HC101_6 := qO hl101_6; clear hi101_6 hl101_6; replace p101 := eq_true p101; replace q101 := eq_true q101
       go_wp2_with (first | ((with_reducible refine gate_callee (f := 68) rfl ?_); refine qGL 23 Try.func68 #[.agg #[.int .i64 ((rd_T106 l0 x5_1).f0), .int .i64 ((rd_T106 l0 x5_1).f1), .int .i64 ((rd_T106 l0 x5_1).f2), .int .i64 ((rd_T106 l0 x5_1).f3), .bool ((rd_T106 l0 x5_1).f4), .slice A101_5 ((rd_T106 l0 x5_1).f5.f0.f0).length c101_5, .slice A101_6 ((rd_T106 l0 x5_1).f5.f1).length c101_6, .string ((rd_T106 l0 x5_1).f6)], .int .i64 x1_1] ?_; (with_reducible refine (laws_szDone.calls k1 ((rd_T106 l0 x5_1).f0) ((rd_T106 l0 x5_1).f1) ((rd_T106 l0 x5_1).f2) ((rd_T106 l0 x5_1).f3) ((rd_T106 l0 x5_1).f4) _ _ ((rd_T106 l0 x5_1).f5.f0.f0) _ _ ((rd_T106 l0 x5_1).f5.f1) ((rd_T106 l0 x5_1).f6) x1_1 t102 _ ?side1 ?side2 ?side3 ?side4 A6.out).mono ?_); (case side1 => exact qa32); (case side2 => exact HC101_5.out); (case side3 => exact qa57); (case side4 => exact HC101_6.out); rintro e w8 ⟨rfl, hb⟩; have hx_ := qHX HB hb qa0; refine ⟨_, rfl, ?_⟩; replace HB := qO (below_step (below_step HB.out hx_) hb); clear hx_ hb))
       go_ret
       exact ⟨qa1, qH HB.out⟩
      ·rw [if_neg c7] at H
       have c7b0 := decide_eq_false c7; clear c7; have H' := qO H; clear H; have p101 : 0 ≤ (x5_1 : Int) := qT qa2; have q101 : x5_1 < (l0.length : Int) := qT qa2; obtain ⟨ad101, A101_5, c101_5, A101_6, c101_6, e101, hx101_0, hx101_1, hx101_2, hx101_3, hx101_4, hx101_5, hx101_6, hx101_7, hl101_5, hi101_5, hl101_6, hi101_6⟩ := at_T106 HR0.out x5_1 p101 q101
       cases e101
       replace hx101_0 := (HB.out.cell (qL w _ hx101_0)).trans hx101_0; replace hx101_1 := (HB.out.cell (qL w _ hx101_1)).trans hx101_1; replace hx101_2 := (HB.out.cell (qL w _ hx101_2)).trans hx101_2; replace hx101_3 := (HB.out.cell (qL w _ hx101_3)).trans hx101_3; replace hx101_4 := (HB.out.cell (qL w _ hx101_4)).trans hx101_4; replace hx101_5 := (HB.out.cell (qL w _ hx101_5)).trans hx101_5; replace hx101_6 := (HB.out.cell (qL w _ hx101_6)).trans hx101_6; replace hx101_7 := (HB.out.cell (qL w _ hx101_7)).trans hx101_7; have HR101_5 := qO hi101_5; have HC101_5 := qO hl101_5; clear hi101_5 hl101_5; have HR101_6 := qO hi101_6; have HC101_6 := qO hl101_6; clear hi101_6 hl101_6; replace p101 := eq_true p101; replace q101 := eq_true q101
       go_wp2_with (first | ((with_reducible refine gate_callee (f := 68) rfl ?_); refine qGL 23 Try.func68 #[.agg #[.int .i64 ((rd_T106 l0 x5_1).f0), .int .i64 ((rd_T106 l0 x5_1).f1), .int .i64 ((rd_T106 l0 x5_1).f2), .int .i64 ((rd_T106 l0 x5_1).f3), .bool ((rd_T106 l0 x5_1).f4), .slice A101_5 ((rd_T106 l0 x5_1).f5.f0.f0).length c101_5, .slice A101_6 ((rd_T106 l0 x5_1).f5.f1).length c101_6, .string ((rd_T106 l0 x5_1).f6)], .int .i64 x1_1] ?_; (with_reducible refine (laws_szDone.calls k1 ((rd_T106 l0 x5_1).f0) ((rd_T106 l0 x5_1).f1) ((rd_T106 l0 x5_1).f2) ((rd_T106 l0 x5_1).f3) ((rd_T106 l0 x5_1).f4) _ _ ((rd_T106 l0 x5_1).f5.f0.f0) _ _ ((rd_T106 l0 x5_1).f5.f1) ((rd_T106 l0 x5_1).f6) x1_1 t102 _ ?side1 ?side2 ?side3 ?side4 A6.out).mono ?_); (case side1 => exact qa32); (case side2 => exact HC101_5.out); (case side3 => exact qa57); (case side4 => exact HC101_6.out); rintro e w9 ⟨rfl, hb⟩; have hx_ := qHX HB hb qa0; refine ⟨_, rfl, ?_⟩; replace HB := qO (below_step (below_step HB.out hx_) hb); clear hx_ hb))
       go_roundg k1
       case measure => have := HK1.out; omega
       case rel => exact ⟨(t102), (wrap64 (x5_1 + 1)), qa4, qa4, H', ⟨qa9⟩, ⟨qH HB.out⟩⟩
     ·rw [if_neg c5] at H
      exact absurd H qa12
    ·rw [if_neg c4] at H
     have c4b0 := decide_eq_false c4; clear c4; obtain rfl := Option.some.inj H; go_wp2
     go_ret
     exact ⟨qa1, qH HB.out⟩
set_option maxHeartbeats 8000000
set_option maxRecDepth 100000
def laws_toValue.f (a0_0 : Int) (a0_1 : Int) (a0_2 : ByteArray) : Option (Int × Int × ByteArray) := some (a0_0, a0_1, a0_2)
theorem laws_toValue.calls (a0_0 : Int) (a0_1 : Int) (a0_2 : ByteArray) (r1 : Int) (r2 : Int) (r3 : ByteArray) (w : World) (h : laws_toValue.f a0_0 a0_1 a0_2 = some (r1, r2, r3)) :
  Calls Try.prog 18 #[.agg #[.int .i64 a0_0, .int .i64 a0_1, .string a0_2]] w fun e w' => e = .returned (.agg #[.int .i64 r1, .int .i64 r2, .string r3]) ∧ Below w.heap.size w w' := by
 have hu30 := Try.underlying30; have hu32 := Try.underlying32; have HB := qO (Below.refl w.heap.size w); have H : (some (a0_0, a0_1, a0_2)) = some (r1, r2, r3) := h; clear h; simp only [Option.some.injEq, Prod.mk.injEq] at H; obtain ⟨rfl, rfl, rfl⟩ := H
 go_enter Try.func18, Try.ntmps18
 go_wp2_with (first | ((with_reducible refine gate_dst (N := 1) rfl ?_); refine qX 1 #[.int .i64 a0_0, .int .i64 a0_1, .string a0_2] 30 ?_; intro gb101 hg w2 hbox hb; have hx_ := qHX HB hb qa0; have BK101 := qO (hbox); have GW101 := qO ((qa3 : w.heap.size ≤ gb101)); have GE101 := GW101; replace HB := qO (below_step (below_step HB.out hx_) hb); clear hx_ hb hbox hg) | ((with_reducible refine gate_dst (N := 2) rfl ?_); refine qX 2 #[.int .i64 0, .int .i64 0, .string (⟨#[]⟩ : ByteArray)] 32 ?_; intro gb102 hg w3 hbox hb; have hx_ := qHX HB hb qa0; have BK102 := qO (hbox); have GW102 := qO ((qa3 : w.heap.size ≤ gb102)); have GE102 := GW102; have NB101_102 := qO ((qLt hg (qk BK101.out))); have NB102_101 := qO (Ne.symm NB101_102.out); replace BK101 := qO (qB BK101.out hx_ hb); replace HB := qO (below_step (below_step HB.out hx_) hb); clear hx_ hb hbox hg) | ((with_reducible refine gate_dst (N := 3) rfl ?_); refine qX 3 #[.int .i64 0, .int .i64 0, .string (⟨#[]⟩ : ByteArray)] 32 ?_; intro gb103 hg w4 hbox hb; have hx_ := qHX HB hb qa0; have BK103 := qO (hbox); have GW103 := qO ((qa3 : w.heap.size ≤ gb103)); have GE103 := GW103; have NB101_103 := qO ((qLt hg (qk BK101.out))); have NB103_101 := qO (Ne.symm NB101_103.out); have NB102_103 := qO ((qLt hg (qk BK102.out))); have NB103_102 := qO (Ne.symm NB102_103.out); replace BK101 := qO (qB BK101.out hx_ hb); replace BK102 := qO (qB BK102.out hx_ hb); replace HB := qO (below_step (below_step HB.out hx_) hb); clear hx_ hb hbox hg; have hnb5 := NB101_102.out; have hnc5 := NB102_101.out; have hnb6 := NB101_103.out; have hnc6 := NB103_101.out; obtain ⟨hcz7_0, hcz7_1, hcz7_2, hfz7_0, hfz7_1, hfz7_2⟩ := qb3 BK101.out; have hnb8 := NB103_102.out; have hnc8 := NB102_103.out; obtain ⟨hcz9_0, hcz9_1, hcz9_2, hfz9_0, hfz9_1, hfz9_2⟩ := qb3 BK103.out; obtain ⟨hcz10_0, hcz10_1, hcz10_2, hfz10_0, hfz10_1, hfz10_2⟩ := qb3 BK102.out))
 refine bodyPost_ret (results_cell_row rfl _ _ gb102 32 #[.int .i64 a0_0, .int .i64 a0_1, .string a0_2] (0, 0) _ rfl (qU (qU (qU (qF (qF (qF BK102.out NB102_103.out) NB102_103.out) NB102_103.out)))) Try.underlying32 rfl qa8) rfl ?_
 exact ⟨qa1, qH HB.out⟩
set_option maxHeartbeats 8000000
set_option maxRecDepth 100000
def laws_toBinding.f (a0_0 : ByteArray) (a0_1 : Int) (a0_2 : Int) (a0_3 : ByteArray) : Option (ByteArray × Int × Int × ByteArray) := (laws_toValue.f a0_1 a0_2 a0_3).bind fun bt104 => (some (a0_0, bt104.1, bt104.2.1, bt104.2.2))
theorem laws_toBinding.calls (a0_0 : ByteArray) (a0_1 : Int) (a0_2 : Int) (a0_3 : ByteArray) (r1 : ByteArray) (r2 : Int) (r3 : Int) (r4 : ByteArray) (w : World) (h : laws_toBinding.f a0_0 a0_1 a0_2 a0_3 = some (r1, r2, r3, r4)) :
  Calls Try.prog 49 #[.agg #[.string a0_0, .int .i64 a0_1, .int .i64 a0_2, .string a0_3]] w fun e w' => e = .returned (.agg #[.string r1, .int .i64 r2, .int .i64 r3, .string r4]) ∧ Below w.heap.size w w' := by
 have hu77 := Try.underlying77; have hu80 := Try.underlying80; have hu30 := Try.underlying30; have hu32 := Try.underlying32; have HB := qO (Below.refl w.heap.size w); have H : ((laws_toValue.f a0_1 a0_2 a0_3).bind fun bt104 => (some (a0_0, bt104.1, bt104.2.1, bt104.2.2))) = some (r1, r2, r3, r4) := h; clear h; replace H := Option.bind_eq_some_iff.mp H; obtain ⟨⟨t104, t105, t106⟩, A20, H⟩ := H; replace H : (some (a0_0, t104, t105, t106)) = some (r1, r2, r3, r4) := H; have A2 := qO A20; clear A20; simp only [Option.some.injEq, Prod.mk.injEq] at H; obtain ⟨rfl, rfl, rfl, rfl⟩ := H
 go_enter Try.func49, Try.ntmps49
 go_wp2_with (first | ((with_reducible refine gate_dst (N := 1) rfl ?_); refine qX 1 #[.string a0_0, .int .i64 a0_1, .int .i64 a0_2, .string a0_3] 77 ?_; intro gb101 hg w3 hbox hb; have hx_ := qHX HB hb qa0; have BK101 := qO (hbox); have GW101 := qO ((qa3 : w.heap.size ≤ gb101)); have GE101 := GW101; replace HB := qO (below_step (below_step HB.out hx_) hb); clear hx_ hb hbox hg) | ((with_reducible refine gate_dst (N := 2) rfl ?_); refine qX 2 #[.string (⟨#[]⟩ : ByteArray), .int .i64 0, .int .i64 0, .string (⟨#[]⟩ : ByteArray)] 80 ?_; intro gb102 hg w4 hbox hb; have hx_ := qHX HB hb qa0; have BK102 := qO (hbox); have GW102 := qO ((qa3 : w.heap.size ≤ gb102)); have GE102 := GW102; have NB101_102 := qO ((qLt hg (qk BK101.out))); have NB102_101 := qO (Ne.symm NB101_102.out); replace BK101 := qO (qB BK101.out hx_ hb); replace HB := qO (below_step (below_step HB.out hx_) hb); clear hx_ hb hbox hg) | ((with_reducible refine gate_dst (N := 3) rfl ?_); refine qX 3 #[.string (⟨#[]⟩ : ByteArray), .int .i64 0, .int .i64 0, .string (⟨#[]⟩ : ByteArray)] 80 ?_; intro gb103 hg w5 hbox hb; have hx_ := qHX HB hb qa0; have BK103 := qO (hbox); have GW103 := qO ((qa3 : w.heap.size ≤ gb103)); have GE103 := GW103; have NB101_103 := qO ((qLt hg (qk BK101.out))); have NB103_101 := qO (Ne.symm NB101_103.out); have NB102_103 := qO ((qLt hg (qk BK102.out))); have NB103_102 := qO (Ne.symm NB102_103.out); replace BK101 := qO (qB BK101.out hx_ hb); replace BK102 := qO (qB BK102.out hx_ hb); replace HB := qO (below_step (below_step HB.out hx_) hb); clear hx_ hb hbox hg; have hnb6 := NB101_102.out; have hnc6 := NB102_101.out; have hnb7 := NB101_103.out; have hnc7 := NB103_101.out; obtain ⟨hcz8_0, hcz8_1, hcz8_2, hcz8_3, hfz8_0, hfz8_1, hfz8_2, hfz8_3⟩ := qb4 BK101.out; have hnb9 := NB103_102.out; have hnc9 := NB102_103.out; obtain ⟨hcz10_0, hcz10_1, hcz10_2, hcz10_3, hfz10_0, hfz10_1, hfz10_2, hfz10_3⟩ := qb4 BK103.out) | ((with_reducible refine gate_callee (f := 18) rfl ?_); refine qGL 9 Try.func18 #[.agg #[.int .i64 a0_1, .int .i64 a0_2, .string a0_3]] ?_; (with_reducible refine (laws_toValue.calls a0_1 a0_2 a0_3 t104 t105 t106 _ A2.out).mono ?_); rintro e w11 ⟨rfl, hb⟩; refine ⟨_, rfl, ?_⟩; replace BK101 := qO (blk_below (g := gb101) (o := .cells #[.string a0_0, .int .i64 a0_1, .int .i64 a0_2, .string a0_3] 77 (0, 0)) (qF BK101.out NB101_103.out) hb); replace BK102 := qO (blk_below (g := gb102) (o := .cells #[.string (⟨#[]⟩ : ByteArray), .int .i64 0, .int .i64 0, .string (⟨#[]⟩ : ByteArray)] 80 (0, 0)) (qF BK102.out NB102_103.out) hb); replace BK103 := qO (blk_below (g := gb103) (o := .cells #[.string a0_0, .int .i64 0, .int .i64 0, .string (⟨#[]⟩ : ByteArray)] 80 (0, 0)) (qU BK103.out) hb); replace HB := qO (below_step (qH HB.out) hb); clear hb; obtain ⟨hcz12_0, hcz12_1, hcz12_2, hcz12_3, hfz12_0, hfz12_1, hfz12_2, hfz12_3⟩ := qb4 BK103.out; obtain ⟨hcz13_0, hcz13_1, hcz13_2, hcz13_3, hfz13_0, hfz13_1, hfz13_2, hfz13_3⟩ := qb4 BK102.out))
 refine bodyPost_ret (results_cell_row rfl _ _ gb102 80 #[.string a0_0, .int .i64 t104, .int .i64 t105, .string t106] (0, 0) _ rfl (qU (qU (qU (qU (qF (qF (qF BK102.out NB102_103.out) NB102_103.out) NB102_103.out))))) Try.underlying80 rfl qa8) rfl ?_
 exact ⟨qa1, qH HB.out⟩
set_option maxHeartbeats 8000000
set_option maxRecDepth 100000
def laws_toBindingS.l0 : Nat → List (S77) → List (S80) → Int → Option ((List (S80)))
 | 0, _, _, _ => none
 | k + 1, x0, x3, x4 => if x4 < (x0.length : Int) then (if 0 ≤ x4 then ((laws_toBinding.f ((rd_T77 x0 x4).f0) ((rd_T77 x0 x4).f1.f0) ((rd_T77 x0 x4).f1.f1) ((rd_T77 x0 x4).f1.f2)).bind fun bt105 => (if x4 < (x3.length : Int) then (laws_toBindingS.l0 k x0 (x3.set (x4 : Int).toNat (⟨bt105.1, (⟨bt105.2.1, bt105.2.2.1, bt105.2.2.2⟩ : S32)⟩ : S80)) (wrap64 (x4 + 1))) else (none))) else (none)) else (some x3)
def laws_toBindingS.f (k : Nat) (l0 : List (S77)) : Option ((List (S80))) := if 0 ≤ (l0.length : Int) then (if ((l0.length : Int) : Int).toNat ≤ 5864062014805 then (laws_toBindingS.l0 k l0 (List.replicate ((l0.length : Int) : Int).toNat z80) 0) else (none)) else (none)
theorem laws_toBindingS.calls (k : Nat) (A0 : Option Addr) (c0 : Nat) (l0 : List (S77)) (r : List (S80)) (w : World) (hr0 : Kd.C k77 w A0 l0.length l0) (hc0 : l0.length ≤ c0) (h : laws_toBindingS.f k l0 = some r) :
  Calls Try.prog 13 #[.slice A0 l0.length c0] w fun e w' => ∃ v0_ : Value, e = .returned (v0_) ∧ Kd.R k80 80 w' w.heap.size (fun _ => True) v0_ r ∧ Below w.heap.size w w' := by
 have hu77 := Try.underlying77; have hu80 := Try.underlying80; have HR0 := qO hr0; have HC0 := qO hc0; clear hr0 hc0; have HB := qO (Below.refl w.heap.size w); have H : (if 0 ≤ (l0.length : Int) then (if ((l0.length : Int) : Int).toNat ≤ 5864062014805 then (laws_toBindingS.l0 k l0 (List.replicate ((l0.length : Int) : Int).toNat z80) 0) else (none)) else (none)) = some r := h; clear h
 by_cases c2 : 0 ≤ (l0.length : Int)
 ·rw [if_pos c2] at H
  have c2b0 := eq_true c2; have c2b1 := decide_eq_true c2; clear c2
  by_cases c3 : ((l0.length : Int) : Int).toNat ≤ 5864062014805
  ·rw [if_pos c3] at H
   have c3b0 := eq_true c3; have c3b1 := decide_eq_true c3; clear c3; obtain ⟨y101, hy101⟩ : ∃ y_ : List (S80), y_ = (List.replicate ((l0.length : Int) : Int).toNat z80) := ⟨_, rfl⟩; (first | replace H := qsb hy101 H | rw [← hy101] at H)
   have Ny101 := qO hy101; clear hy101; have H' := qO H; clear H
   go_enter Try.func13, Try.ntmps13
   go_wp2_with (first | ((with_reducible refine gate_dst (N := 7) rfl ?_); refine Kd.R_make k80 _ 80 rfl (N := 7) rfl 25 _ _ rfl (l0.length : Int) rfl rfl Try.underlying25 (.agg #[(.string ⟨#[]⟩), (.int .i64 0), (.int .i64 0), (.string ⟨#[]⟩)]) 48 info80 rfl qa20 qa5 z80 (ok := fun _ => True) (okp := fun _ => True) (k80_mkM _ _ _ z80 ) (fun _ hk => hk) trivial (qT qa2) (Nat.le_trans (Nat.mul_le_mul_right _ (qT qa2 : (l0.length : Int).toNat ≤ 5864062014805)) qa5) (Below.refl _ _) (Nat.le_refl _) ?_; intro v102 w4 ho5 hb hg_ hnew_; clear hg_ hnew_; (first | rw [← Ny101.out] at ho5 | (simp only [Int.reduceToNat] at ho5; rw [← Ny101.out] at ho5)); have HO103 := qO (Kd.R_lower ho5 (below_size (qH HB.out))); replace HB := qO (below_step (qH HB.out) hb); clear hb ho5))
   go_loopg [4] k (fun kq v4 w' => ∃ (x3_1 : List (S80)) (x4_1 : Int), v4 = .int .i64 x4_1 ∧ Aside0 (laws_toBindingS.l0 kq l0 x3_1 x4_1 = some r) ∧ Aside0 (kq ≤ k) ∧ Aside0 (Kd.R k80 80 w' w.heap.size (fun _ => True) v102 x3_1) ∧ Aside0 (Below w.heap.size w w'))
   case atStart => exact ⟨(y101), (0), qa4, H', ⟨Nat.le_refl _⟩, ⟨qrR HO103.out⟩, ⟨qH HB.out⟩⟩
   case round =>
    clear H'
    obtain ⟨x3_1, x4_1, rfl, HA, HK1, HO_3, HB⟩ := hrel
    cases gk with
    | zero => exact absurd HA.out (by simp [laws_toBindingS.l0])
    | succ k1 =>
     have H := HA.out; clear HA; simp only [laws_toBindingS.l0] at H
     by_cases c6 : x4_1 < (l0.length : Int)
     ·rw [if_pos c6] at H
      have c6b0 := decide_eq_true c6; clear c6
      by_cases c7 : 0 ≤ x4_1
      ·rw [if_pos c7] at H
       have c7b0 := decide_eq_true c7; clear c7; replace H := Option.bind_eq_some_iff.mp H; obtain ⟨⟨t105, t106, t107, t108⟩, A80, H⟩ := H; replace H : (if x4_1 < (x3_1.length : Int) then (laws_toBindingS.l0 k1 l0 (x3_1.set (x4_1 : Int).toNat (⟨t105, (⟨t106, t107, t108⟩ : S32)⟩ : S80)) (wrap64 (x4_1 + 1))) else (none)) = some r := H; have A8 := qO A80; clear A80
       by_cases c9 : x4_1 < (x3_1.length : Int)
       ·rw [if_pos c9] at H
        have c9b0 := decide_eq_true c9; clear c9; obtain ⟨y109, hy109⟩ : ∃ y_ : List (S80), y_ = (x3_1.set (x4_1 : Int).toNat (⟨t105, (⟨t106, t107, t108⟩ : S32)⟩ : S80)) := ⟨_, rfl⟩; (first | replace H := qsb hy109 H | rw [← hy109] at H)
        have Ny109 := qO hy109; clear hy109; have H' := qO H; clear H; have p104 : 0 ≤ (x4_1 : Int) := qT qa2; have q104 : x4_1 < (l0.length : Int) := qT qa2; obtain ⟨ad104, e104, hx104_0, hx104_1, hx104_2, hx104_3⟩ := at_T77 HR0.out x4_1 p104 q104
        cases e104
        replace hx104_0 := (HB.out.cell (qL w _ hx104_0)).trans hx104_0; replace hx104_1 := (HB.out.cell (qL w _ hx104_1)).trans hx104_1; replace hx104_2 := (HB.out.cell (qL w _ hx104_2)).trans hx104_2; replace hx104_3 := (HB.out.cell (qL w _ hx104_3)).trans hx104_3; replace p104 := eq_true p104; replace q104 := eq_true q104
        go_wp2_with (first | ((with_reducible refine gate_callee (f := 49) rfl ?_); refine qGL 20 Try.func49 #[.agg #[.string ((rd_T77 l0 x4_1).f0), .int .i64 ((rd_T77 l0 x4_1).f1.f0), .int .i64 ((rd_T77 l0 x4_1).f1.f1), .string ((rd_T77 l0 x4_1).f1.f2)]] ?_; (with_reducible refine (laws_toBinding.calls ((rd_T77 l0 x4_1).f0) ((rd_T77 l0 x4_1).f1.f0) ((rd_T77 l0 x4_1).f1.f1) ((rd_T77 l0 x4_1).f1.f2) t105 t106 t107 t108 _ A8.out).mono ?_); rintro e w11 ⟨rfl, hb⟩; have hx_ := qHX HB hb qa0; refine ⟨_, rfl, ?_⟩; replace HO_3 := qO (Kd.R_below (qrR HO_3.out) hb); replace HB := qO (below_step (below_step HB.out hx_) hb); clear hx_ hb; have p10 : 0 ≤ (x4_1 : Int) := qT qa2; have q10 : (x4_1 : Int) < ((x3_1.length : Int) : Int) := qT qa2; obtain ⟨go10, co10, eo10, gb10, gl10, cl10, HG10⟩ := Kd.R_form HO_3.out qa5; (first | cases eo10 | (injection eo10 with ea_ en_ ec_; (first | subst ea_ | (injection ea_ with ea_; subst ea_)); subst ec_; clear en_)); have GB10 := qO gb10; have GG10 := qO HG10; clear gb10 gl10 HG10; obtain ⟨ce10, hcl10, hM10, hcc10, hfr10⟩ := Kd.R_elem HO_3.out z80 (x4_1 : Int) p10 q10; obtain rfl := k80_openM hM10; have hx10_0 : w11.cell? ⟨go10, (x4_1 : Int).toNat * 4, none⟩ = some (.string ((rd_T80 x3_1 x4_1).f0)) := hcc10 0 _ rfl; have hx10_1 : w11.cell? ⟨go10, (x4_1 : Int).toNat * 4 + 1, none⟩ = some (.int .i64 ((rd_T80 x3_1 x4_1).f1.f0)) := hcc10 1 _ rfl; have hx10_2 : w11.cell? ⟨go10, (x4_1 : Int).toNat * 4 + 2, none⟩ = some (.int .i64 ((rd_T80 x3_1 x4_1).f1.f1)) := hcc10 2 _ rfl; have hx10_3 : w11.cell? ⟨go10, (x4_1 : Int).toNat * 4 + 3, none⟩ = some (.string ((rd_T80 x3_1 x4_1).f1.f2)) := hcc10 3 _ rfl; have hf10_0 : w11.frozen? ⟨go10, (x4_1 : Int).toNat * 4, none⟩ = false := hfr10 0; have hf10_1 : w11.frozen? ⟨go10, (x4_1 : Int).toNat * 4 + 1, none⟩ = false := hfr10 1; have hf10_2 : w11.frozen? ⟨go10, (x4_1 : Int).toNat * 4 + 2, none⟩ = false := hfr10 2; have hf10_3 : w11.frozen? ⟨go10, (x4_1 : Int).toNat * 4 + 3, none⟩ = false := hfr10 3; clear hcl10 hcc10 hfr10; (try clear hM10); replace p10 := eq_true p10; replace q10 := eq_true q10; have HX12 := qO (show Kd.R k80 80 w11 w.heap.size (fun _ => True) (.slice (some ⟨go10, 0, none⟩) x3_1.length co10) x3_1 from (qrR HO_3.out)); obtain ⟨ce12, hcl12, hM12, hcc12, hfr12⟩ := Kd.R_elem HX12.out z80 (x4_1 : Int) (qT qa2) (by have h_ : (x4_1 : Int) < ((x3_1.length : Int) : Int) := qT qa2; first | exact h_ | (have e_ := (Kd.R_reads' HO_3.out).1; omega) | simpa using h_); obtain rfl := k80_openM hM12; have HP12 := Kd.R_seg HX12.out (x4_1 : Int) (qT qa2) (by have h_ : (x4_1 : Int) < ((x3_1.length : Int) : Int) := qT qa2; first | exact h_ | (have e_ := (Kd.R_reads' HO_3.out).1; omega) | simpa using h_) (seg := [.string t105, .int .i64 t106, .int .i64 t107, .string t108]) (j := 0) hcl12 hcc12 (show 4 ≤ 4 from by decide) (x' := (⟨t105, (⟨t106, t107, t108⟩ : S32)⟩ : S80)) (k80_mkM _ _ _ (⟨t105, (⟨t106, t107, t108⟩ : S32)⟩ : S80) ) (fun _ hk => hk); have hx12_0 := hcc12 0 _ rfl; (try simp only [show (k80).sz = 4 from rfl, Nat.mul_one, Nat.add_zero] at hx12_0); have hf12_0 := hfr12 0; (try simp only [show (k80).sz = 4 from rfl, Nat.mul_one, Nat.add_zero] at hf12_0); have hx12_1 := hcc12 1 _ rfl; (try simp only [show (k80).sz = 4 from rfl, Nat.mul_one, Nat.add_zero] at hx12_1); have hf12_1 := hfr12 1; (try simp only [show (k80).sz = 4 from rfl, Nat.mul_one, Nat.add_zero] at hf12_1); have hx12_2 := hcc12 2 _ rfl; (try simp only [show (k80).sz = 4 from rfl, Nat.mul_one, Nat.add_zero] at hx12_2); have hf12_2 := hfr12 2; (try simp only [show (k80).sz = 4 from rfl, Nat.mul_one, Nat.add_zero] at hf12_2); have hx12_3 := hcc12 3 _ rfl; (try simp only [show (k80).sz = 4 from rfl, Nat.mul_one, Nat.add_zero] at hx12_3); have hf12_3 := hfr12 3; (try simp only [show (k80).sz = 4 from rfl, Nat.mul_one, Nat.add_zero] at hf12_3); clear hcl12 hcc12 hfr12; (try clear hM12)) | ((with_reducible refine gate_store (t := 80) (p := 21) rfl ?_); refine store_event (t := 80) (p := 21) (v := ?vo_w13) (w1 := ((((w11.setCell ⟨go10, (x4_1 : Int).toNat * 4, none⟩ (.string t105)).setCell ⟨go10, (x4_1 : Int).toNat * 4 + 1, none⟩ (.int .i64 t106)).setCell ⟨go10, (x4_1 : Int).toNat * 4 + 2, none⟩ (.int .i64 t107)).setCell ⟨go10, (x4_1 : Int).toNat * 4 + 3, none⟩ (.string t108))) ?hg ?ho ?hn ?hr ?_; (case ho => rfl); (case hg => rfl); (case hn => rfl); (case hr => exact qa21); intro w13 hw; have hg : w11.grownBy w13 (some go10) := qa53; have hp_ : Kd.R k80 80 w13 w.heap.size (fun _ => True) (.slice (some ⟨go10, 0, none⟩) x3_1.length co10) y109 := qa62; clear HP12; replace HO_3 := qO (hp_); replace HB := qO ((qa24 : Below w.heap.size w w13)); clear hg hw hp_))
        go_roundg k1
        case measure => have := HK1.out; omega
        case rel => exact ⟨(y109), (wrap64 (x4_1 + 1)), qa4, H', ⟨qa9⟩, ⟨qrR HO_3.out⟩, ⟨qH HB.out⟩⟩
       ·rw [if_neg c9] at H
        exact absurd H qa12
      ·rw [if_neg c7] at H
       exact absurd H qa12
     ·rw [if_neg c6] at H
      have c6b0 := decide_eq_false c6; clear c6; obtain rfl := Option.some.inj H; go_wp2
      go_ret
      exact ⟨_, qa1, qrR HO_3.out, qH HB.out⟩
  ·rw [if_neg c3] at H
   exact absurd H qa12
 ·rw [if_neg c2] at H
  exact absurd H qa12
set_option maxHeartbeats 8000000
set_option maxRecDepth 100000
def laws_toArg.f (a0_0 : ByteArray) (a0_1 : Int) (a0_2 : Int) (a0_3 : ByteArray) : Option (ByteArray × Int × Int × ByteArray) := (laws_toValue.f a0_1 a0_2 a0_3).bind fun bt104 => (some (a0_0, bt104.1, bt104.2.1, bt104.2.2))
theorem laws_toArg.calls (a0_0 : ByteArray) (a0_1 : Int) (a0_2 : Int) (a0_3 : ByteArray) (r1 : ByteArray) (r2 : Int) (r3 : Int) (r4 : ByteArray) (w : World) (h : laws_toArg.f a0_0 a0_1 a0_2 a0_3 = some (r1, r2, r3, r4)) :
  Calls Try.prog 164 #[.agg #[.string a0_0, .int .i64 a0_1, .int .i64 a0_2, .string a0_3]] w fun e w' => e = .returned (.agg #[.string r1, .int .i64 r2, .int .i64 r3, .string r4]) ∧ Below w.heap.size w w' := by
 have hu204 := Try.underlying204; have hu172 := Try.underlying172; have hu30 := Try.underlying30; have hu32 := Try.underlying32; have HB := qO (Below.refl w.heap.size w); have H : ((laws_toValue.f a0_1 a0_2 a0_3).bind fun bt104 => (some (a0_0, bt104.1, bt104.2.1, bt104.2.2))) = some (r1, r2, r3, r4) := h; clear h; replace H := Option.bind_eq_some_iff.mp H; obtain ⟨⟨t104, t105, t106⟩, A20, H⟩ := H; replace H : (some (a0_0, t104, t105, t106)) = some (r1, r2, r3, r4) := H; have A2 := qO A20; clear A20; simp only [Option.some.injEq, Prod.mk.injEq] at H; obtain ⟨rfl, rfl, rfl, rfl⟩ := H
 go_enter Try.func164, Try.ntmps164
 go_wp2_with (first | ((with_reducible refine gate_dst (N := 1) rfl ?_); refine qX 1 #[.string a0_0, .int .i64 a0_1, .int .i64 a0_2, .string a0_3] 204 ?_; intro gb101 hg w3 hbox hb; have hx_ := qHX HB hb qa0; have BK101 := qO (hbox); have GW101 := qO ((qa3 : w.heap.size ≤ gb101)); have GE101 := GW101; replace HB := qO (below_step (below_step HB.out hx_) hb); clear hx_ hb hbox hg) | ((with_reducible refine gate_dst (N := 2) rfl ?_); refine qX 2 #[.string (⟨#[]⟩ : ByteArray), .int .i64 0, .int .i64 0, .string (⟨#[]⟩ : ByteArray)] 172 ?_; intro gb102 hg w4 hbox hb; have hx_ := qHX HB hb qa0; have BK102 := qO (hbox); have GW102 := qO ((qa3 : w.heap.size ≤ gb102)); have GE102 := GW102; have NB101_102 := qO ((qLt hg (qk BK101.out))); have NB102_101 := qO (Ne.symm NB101_102.out); replace BK101 := qO (qB BK101.out hx_ hb); replace HB := qO (below_step (below_step HB.out hx_) hb); clear hx_ hb hbox hg) | ((with_reducible refine gate_dst (N := 3) rfl ?_); refine qX 3 #[.string (⟨#[]⟩ : ByteArray), .int .i64 0, .int .i64 0, .string (⟨#[]⟩ : ByteArray)] 172 ?_; intro gb103 hg w5 hbox hb; have hx_ := qHX HB hb qa0; have BK103 := qO (hbox); have GW103 := qO ((qa3 : w.heap.size ≤ gb103)); have GE103 := GW103; have NB101_103 := qO ((qLt hg (qk BK101.out))); have NB103_101 := qO (Ne.symm NB101_103.out); have NB102_103 := qO ((qLt hg (qk BK102.out))); have NB103_102 := qO (Ne.symm NB102_103.out); replace BK101 := qO (qB BK101.out hx_ hb); replace BK102 := qO (qB BK102.out hx_ hb); replace HB := qO (below_step (below_step HB.out hx_) hb); clear hx_ hb hbox hg; have hnb6 := NB101_102.out; have hnc6 := NB102_101.out; have hnb7 := NB101_103.out; have hnc7 := NB103_101.out; obtain ⟨hcz8_0, hcz8_1, hcz8_2, hcz8_3, hfz8_0, hfz8_1, hfz8_2, hfz8_3⟩ := qb4 BK101.out; have hnb9 := NB103_102.out; have hnc9 := NB102_103.out; obtain ⟨hcz10_0, hcz10_1, hcz10_2, hcz10_3, hfz10_0, hfz10_1, hfz10_2, hfz10_3⟩ := qb4 BK103.out) | ((with_reducible refine gate_callee (f := 18) rfl ?_); refine qGL 9 Try.func18 #[.agg #[.int .i64 a0_1, .int .i64 a0_2, .string a0_3]] ?_; (with_reducible refine (laws_toValue.calls a0_1 a0_2 a0_3 t104 t105 t106 _ A2.out).mono ?_); rintro e w11 ⟨rfl, hb⟩; refine ⟨_, rfl, ?_⟩; replace BK101 := qO (blk_below (g := gb101) (o := .cells #[.string a0_0, .int .i64 a0_1, .int .i64 a0_2, .string a0_3] 204 (0, 0)) (qF BK101.out NB101_103.out) hb); replace BK102 := qO (blk_below (g := gb102) (o := .cells #[.string (⟨#[]⟩ : ByteArray), .int .i64 0, .int .i64 0, .string (⟨#[]⟩ : ByteArray)] 172 (0, 0)) (qF BK102.out NB102_103.out) hb); replace BK103 := qO (blk_below (g := gb103) (o := .cells #[.string a0_0, .int .i64 0, .int .i64 0, .string (⟨#[]⟩ : ByteArray)] 172 (0, 0)) (qU BK103.out) hb); replace HB := qO (below_step (qH HB.out) hb); clear hb; obtain ⟨hcz12_0, hcz12_1, hcz12_2, hcz12_3, hfz12_0, hfz12_1, hfz12_2, hfz12_3⟩ := qb4 BK103.out; obtain ⟨hcz13_0, hcz13_1, hcz13_2, hcz13_3, hfz13_0, hfz13_1, hfz13_2, hfz13_3⟩ := qb4 BK102.out))
 refine bodyPost_ret (results_cell_row rfl _ _ gb102 172 #[.string a0_0, .int .i64 t104, .int .i64 t105, .string t106] (0, 0) _ rfl (qU (qU (qU (qU (qF (qF (qF BK102.out NB102_103.out) NB102_103.out) NB102_103.out))))) Try.underlying172 rfl qa8) rfl ?_
 exact ⟨qa1, qH HB.out⟩
set_option maxHeartbeats 8000000
set_option maxRecDepth 100000
def laws_toArgS.l0 : Nat → List (S204) → List (S172) → Int → Option ((List (S172)))
 | 0, _, _, _ => none
 | k + 1, x0, x3, x4 => if x4 < (x0.length : Int) then (if 0 ≤ x4 then ((laws_toArg.f ((rd_T204 x0 x4).f0) ((rd_T204 x0 x4).f1.f0) ((rd_T204 x0 x4).f1.f1) ((rd_T204 x0 x4).f1.f2)).bind fun bt105 => (if x4 < (x3.length : Int) then (laws_toArgS.l0 k x0 (x3.set (x4 : Int).toNat (⟨bt105.1, (⟨bt105.2.1, bt105.2.2.1, bt105.2.2.2⟩ : S32)⟩ : S172)) (wrap64 (x4 + 1))) else (none))) else (none)) else (some x3)
def laws_toArgS.f (k : Nat) (l0 : List (S204)) : Option ((List (S172))) := if 0 ≤ (l0.length : Int) then (if ((l0.length : Int) : Int).toNat ≤ 5864062014805 then (laws_toArgS.l0 k l0 (List.replicate ((l0.length : Int) : Int).toNat z172) 0) else (none)) else (none)
theorem laws_toArgS.calls (k : Nat) (A0 : Option Addr) (c0 : Nat) (l0 : List (S204)) (r : List (S172)) (w : World) (hr0 : Kd.C k204 w A0 l0.length l0) (hc0 : l0.length ≤ c0) (h : laws_toArgS.f k l0 = some r) :
  Calls Try.prog 158 #[.slice A0 l0.length c0] w fun e w' => ∃ v0_ : Value, e = .returned (v0_) ∧ Kd.R k172 172 w' w.heap.size (fun _ => True) v0_ r ∧ Below w.heap.size w w' := by
 have hu204 := Try.underlying204; have hu172 := Try.underlying172; have HR0 := qO hr0; have HC0 := qO hc0; clear hr0 hc0; have HB := qO (Below.refl w.heap.size w); have H : (if 0 ≤ (l0.length : Int) then (if ((l0.length : Int) : Int).toNat ≤ 5864062014805 then (laws_toArgS.l0 k l0 (List.replicate ((l0.length : Int) : Int).toNat z172) 0) else (none)) else (none)) = some r := h; clear h
 by_cases c2 : 0 ≤ (l0.length : Int)
 ·rw [if_pos c2] at H
  have c2b0 := eq_true c2; have c2b1 := decide_eq_true c2; clear c2
  by_cases c3 : ((l0.length : Int) : Int).toNat ≤ 5864062014805
  ·rw [if_pos c3] at H
   have c3b0 := eq_true c3; have c3b1 := decide_eq_true c3; clear c3; obtain ⟨y101, hy101⟩ : ∃ y_ : List (S172), y_ = (List.replicate ((l0.length : Int) : Int).toNat z172) := ⟨_, rfl⟩; (first | replace H := qsb hy101 H | rw [← hy101] at H)
   have Ny101 := qO hy101; clear hy101; have H' := qO H; clear H
   go_enter Try.func158, Try.ntmps158
   go_wp2_with (first | ((with_reducible refine gate_dst (N := 7) rfl ?_); refine Kd.R_make k172 _ 172 rfl (N := 7) rfl 158 _ _ rfl (l0.length : Int) rfl rfl Try.underlying158 (.agg #[(.string ⟨#[]⟩), (.int .i64 0), (.int .i64 0), (.string ⟨#[]⟩)]) 48 info172 rfl qa20 qa5 z172 (ok := fun _ => True) (okp := fun _ => True) (k172_mkM _ _ _ z172 ) (fun _ hk => hk) trivial (qT qa2) (Nat.le_trans (Nat.mul_le_mul_right _ (qT qa2 : (l0.length : Int).toNat ≤ 5864062014805)) qa5) (Below.refl _ _) (Nat.le_refl _) ?_; intro v102 w4 ho5 hb hg_ hnew_; clear hg_ hnew_; (first | rw [← Ny101.out] at ho5 | (simp only [Int.reduceToNat] at ho5; rw [← Ny101.out] at ho5)); have HO103 := qO (Kd.R_lower ho5 (below_size (qH HB.out))); replace HB := qO (below_step (qH HB.out) hb); clear hb ho5))
   go_loopg [4] k (fun kq v4 w' => ∃ (x3_1 : List (S172)) (x4_1 : Int), v4 = .int .i64 x4_1 ∧ Aside0 (laws_toArgS.l0 kq l0 x3_1 x4_1 = some r) ∧ Aside0 (kq ≤ k) ∧ Aside0 (Kd.R k172 172 w' w.heap.size (fun _ => True) v102 x3_1) ∧ Aside0 (Below w.heap.size w w'))
   case atStart => exact ⟨(y101), (0), qa4, H', ⟨Nat.le_refl _⟩, ⟨qrR HO103.out⟩, ⟨qH HB.out⟩⟩
   case round =>
    clear H'
    obtain ⟨x3_1, x4_1, rfl, HA, HK1, HO_3, HB⟩ := hrel
    cases gk with
    | zero => exact absurd HA.out (by simp [laws_toArgS.l0])
    | succ k1 =>
     have H := HA.out; clear HA; simp only [laws_toArgS.l0] at H
     by_cases c6 : x4_1 < (l0.length : Int)
     ·rw [if_pos c6] at H
      have c6b0 := decide_eq_true c6; clear c6
      by_cases c7 : 0 ≤ x4_1
      ·rw [if_pos c7] at H
       have c7b0 := decide_eq_true c7; clear c7; replace H := Option.bind_eq_some_iff.mp H; obtain ⟨⟨t105, t106, t107, t108⟩, A80, H⟩ := H; replace H : (if x4_1 < (x3_1.length : Int) then (laws_toArgS.l0 k1 l0 (x3_1.set (x4_1 : Int).toNat (⟨t105, (⟨t106, t107, t108⟩ : S32)⟩ : S172)) (wrap64 (x4_1 + 1))) else (none)) = some r := H; have A8 := qO A80; clear A80
       by_cases c9 : x4_1 < (x3_1.length : Int)
       ·rw [if_pos c9] at H
        have c9b0 := decide_eq_true c9; clear c9; obtain ⟨y109, hy109⟩ : ∃ y_ : List (S172), y_ = (x3_1.set (x4_1 : Int).toNat (⟨t105, (⟨t106, t107, t108⟩ : S32)⟩ : S172)) := ⟨_, rfl⟩; (first | replace H := qsb hy109 H | rw [← hy109] at H)
        have Ny109 := qO hy109; clear hy109; have H' := qO H; clear H; have p104 : 0 ≤ (x4_1 : Int) := qT qa2; have q104 : x4_1 < (l0.length : Int) := qT qa2; obtain ⟨ad104, e104, hx104_0, hx104_1, hx104_2, hx104_3⟩ := at_T204 HR0.out x4_1 p104 q104
        cases e104
        replace hx104_0 := (HB.out.cell (qL w _ hx104_0)).trans hx104_0; replace hx104_1 := (HB.out.cell (qL w _ hx104_1)).trans hx104_1; replace hx104_2 := (HB.out.cell (qL w _ hx104_2)).trans hx104_2; replace hx104_3 := (HB.out.cell (qL w _ hx104_3)).trans hx104_3; replace p104 := eq_true p104; replace q104 := eq_true q104
        go_wp2_with (first | ((with_reducible refine gate_callee (f := 164) rfl ?_); refine qGL 20 Try.func164 #[.agg #[.string ((rd_T204 l0 x4_1).f0), .int .i64 ((rd_T204 l0 x4_1).f1.f0), .int .i64 ((rd_T204 l0 x4_1).f1.f1), .string ((rd_T204 l0 x4_1).f1.f2)]] ?_; (with_reducible refine (laws_toArg.calls ((rd_T204 l0 x4_1).f0) ((rd_T204 l0 x4_1).f1.f0) ((rd_T204 l0 x4_1).f1.f1) ((rd_T204 l0 x4_1).f1.f2) t105 t106 t107 t108 _ A8.out).mono ?_); rintro e w11 ⟨rfl, hb⟩; have hx_ := qHX HB hb qa0; refine ⟨_, rfl, ?_⟩; replace HO_3 := qO (Kd.R_below (qrR HO_3.out) hb); replace HB := qO (below_step (below_step HB.out hx_) hb); clear hx_ hb; have p10 : 0 ≤ (x4_1 : Int) := qT qa2; have q10 : (x4_1 : Int) < ((x3_1.length : Int) : Int) := qT qa2; obtain ⟨go10, co10, eo10, gb10, gl10, cl10, HG10⟩ := Kd.R_form HO_3.out qa5; (first | cases eo10 | (injection eo10 with ea_ en_ ec_; (first | subst ea_ | (injection ea_ with ea_; subst ea_)); subst ec_; clear en_)); have GB10 := qO gb10; have GG10 := qO HG10; clear gb10 gl10 HG10; obtain ⟨ce10, hcl10, hM10, hcc10, hfr10⟩ := Kd.R_elem HO_3.out z172 (x4_1 : Int) p10 q10; obtain rfl := k172_openM hM10; have hx10_0 : w11.cell? ⟨go10, (x4_1 : Int).toNat * 4, none⟩ = some (.string ((rd_T172 x3_1 x4_1).f0)) := hcc10 0 _ rfl; have hx10_1 : w11.cell? ⟨go10, (x4_1 : Int).toNat * 4 + 1, none⟩ = some (.int .i64 ((rd_T172 x3_1 x4_1).f1.f0)) := hcc10 1 _ rfl; have hx10_2 : w11.cell? ⟨go10, (x4_1 : Int).toNat * 4 + 2, none⟩ = some (.int .i64 ((rd_T172 x3_1 x4_1).f1.f1)) := hcc10 2 _ rfl; have hx10_3 : w11.cell? ⟨go10, (x4_1 : Int).toNat * 4 + 3, none⟩ = some (.string ((rd_T172 x3_1 x4_1).f1.f2)) := hcc10 3 _ rfl; have hf10_0 : w11.frozen? ⟨go10, (x4_1 : Int).toNat * 4, none⟩ = false := hfr10 0; have hf10_1 : w11.frozen? ⟨go10, (x4_1 : Int).toNat * 4 + 1, none⟩ = false := hfr10 1; have hf10_2 : w11.frozen? ⟨go10, (x4_1 : Int).toNat * 4 + 2, none⟩ = false := hfr10 2; have hf10_3 : w11.frozen? ⟨go10, (x4_1 : Int).toNat * 4 + 3, none⟩ = false := hfr10 3; clear hcl10 hcc10 hfr10; (try clear hM10); replace p10 := eq_true p10; replace q10 := eq_true q10; have HX12 := qO (show Kd.R k172 172 w11 w.heap.size (fun _ => True) (.slice (some ⟨go10, 0, none⟩) x3_1.length co10) x3_1 from (qrR HO_3.out)); obtain ⟨ce12, hcl12, hM12, hcc12, hfr12⟩ := Kd.R_elem HX12.out z172 (x4_1 : Int) (qT qa2) (by have h_ : (x4_1 : Int) < ((x3_1.length : Int) : Int) := qT qa2; first | exact h_ | (have e_ := (Kd.R_reads' HO_3.out).1; omega) | simpa using h_); obtain rfl := k172_openM hM12; have HP12 := Kd.R_seg HX12.out (x4_1 : Int) (qT qa2) (by have h_ : (x4_1 : Int) < ((x3_1.length : Int) : Int) := qT qa2; first | exact h_ | (have e_ := (Kd.R_reads' HO_3.out).1; omega) | simpa using h_) (seg := [.string t105, .int .i64 t106, .int .i64 t107, .string t108]) (j := 0) hcl12 hcc12 (show 4 ≤ 4 from by decide) (x' := (⟨t105, (⟨t106, t107, t108⟩ : S32)⟩ : S172)) (k172_mkM _ _ _ (⟨t105, (⟨t106, t107, t108⟩ : S32)⟩ : S172) ) (fun _ hk => hk); have hx12_0 := hcc12 0 _ rfl; (try simp only [show (k172).sz = 4 from rfl, Nat.mul_one, Nat.add_zero] at hx12_0); have hf12_0 := hfr12 0; (try simp only [show (k172).sz = 4 from rfl, Nat.mul_one, Nat.add_zero] at hf12_0); have hx12_1 := hcc12 1 _ rfl; (try simp only [show (k172).sz = 4 from rfl, Nat.mul_one, Nat.add_zero] at hx12_1); have hf12_1 := hfr12 1; (try simp only [show (k172).sz = 4 from rfl, Nat.mul_one, Nat.add_zero] at hf12_1); have hx12_2 := hcc12 2 _ rfl; (try simp only [show (k172).sz = 4 from rfl, Nat.mul_one, Nat.add_zero] at hx12_2); have hf12_2 := hfr12 2; (try simp only [show (k172).sz = 4 from rfl, Nat.mul_one, Nat.add_zero] at hf12_2); have hx12_3 := hcc12 3 _ rfl; (try simp only [show (k172).sz = 4 from rfl, Nat.mul_one, Nat.add_zero] at hx12_3); have hf12_3 := hfr12 3; (try simp only [show (k172).sz = 4 from rfl, Nat.mul_one, Nat.add_zero] at hf12_3); clear hcl12 hcc12 hfr12; (try clear hM12)) | ((with_reducible refine gate_store (t := 172) (p := 21) rfl ?_); refine store_event (t := 172) (p := 21) (v := ?vo_w13) (w1 := ((((w11.setCell ⟨go10, (x4_1 : Int).toNat * 4, none⟩ (.string t105)).setCell ⟨go10, (x4_1 : Int).toNat * 4 + 1, none⟩ (.int .i64 t106)).setCell ⟨go10, (x4_1 : Int).toNat * 4 + 2, none⟩ (.int .i64 t107)).setCell ⟨go10, (x4_1 : Int).toNat * 4 + 3, none⟩ (.string t108))) ?hg ?ho ?hn ?hr ?_; (case ho => rfl); (case hg => rfl); (case hn => rfl); (case hr => exact qa21); intro w13 hw; have hg : w11.grownBy w13 (some go10) := qa53; have hp_ : Kd.R k172 172 w13 w.heap.size (fun _ => True) (.slice (some ⟨go10, 0, none⟩) x3_1.length co10) y109 := qa62; clear HP12; replace HO_3 := qO (hp_); replace HB := qO ((qa24 : Below w.heap.size w w13)); clear hg hw hp_))
        go_roundg k1
        case measure => have := HK1.out; omega
        case rel => exact ⟨(y109), (wrap64 (x4_1 + 1)), qa4, H', ⟨qa9⟩, ⟨qrR HO_3.out⟩, ⟨qH HB.out⟩⟩
       ·rw [if_neg c9] at H
        exact absurd H qa12
      ·rw [if_neg c7] at H
       exact absurd H qa12
     ·rw [if_neg c6] at H
      have c6b0 := decide_eq_false c6; clear c6; obtain rfl := Option.some.inj H; go_wp2
      go_ret
      exact ⟨_, qa1, qrR HO_3.out, qH HB.out⟩
  ·rw [if_neg c3] at H
   exact absurd H qa12
 ·rw [if_neg c2] at H
  exact absurd H qa12
set_option maxHeartbeats 8000000
set_option maxRecDepth 100000
def laws_toDir.f (a0_0 : Bool) (a0_1 : Int) (a0_2 : Int) (a0_3 : ByteArray) : Option (Bool × Int × Int × ByteArray) := (laws_toValue.f a0_1 a0_2 a0_3).bind fun bt104 => (some (a0_0, bt104.1, bt104.2.1, bt104.2.2))
theorem laws_toDir.calls (a0_0 : Bool) (a0_1 : Int) (a0_2 : Int) (a0_3 : ByteArray) (r1 : Bool) (r2 : Int) (r3 : Int) (r4 : ByteArray) (w : World) (h : laws_toDir.f a0_0 a0_1 a0_2 a0_3 = some (r1, r2, r3, r4)) :
  Calls Try.prog 165 #[.agg #[.bool a0_0, .int .i64 a0_1, .int .i64 a0_2, .string a0_3]] w fun e w' => e = .returned (.agg #[.bool r1, .int .i64 r2, .int .i64 r3, .string r4]) ∧ Below w.heap.size w w' := by
 have hu207 := Try.underlying207; have hu174 := Try.underlying174; have hu30 := Try.underlying30; have hu32 := Try.underlying32; have HB := qO (Below.refl w.heap.size w); have H : ((laws_toValue.f a0_1 a0_2 a0_3).bind fun bt104 => (some (a0_0, bt104.1, bt104.2.1, bt104.2.2))) = some (r1, r2, r3, r4) := h; clear h; replace H := Option.bind_eq_some_iff.mp H; obtain ⟨⟨t104, t105, t106⟩, A20, H⟩ := H; replace H : (some (a0_0, t104, t105, t106)) = some (r1, r2, r3, r4) := H; have A2 := qO A20; clear A20; simp only [Option.some.injEq, Prod.mk.injEq] at H; obtain ⟨rfl, rfl, rfl, rfl⟩ := H
 go_enter Try.func165, Try.ntmps165
 go_wp2_with (first | ((with_reducible refine gate_dst (N := 1) rfl ?_); refine qX 1 #[.bool a0_0, .int .i64 a0_1, .int .i64 a0_2, .string a0_3] 207 ?_; intro gb101 hg w3 hbox hb; have hx_ := qHX HB hb qa0; have BK101 := qO (hbox); have GW101 := qO ((qa3 : w.heap.size ≤ gb101)); have GE101 := GW101; replace HB := qO (below_step (below_step HB.out hx_) hb); clear hx_ hb hbox hg) | ((with_reducible refine gate_dst (N := 2) rfl ?_); refine qX 2 #[.bool false, .int .i64 0, .int .i64 0, .string (⟨#[]⟩ : ByteArray)] 174 ?_; intro gb102 hg w4 hbox hb; have hx_ := qHX HB hb qa0; have BK102 := qO (hbox); have GW102 := qO ((qa3 : w.heap.size ≤ gb102)); have GE102 := GW102; have NB101_102 := qO ((qLt hg (qk BK101.out))); have NB102_101 := qO (Ne.symm NB101_102.out); replace BK101 := qO (qB BK101.out hx_ hb); replace HB := qO (below_step (below_step HB.out hx_) hb); clear hx_ hb hbox hg) | ((with_reducible refine gate_dst (N := 3) rfl ?_); refine qX 3 #[.bool false, .int .i64 0, .int .i64 0, .string (⟨#[]⟩ : ByteArray)] 174 ?_; intro gb103 hg w5 hbox hb; have hx_ := qHX HB hb qa0; have BK103 := qO (hbox); have GW103 := qO ((qa3 : w.heap.size ≤ gb103)); have GE103 := GW103; have NB101_103 := qO ((qLt hg (qk BK101.out))); have NB103_101 := qO (Ne.symm NB101_103.out); have NB102_103 := qO ((qLt hg (qk BK102.out))); have NB103_102 := qO (Ne.symm NB102_103.out); replace BK101 := qO (qB BK101.out hx_ hb); replace BK102 := qO (qB BK102.out hx_ hb); replace HB := qO (below_step (below_step HB.out hx_) hb); clear hx_ hb hbox hg; have hnb6 := NB101_102.out; have hnc6 := NB102_101.out; have hnb7 := NB101_103.out; have hnc7 := NB103_101.out; obtain ⟨hcz8_0, hcz8_1, hcz8_2, hcz8_3, hfz8_0, hfz8_1, hfz8_2, hfz8_3⟩ := qb4 BK101.out; have hnb9 := NB103_102.out; have hnc9 := NB102_103.out; obtain ⟨hcz10_0, hcz10_1, hcz10_2, hcz10_3, hfz10_0, hfz10_1, hfz10_2, hfz10_3⟩ := qb4 BK103.out) | ((with_reducible refine gate_callee (f := 18) rfl ?_); refine qGL 9 Try.func18 #[.agg #[.int .i64 a0_1, .int .i64 a0_2, .string a0_3]] ?_; (with_reducible refine (laws_toValue.calls a0_1 a0_2 a0_3 t104 t105 t106 _ A2.out).mono ?_); rintro e w11 ⟨rfl, hb⟩; refine ⟨_, rfl, ?_⟩; replace BK101 := qO (blk_below (g := gb101) (o := .cells #[.bool a0_0, .int .i64 a0_1, .int .i64 a0_2, .string a0_3] 207 (0, 0)) (qF BK101.out NB101_103.out) hb); replace BK102 := qO (blk_below (g := gb102) (o := .cells #[.bool false, .int .i64 0, .int .i64 0, .string (⟨#[]⟩ : ByteArray)] 174 (0, 0)) (qF BK102.out NB102_103.out) hb); replace BK103 := qO (blk_below (g := gb103) (o := .cells #[.bool a0_0, .int .i64 0, .int .i64 0, .string (⟨#[]⟩ : ByteArray)] 174 (0, 0)) (qU BK103.out) hb); replace HB := qO (below_step (qH HB.out) hb); clear hb; obtain ⟨hcz12_0, hcz12_1, hcz12_2, hcz12_3, hfz12_0, hfz12_1, hfz12_2, hfz12_3⟩ := qb4 BK103.out; obtain ⟨hcz13_0, hcz13_1, hcz13_2, hcz13_3, hfz13_0, hfz13_1, hfz13_2, hfz13_3⟩ := qb4 BK102.out))
 refine bodyPost_ret (results_cell_row rfl _ _ gb102 174 #[.bool a0_0, .int .i64 t104, .int .i64 t105, .string t106] (0, 0) _ rfl (qU (qU (qU (qU (qF (qF (qF BK102.out NB102_103.out) NB102_103.out) NB102_103.out))))) Try.underlying174 rfl qa8) rfl ?_
 exact ⟨qa1, qH HB.out⟩
set_option maxHeartbeats 8000000
set_option maxRecDepth 100000
def laws_toDirS.l0 : Nat → List (S207) → List (S174) → Int → Option ((List (S174)))
 | 0, _, _, _ => none
 | k + 1, x0, x3, x4 => if x4 < (x0.length : Int) then (if 0 ≤ x4 then ((laws_toDir.f ((rd_T207 x0 x4).f0) ((rd_T207 x0 x4).f1.f0) ((rd_T207 x0 x4).f1.f1) ((rd_T207 x0 x4).f1.f2)).bind fun bt105 => (if x4 < (x3.length : Int) then (laws_toDirS.l0 k x0 (x3.set (x4 : Int).toNat (⟨bt105.1, (⟨bt105.2.1, bt105.2.2.1, bt105.2.2.2⟩ : S32)⟩ : S174)) (wrap64 (x4 + 1))) else (none))) else (none)) else (some x3)
def laws_toDirS.f (k : Nat) (l0 : List (S207)) : Option ((List (S174))) := if 0 ≤ (l0.length : Int) then (if ((l0.length : Int) : Int).toNat ≤ 7036874417766 then (laws_toDirS.l0 k l0 (List.replicate ((l0.length : Int) : Int).toNat z174) 0) else (none)) else (none)
theorem laws_toDirS.calls (k : Nat) (A0 : Option Addr) (c0 : Nat) (l0 : List (S207)) (r : List (S174)) (w : World) (hr0 : Kd.C k207 w A0 l0.length l0) (hc0 : l0.length ≤ c0) (h : laws_toDirS.f k l0 = some r) :
  Calls Try.prog 159 #[.slice A0 l0.length c0] w fun e w' => ∃ v0_ : Value, e = .returned (v0_) ∧ Kd.R k174 174 w' w.heap.size (fun _ => True) v0_ r ∧ Below w.heap.size w w' := by
 have hu207 := Try.underlying207; have hu174 := Try.underlying174; have HR0 := qO hr0; have HC0 := qO hc0; clear hr0 hc0; have HB := qO (Below.refl w.heap.size w); have H : (if 0 ≤ (l0.length : Int) then (if ((l0.length : Int) : Int).toNat ≤ 7036874417766 then (laws_toDirS.l0 k l0 (List.replicate ((l0.length : Int) : Int).toNat z174) 0) else (none)) else (none)) = some r := h; clear h
 by_cases c2 : 0 ≤ (l0.length : Int)
 ·rw [if_pos c2] at H
  have c2b0 := eq_true c2; have c2b1 := decide_eq_true c2; clear c2
  by_cases c3 : ((l0.length : Int) : Int).toNat ≤ 7036874417766
  ·rw [if_pos c3] at H
   have c3b0 := eq_true c3; have c3b1 := decide_eq_true c3; clear c3; obtain ⟨y101, hy101⟩ : ∃ y_ : List (S174), y_ = (List.replicate ((l0.length : Int) : Int).toNat z174) := ⟨_, rfl⟩; (first | replace H := qsb hy101 H | rw [← hy101] at H)
   have Ny101 := qO hy101; clear hy101; have H' := qO H; clear H
   go_enter Try.func159, Try.ntmps159
   go_wp2_with (first | ((with_reducible refine gate_dst (N := 7) rfl ?_); refine Kd.R_make k174 _ 174 rfl (N := 7) rfl 159 _ _ rfl (l0.length : Int) rfl rfl Try.underlying159 (.agg #[(.bool false), (.int .i64 0), (.int .i64 0), (.string ⟨#[]⟩)]) 40 info174 rfl qa20 qa5 z174 (ok := fun _ => True) (okp := fun _ => True) (k174_mkM _ _ _ z174 ) (fun _ hk => hk) trivial (qT qa2) (Nat.le_trans (Nat.mul_le_mul_right _ (qT qa2 : (l0.length : Int).toNat ≤ 7036874417766)) qa5) (Below.refl _ _) (Nat.le_refl _) ?_; intro v102 w4 ho5 hb hg_ hnew_; clear hg_ hnew_; (first | rw [← Ny101.out] at ho5 | (simp only [Int.reduceToNat] at ho5; rw [← Ny101.out] at ho5)); have HO103 := qO (Kd.R_lower ho5 (below_size (qH HB.out))); replace HB := qO (below_step (qH HB.out) hb); clear hb ho5))
   go_loopg [4] k (fun kq v4 w' => ∃ (x3_1 : List (S174)) (x4_1 : Int), v4 = .int .i64 x4_1 ∧ Aside0 (laws_toDirS.l0 kq l0 x3_1 x4_1 = some r) ∧ Aside0 (kq ≤ k) ∧ Aside0 (Kd.R k174 174 w' w.heap.size (fun _ => True) v102 x3_1) ∧ Aside0 (Below w.heap.size w w'))
   case atStart => exact ⟨(y101), (0), qa4, H', ⟨Nat.le_refl _⟩, ⟨qrR HO103.out⟩, ⟨qH HB.out⟩⟩
   case round =>
    clear H'
    obtain ⟨x3_1, x4_1, rfl, HA, HK1, HO_3, HB⟩ := hrel
    cases gk with
    | zero => exact absurd HA.out (by simp [laws_toDirS.l0])
    | succ k1 =>
     have H := HA.out; clear HA; simp only [laws_toDirS.l0] at H
     by_cases c6 : x4_1 < (l0.length : Int)
     ·rw [if_pos c6] at H
      have c6b0 := decide_eq_true c6; clear c6
      by_cases c7 : 0 ≤ x4_1
      ·rw [if_pos c7] at H
       have c7b0 := decide_eq_true c7; clear c7; replace H := Option.bind_eq_some_iff.mp H; obtain ⟨⟨t105, t106, t107, t108⟩, A80, H⟩ := H; replace H : (if x4_1 < (x3_1.length : Int) then (laws_toDirS.l0 k1 l0 (x3_1.set (x4_1 : Int).toNat (⟨t105, (⟨t106, t107, t108⟩ : S32)⟩ : S174)) (wrap64 (x4_1 + 1))) else (none)) = some r := H; have A8 := qO A80; clear A80
       by_cases c9 : x4_1 < (x3_1.length : Int)
       ·rw [if_pos c9] at H
        have c9b0 := decide_eq_true c9; clear c9; obtain ⟨y109, hy109⟩ : ∃ y_ : List (S174), y_ = (x3_1.set (x4_1 : Int).toNat (⟨t105, (⟨t106, t107, t108⟩ : S32)⟩ : S174)) := ⟨_, rfl⟩; (first | replace H := qsb hy109 H | rw [← hy109] at H)
        have Ny109 := qO hy109; clear hy109; have H' := qO H; clear H; have p104 : 0 ≤ (x4_1 : Int) := qT qa2; have q104 : x4_1 < (l0.length : Int) := qT qa2; obtain ⟨ad104, e104, hx104_0, hx104_1, hx104_2, hx104_3⟩ := at_T207 HR0.out x4_1 p104 q104
        cases e104
        replace hx104_0 := (HB.out.cell (qL w _ hx104_0)).trans hx104_0; replace hx104_1 := (HB.out.cell (qL w _ hx104_1)).trans hx104_1; replace hx104_2 := (HB.out.cell (qL w _ hx104_2)).trans hx104_2; replace hx104_3 := (HB.out.cell (qL w _ hx104_3)).trans hx104_3; replace p104 := eq_true p104; replace q104 := eq_true q104
        go_wp2_with (first | ((with_reducible refine gate_callee (f := 165) rfl ?_); refine qGL 20 Try.func165 #[.agg #[.bool ((rd_T207 l0 x4_1).f0), .int .i64 ((rd_T207 l0 x4_1).f1.f0), .int .i64 ((rd_T207 l0 x4_1).f1.f1), .string ((rd_T207 l0 x4_1).f1.f2)]] ?_; (with_reducible refine (laws_toDir.calls ((rd_T207 l0 x4_1).f0) ((rd_T207 l0 x4_1).f1.f0) ((rd_T207 l0 x4_1).f1.f1) ((rd_T207 l0 x4_1).f1.f2) t105 t106 t107 t108 _ A8.out).mono ?_); rintro e w11 ⟨rfl, hb⟩; have hx_ := qHX HB hb qa0; refine ⟨_, rfl, ?_⟩; replace HO_3 := qO (Kd.R_below (qrR HO_3.out) hb); replace HB := qO (below_step (below_step HB.out hx_) hb); clear hx_ hb; have p10 : 0 ≤ (x4_1 : Int) := qT qa2; have q10 : (x4_1 : Int) < ((x3_1.length : Int) : Int) := qT qa2; obtain ⟨go10, co10, eo10, gb10, gl10, cl10, HG10⟩ := Kd.R_form HO_3.out qa5; (first | cases eo10 | (injection eo10 with ea_ en_ ec_; (first | subst ea_ | (injection ea_ with ea_; subst ea_)); subst ec_; clear en_)); have GB10 := qO gb10; have GG10 := qO HG10; clear gb10 gl10 HG10; obtain ⟨ce10, hcl10, hM10, hcc10, hfr10⟩ := Kd.R_elem HO_3.out z174 (x4_1 : Int) p10 q10; obtain rfl := k174_openM hM10; have hx10_0 : w11.cell? ⟨go10, (x4_1 : Int).toNat * 4, none⟩ = some (.bool ((rd_T174 x3_1 x4_1).f0)) := hcc10 0 _ rfl; have hx10_1 : w11.cell? ⟨go10, (x4_1 : Int).toNat * 4 + 1, none⟩ = some (.int .i64 ((rd_T174 x3_1 x4_1).f1.f0)) := hcc10 1 _ rfl; have hx10_2 : w11.cell? ⟨go10, (x4_1 : Int).toNat * 4 + 2, none⟩ = some (.int .i64 ((rd_T174 x3_1 x4_1).f1.f1)) := hcc10 2 _ rfl; have hx10_3 : w11.cell? ⟨go10, (x4_1 : Int).toNat * 4 + 3, none⟩ = some (.string ((rd_T174 x3_1 x4_1).f1.f2)) := hcc10 3 _ rfl; have hf10_0 : w11.frozen? ⟨go10, (x4_1 : Int).toNat * 4, none⟩ = false := hfr10 0; have hf10_1 : w11.frozen? ⟨go10, (x4_1 : Int).toNat * 4 + 1, none⟩ = false := hfr10 1; have hf10_2 : w11.frozen? ⟨go10, (x4_1 : Int).toNat * 4 + 2, none⟩ = false := hfr10 2; have hf10_3 : w11.frozen? ⟨go10, (x4_1 : Int).toNat * 4 + 3, none⟩ = false := hfr10 3; clear hcl10 hcc10 hfr10; (try clear hM10); replace p10 := eq_true p10; replace q10 := eq_true q10; have HX12 := qO (show Kd.R k174 174 w11 w.heap.size (fun _ => True) (.slice (some ⟨go10, 0, none⟩) x3_1.length co10) x3_1 from (qrR HO_3.out)); obtain ⟨ce12, hcl12, hM12, hcc12, hfr12⟩ := Kd.R_elem HX12.out z174 (x4_1 : Int) (qT qa2) (by have h_ : (x4_1 : Int) < ((x3_1.length : Int) : Int) := qT qa2; first | exact h_ | (have e_ := (Kd.R_reads' HO_3.out).1; omega) | simpa using h_); obtain rfl := k174_openM hM12; have HP12 := Kd.R_seg HX12.out (x4_1 : Int) (qT qa2) (by have h_ : (x4_1 : Int) < ((x3_1.length : Int) : Int) := qT qa2; first | exact h_ | (have e_ := (Kd.R_reads' HO_3.out).1; omega) | simpa using h_) (seg := [.bool t105, .int .i64 t106, .int .i64 t107, .string t108]) (j := 0) hcl12 hcc12 (show 4 ≤ 4 from by decide) (x' := (⟨t105, (⟨t106, t107, t108⟩ : S32)⟩ : S174)) (k174_mkM _ _ _ (⟨t105, (⟨t106, t107, t108⟩ : S32)⟩ : S174) ) (fun _ hk => hk); have hx12_0 := hcc12 0 _ rfl; (try simp only [show (k174).sz = 4 from rfl, Nat.mul_one, Nat.add_zero] at hx12_0); have hf12_0 := hfr12 0; (try simp only [show (k174).sz = 4 from rfl, Nat.mul_one, Nat.add_zero] at hf12_0); have hx12_1 := hcc12 1 _ rfl; (try simp only [show (k174).sz = 4 from rfl, Nat.mul_one, Nat.add_zero] at hx12_1); have hf12_1 := hfr12 1; (try simp only [show (k174).sz = 4 from rfl, Nat.mul_one, Nat.add_zero] at hf12_1); have hx12_2 := hcc12 2 _ rfl; (try simp only [show (k174).sz = 4 from rfl, Nat.mul_one, Nat.add_zero] at hx12_2); have hf12_2 := hfr12 2; (try simp only [show (k174).sz = 4 from rfl, Nat.mul_one, Nat.add_zero] at hf12_2); have hx12_3 := hcc12 3 _ rfl; (try simp only [show (k174).sz = 4 from rfl, Nat.mul_one, Nat.add_zero] at hx12_3); have hf12_3 := hfr12 3; (try simp only [show (k174).sz = 4 from rfl, Nat.mul_one, Nat.add_zero] at hf12_3); clear hcl12 hcc12 hfr12; (try clear hM12)) | ((with_reducible refine gate_store (t := 174) (p := 21) rfl ?_); refine store_event (t := 174) (p := 21) (v := ?vo_w13) (w1 := ((((w11.setCell ⟨go10, (x4_1 : Int).toNat * 4, none⟩ (.bool t105)).setCell ⟨go10, (x4_1 : Int).toNat * 4 + 1, none⟩ (.int .i64 t106)).setCell ⟨go10, (x4_1 : Int).toNat * 4 + 2, none⟩ (.int .i64 t107)).setCell ⟨go10, (x4_1 : Int).toNat * 4 + 3, none⟩ (.string t108))) ?hg ?ho ?hn ?hr ?_; (case ho => rfl); (case hg => rfl); (case hn => rfl); (case hr => exact qa21); intro w13 hw; have hg : w11.grownBy w13 (some go10) := qa53; have hp_ : Kd.R k174 174 w13 w.heap.size (fun _ => True) (.slice (some ⟨go10, 0, none⟩) x3_1.length co10) y109 := qa62; clear HP12; replace HO_3 := qO (hp_); replace HB := qO ((qa24 : Below w.heap.size w w13)); clear hg hw hp_))
        go_roundg k1
        case measure => have := HK1.out; omega
        case rel => exact ⟨(y109), (wrap64 (x4_1 + 1)), qa4, H', ⟨qa9⟩, ⟨qrR HO_3.out⟩, ⟨qH HB.out⟩⟩
       ·rw [if_neg c9] at H
        exact absurd H qa12
      ·rw [if_neg c7] at H
       exact absurd H qa12
     ·rw [if_neg c6] at H
      have c6b0 := decide_eq_false c6; clear c6; obtain rfl := Option.some.inj H; go_wp2
      go_ret
      exact ⟨_, qa1, qrR HO_3.out, qH HB.out⟩
  ·rw [if_neg c3] at H
   exact absurd H qa12
 ·rw [if_neg c2] at H
  exact absurd H qa12
end Go.Proofs.Ytfpkooafbeejmaa.Q
