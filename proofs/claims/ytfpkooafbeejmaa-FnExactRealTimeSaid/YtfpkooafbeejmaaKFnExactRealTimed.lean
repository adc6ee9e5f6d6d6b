/- Texts of the claim on FnExactRealTime, gathered by a program of this session: what the program's functions compute (proved by walks), and the plain part. -/
import Derived.Test.YtfpkooafbeejmaaKFnExactRealTimec
import Derived.Shelf.SlSortCmp.Kit1
import Derived.Sort.WalkB2
import Derived.Sort.WalkB12
import Derived.Sort.WalkA
import Derived.Deep.LoopGhost
import Derived.Deep.Cut
import Derived.Test.YtfpkooafbeejmaaKFnExactRealTimeOpens
import Derived.KernelRfl
namespace Go.Proofs.Ytfpkooafbeejmaa.Q
open Go.RowKit Go.Proofs.YtfpkooafbeejmaaW.PrintWords Go.Proofs.YtfpkooafbeejmaaW.PrintLast Go.Proofs.YtfpkooafbeejmaaW.PrintMore
attribute [local go_sem] max2_int min2_int max_two min_two max_three min_three max_four min_four
set_option linter.unusedVariables false
set_option linter.unusedSimpArgs false
set_option maxHeartbeats 8000000
set_option maxRecDepth 100000
section
open Go.Shelf Go.Lib Go.Sort
def ei (x : Int) : Value := .int .i64 x
def swapRF : Nat → Nat → Nat → Array Int → Array Int
 | 0, _, _, d => d
 | n + 1, a, b, d => swapRF n (a + 1) (b + 1) (swp d a b)
theorem swapRange_s (g : Nat) (cb : Array Value) (blk off cap a b n : Nat) (d0 d : Array Int) (w0 w : World)
  (R : Row1 ei w0 blk off d0) (hs : d0.size = d.size) (S : SW ei w0 blk off d w) (hab : a + n ≤ d.size) (hb : b + n ≤ d.size) (hsz : d.size < 4611686018427387904) :
  Calls Try.prog 152 #[.slice (some ⟨blk, off, none⟩) d.size cap, .int .i64 a, .int .i64 b, .int .i64 n, .func (.func g) #[] cb] w fun e w' => e = .returned (.tuple #[]) ∧ SW ei w0 blk off (swapRF n a b d) w' := by
 have hcl0 := R.hO.cells; simp only [Value.cells] at hcl0; have hst := R.hO.store Try.prog; have mixed : Try.prog.follows Departure.mixedOrders = true := by kernel_rfl
 have t3 := Try.underlying3; have a3 := Try.isAgg3; have z3 := Try.sizeOf3; have v3 := Try.zeroValue3; have t53 := Try.underlying53; have u53 := run_underlying Try.underlying53; have S0 : Aside (SW ei w0 blk off d w) := S; clear S
 go_enter Try.func152, Try.ntmps152
 go_wp2
 go_loopg [10] n (fun kx s10 wr => ∃ (i : Nat) (dk : Array Int), s10 = .int .i64 i ∧ i ≤ n ∧ n - i ≤ kx ∧ dk.size = d.size ∧ Aside (SW ei w0 blk off dk wr) ∧ swapRF (n - i) (a + i) (b + i) dk = swapRF n a b d)
 case atStart => exact ⟨0, d, rfl, qa5, qa5, rfl, S0, rfl⟩
 case round =>
  clear S0; obtain ⟨i, dk, rfl, hin, hkx, hds, S1, heq⟩ := hrel
  by_cases hlt : i < n
  ·have hltz : (i : Int) < (n : Int) := by omega
   go_wp2_with fail
   obtain ⟨iN, hiN⟩ : ∃ q, q = a + i := ⟨_, rfl⟩; obtain ⟨jN, hjN⟩ : ∃ q, q = b + i := ⟨_, rfl⟩; have ea : ((a : Int) + (i : Int)).toNat = iN := by omega
   have pa : (0 : Int) ≤ (a : Int) + (i : Int) := by omega
   have ba : (a : Int) + (i : Int) < (d.size : Int) := by omega
   have ra : IntKind.i64.wrap ((a : Int) + (i : Int)) = (a : Int) + (i : Int) := by rw [IntKind.wrap_i64]; omega
   have ec : ((b : Int) + (i : Int)).toNat = jN := by clear ra; omega
   have pc : (0 : Int) ≤ (b : Int) + (i : Int) := by clear ra; omega
   have bc : (b : Int) + (i : Int) < (d.size : Int) := by clear ra; omega
   have rc : IntKind.i64.wrap ((b : Int) + (i : Int)) = (b : Int) + (i : Int) := by clear ra; rw [IntKind.wrap_i64]; omega
   obtain ⟨x, hx⟩ : ∃ x, x = dk[a + i]! := ⟨_, rfl⟩; obtain ⟨y, hy⟩ : ∃ x, x = dk[b + i]! := ⟨_, rfl⟩; have S2 : Aside (SW ei w0 blk off (swp dk (a + i) (b + i)) ((wr.setCell ⟨blk, off + iN, none⟩ (ei y)).setCell ⟨blk, off + jN, none⟩ (ei x)).drew) := by rw [hiN, hjN, hx, hy]; exact S1.out.swapped R (a + i) (b + i) qa33 qa33
   have ca := S1.out.c1 R qa33 (a + i) qa33; have cb' := S1.out.c1 R qa33 (b + i) qa33; have fa := S1.out.f1 R qa33 (a + i) qa33; have fb := S1.out.f1 R qa33 (b + i) qa33; obtain ⟨u, cc⟩ := S1.out.c2 R qa33 (a + i) (b + i) qa33 qa33 (ei y); rw [← hjN, ← hiN] at cc; rw [← hx, ← hiN] at ca; rw [← hy, ← hjN] at cb'; rw [← hiN] at fa; rw [← hjN] at fb; clear S1 hx hy hiN hjN
   go_big_region_o
   clear ca cb' cc fa fb; generalize ((wr.setCell ⟨blk, off + iN, none⟩ (ei y)).setCell ⟨blk, off + jN, none⟩ (ei x)).drew = w2 at S2 ⊢; clear ea ec ra rc; go_wp2
   go_roundg (n - (i + 1))
   case measure => omega
   case rel =>
    refine ⟨i + 1, swp dk (a + i) (b + i), by go_num, qa5, Nat.le_refl _, by rw [size_swp]; exact hds, S2, ?_⟩; rw [show n - i = (n - (i + 1)) + 1 by omega] at heq
    exact heq
  ·have hnot : ¬ (i : Int) < (n : Int) := by omega
   go_wp2
   go_end0
   refine ⟨rfl, ?_⟩; rw [show n - i = 0 by omega] at heq; rw [← heq]
   exact S1.out
theorem swapRange_n (g : Nat) (cb : Array Value) (blk off cap a b n sz : Nat) (d0 d : Array Int) (w0 w : World)
  (R : Row1 ei w0 blk off d0) (hn : d.size = sz) (hs : d0.size = d.size) (S : SW ei w0 blk off d w) (hab : a + n ≤ d.size) (hb : b + n ≤ d.size) (hsz : d.size < 4611686018427387904) :
  Calls Try.prog 152 #[.slice (some ⟨blk, off, none⟩) sz cap, .int .i64 a, .int .i64 b, .int .i64 n, .func (.func g) #[] cb] w fun e w' => e = .returned (.tuple #[]) ∧ SW ei w0 blk off (swapRF n a b d) w' := by
 subst hn
 exact swapRange_s g cb blk off cap a b n d0 d w0 w R hs S hab hb hsz
def rotF : Nat → Nat → Nat → Nat → Array Int → Array Int
 | 0, _, _, _, d => d
 | k + 1, i, j, m, d => if i = j then swapRF i (m - i) m d else if i > j then rotF k (i - j) j m (swapRF j (m - i) m d) else rotF k i (j - i) m (swapRF i (m - i) (m + j - i) d)
theorem size_swapRA : ∀ (n a b : Nat) (d : Array Int), (swapRF n a b d).size = d.size
 | 0, _, _, _ => rfl
 | n + 1, a, b, d => by rw [swapRF, size_swapRA, size_swp]
theorem rotate_s (g : Nat) (cb : Array Value) (blk off cap a m b F : Nat) (d0 d : Array Int) (w0 w : World)
  (R : Row1 ei w0 blk off d0) (hs : d0.size = d.size) (S : SW ei w0 blk off d w) (ham : a < m) (hmb : m < b) (hF : b - a ≤ F) (hb : b ≤ d.size) (hsz : d.size < 4611686018427387904) :
  Calls Try.prog 148 #[.slice (some ⟨blk, off, none⟩) d.size cap, .int .i64 a, .int .i64 m, .int .i64 b, .func (.func g) #[] cb] w fun e w' => e = .returned (.tuple #[]) ∧ SW ei w0 blk off (rotF F (m - a) (b - m) m d) w' := by
 have mixed : Try.prog.follows Departure.mixedOrders = true := by kernel_rfl
 have t3 := Try.underlying3; have a3 := Try.isAgg3; have z3 := Try.sizeOf3; have v3 := Try.zeroValue3; have t53 := Try.underlying53; have u53 := run_underlying Try.underlying53; have S0 : Aside (SW ei w0 blk off d w) := S; clear S; have c1 : IntKind.i64.wrap ((m : Int) - (a : Int)) = ((m - a : Nat) : Int) := by rw [IntKind.wrap_i64]; omega
 have c2 : IntKind.i64.wrap ((b : Int) - (m : Int)) = ((b - m : Nat) : Int) := by clear c1; rw [IntKind.wrap_i64]; omega
 go_enter Try.func148, Try.ntmps148
 go_wp2
 go_loopg [10, 11] (b + b) (fun kx s10 s11 wr => ∃ (i j : Nat) (dk : Array Int), s10 = .int .i64 i ∧ s11 = .int .i64 j ∧ 1 ≤ i ∧ 1 ≤ j ∧ i ≤ m ∧ m + j ≤ d.size ∧ i + j ≤ kx ∧ dk.size = d.size ∧ Aside (SW ei w0 blk off dk wr) ∧ ∃ K, i + j ≤ K ∧ rotF K i j m dk = rotF F (m - a) (b - m) m d)
 case atStart => exact ⟨m - a, b - m, d, rfl, rfl, qa5, qa5, qa5, qa5, qa5, rfl, S0, F, qa5, rfl⟩
 case round =>
  clear S0 c1 c2; obtain ⟨i, j, dk, rfl, rfl, hi1, hj1, him, hmj, hkx, hds, S1, K, hK, heq⟩ := hrel; obtain ⟨K, rfl⟩ : ∃ q, K = q + 1 := ⟨K - 1, qa5⟩; rw [rotF] at heq; have c3 : IntKind.i64.wrap ((m : Int) - (i : Int)) = (m : Int) - (i : Int) := by rw [IntKind.wrap_i64]; omega
  by_cases he : i = j
  ·subst he
   rw [if_pos rfl] at heq; have hb0 : ((i : Int) == (i : Int)) = true := beq_iff_eq.mpr qa5; have hb1 : ((i : Int) != (i : Int)) = false := bne_eq_false_iff_eq.mpr qa5; have hc := swapRange_n g cb blk off cap (m - i) m i d.size d0 dk w0 wr R hds (by clear c3; omega) S1.out (by clear c3; omega) (by clear c3; omega) (by clear c3; omega); rw [show ((m - i : Nat) : Int) = (m : Int) - (i : Int) by clear c3; omega] at hc; clear S1
   go_wp2_with (go_at_call 152; refine hc.mono ?_; rintro e w2 ⟨rfl, hSW⟩)
   go_end0
   refine ⟨rfl, ?_⟩; rw [← heq]
   exact hSW
  ·rw [if_neg he] at heq
   have hb0 : ((i : Int) == (j : Int)) = false := beq_eq_false_iff_ne.mpr qa5; have hb1 : ((i : Int) != (j : Int)) = true := bne_iff_ne.mpr qa5
   by_cases hg : i > j
   ·rw [if_pos hg] at heq
    have hgz : (j : Int) < (i : Int) := by omega
    have c4 : IntKind.i64.wrap ((i : Int) - (j : Int)) = (i : Int) - (j : Int) := by clear c3; rw [IntKind.wrap_i64]; omega
    have hc := swapRange_n g cb blk off cap (m - i) m j d.size d0 dk w0 wr R hds qa60 S1.out qa60 qa60 qa60; rw [show ((m - i : Nat) : Int) = (m : Int) - (i : Int) by clear c3 c4; omega] at hc; clear S1
    go_wp2_with (go_at_call 152; refine hc.mono ?_; rintro e w2 ⟨rfl, hSW⟩)
    have S2 : Aside _ := hSW; clear hSW hc
    go_roundg (i - j + j)
    case measure => clear c3 c4; omega
    case rel => exact ⟨i - j, j, swapRF j (m - i) m dk, by first | rfl | (congr 1; clear c3 c4; omega), rfl, qa60, hj1, qa60, hmj, Nat.le_refl _, by rw [size_swapRA]; exact hds, S2, K, qa60, heq⟩
   ·rw [if_neg hg] at heq
    have hgz : ¬ (j : Int) < (i : Int) := by omega
    have c4 : IntKind.i64.wrap ((j : Int) - (i : Int)) = (j : Int) - (i : Int) := by clear c3; rw [IntKind.wrap_i64]; omega
    have c5 : IntKind.i64.wrap ((m : Int) + (j : Int)) = (m : Int) + (j : Int) := by clear c3 c4; rw [IntKind.wrap_i64]; omega
    have c6 : IntKind.i64.wrap ((m : Int) + (j : Int) - (i : Int)) = (m : Int) + (j : Int) - (i : Int) := by clear c3 c4 c5; rw [IntKind.wrap_i64]; omega
    have hc := swapRange_n g cb blk off cap (m - i) (m + j - i) i d.size d0 dk w0 wr R hds qa47 S1.out qa47 qa47 qa47; rw [show ((m - i : Nat) : Int) = (m : Int) - (i : Int) by clear c3 c4 c5 c6; omega, show ((m + j - i : Nat) : Int) = (m : Int) + (j : Int) - (i : Int) by clear c3 c4 c5 c6; omega] at hc; clear S1
    go_wp2_with (go_at_call 152; refine hc.mono ?_; rintro e w2 ⟨rfl, hSW⟩)
    have S2 : Aside _ := hSW; clear hSW hc
    go_roundg (i + (j - i))
    case measure => clear c3 c4 c5 c6; omega
    case rel => exact ⟨i, j - i, swapRF i (m - i) (m + j - i) dk, rfl, by first | rfl | (congr 1; clear c3 c4; omega), hi1, qa47, him, qa47, Nat.le_refl _, by rw [size_swapRA]; exact hds, S2, K, qa47, heq⟩
/-! the comparison's contract, at the values that the row may hold -/
def GoodI (Ok : Int → Prop) (n : Nat) (d : Array Int) : Prop := d.size = n ∧ ∀ i, i < n → Ok d[i]!
def CmpL (g : Nat) (cb : Array Value) (cf : Int → Int → Int) (Ok : Int → Prop) (blk off size : Nat) (w : World) : Prop :=
 ∀ (m : Nat) (os : Array Obj) (dk : Array Int), dk.size = size → ∀ x y : Int, Ok x → Ok y →
  Calls Try.prog g (#[ei x, ei y] ++ cb) (sortWorld ei w blk off m dk os) fun e w' => e = .returned (.int .i64 (cf x y)) ∧ ∃ q os', w' = grow ((sortWorld ei w blk off m dk os).drewN q) os'
theorem cmpk {g : Nat} {cb : Array Value} {cf : Int → Int → Int} {Ok : Int → Prop} {size blk off : Nat} {dk : Array Int} {w0 W : World} (h : SW ei w0 blk off dk W) (hC : CmpL g cb cf Ok blk off size w0) (hs : dk.size = size) (x y : Int) (hx : Ok x) (hy : Ok y) (n : Nat) (os : Array Obj) :
  Calls Try.prog g (#[ei x, ei y] ++ cb) (grow (W.drewN n) os) fun e w' => e = .returned (.int .i64 (cf x y)) ∧ ∃ q os', w' = grow ((grow (W.drewN n) os).drewN q) os' := by
 obtain ⟨m, os0, hw⟩ := h.grown n os; rw [hw]
 exact hC m os0 dk hs x y hx hy
theorem get_swp (d : Array Int) (i j k : Nat) (hi : i < d.size) (hj : j < d.size) (hk : k < d.size) : (swp d i j)[k]! = if k = j then d[i]! else if k = i then d[j]! else d[k]! := by
 unfold swp
 rw [getElem!_pos _ k (by simpa using hk), Array.getElem_setIfInBounds (by simpa using hk), Array.getElem_setIfInBounds hk]
 by_cases h1 : k = j
 ·subst h1; simp
 ·rw [if_neg (Ne.symm h1), if_neg h1]
  by_cases h2 : k = i
  ·subst h2; simp
  ·rw [if_neg (Ne.symm h2), if_neg h2, getElem!_pos d k hk]
theorem GoodI.swp {Ok : Int → Prop} {n : Nat} {d : Array Int} (h : GoodI Ok n d) (i j : Nat) (hi : i < n) (hj : j < n) : GoodI Ok n (Sort.swp d i j) := by
 obtain ⟨rfl, h2⟩ := h; refine ⟨size_swp d i j, fun k hk => ?_⟩; rw [get_swp d i j k hi hj hk]
 by_cases h1 : k = j
 ·rw [if_pos h1]; exact h2 i hi
 ·rw [if_neg h1]
  by_cases h3 : k = i
  ·rw [if_pos h3]; exact h2 j hj
  ·rw [if_neg h3]; exact h2 k hk
theorem GoodI.swapRA {Ok : Int → Prop} {N : Nat} : ∀ (n a b : Nat) (d : Array Int), GoodI Ok N d → a + n ≤ N → b + n ≤ N → GoodI Ok N (swapRF n a b d)
 | 0, _, _, _, h, _, _ => h
 | n + 1, a, b, d, h, h1, h2 => GoodI.swapRA n (a + 1) (b + 1) _ (h.swp a b qa5 qa5) qa5 qa5
theorem GoodI.rotA {Ok : Int → Prop} {N : Nat} : ∀ (k i j m : Nat) (d : Array Int), GoodI Ok N d → i ≤ m → m + j ≤ N → GoodI Ok N (rotF k i j m d)
 | 0, _, _, _, _, h, _, _ => h
 | k + 1, i, j, m, d, h, h1, h2 => by
  rw [rotF]
  by_cases he : i = j
  ·rw [if_pos he]; exact h.swapRA _ _ _ _ qa5 qa5
  ·rw [if_neg he]
   by_cases hg : i > j
   ·rw [if_pos hg]; exact GoodI.rotA k _ _ _ _ (h.swapRA _ _ _ _ qa5 qa5) qa5 qa5
   ·rw [if_neg hg]; exact GoodI.rotA k _ _ _ _ (h.swapRA _ _ _ _ qa5 qa5) qa5 qa5
theorem insert_s (cf : Int → Int → Int) (Ok : Int → Prop) (g : Nat) (cb : Array Value) (blk off cap a b : Nat) (d0 d : Array Int) (w0 w : World)
  (eg : ∀ args w, (callFunc g args).run Try.prog w = .ok (.enter g args) w) (hcmp : CmpL g cb cf Ok blk off d0.size w0) (R : Row1 ei w0 blk off d0) (hs : d0.size = d.size) (G : GoodI Ok d.size d) (S : SW ei w0 blk off d w) (hab : a ≤ b) (hb : b ≤ d.size) (hsz : d.size < 4611686018427387904) :
  Calls Try.prog 143 #[.slice (some ⟨blk, off, none⟩) d.size cap, .int .i64 a, .int .i64 b, .func (.func g) #[] cb] w fun e w' => e = .returned (.tuple #[]) ∧ SW ei w0 blk off (Sort.insertionSort (ltOf cf) d a b) w' ∧ GoodI Ok d.size (Sort.insertionSort (ltOf cf) d a b) := by
 have mixed : Try.prog.follows Departure.mixedOrders = true := by kernel_rfl
 have t3 := Try.underlying3; have a3 := Try.isAgg3; have z3 := Try.sizeOf3; have v3 := Try.zeroValue3; have t4 := Try.underlying4; have a4 := Try.isAgg4; have z4 := Try.sizeOf4; have v4 := Try.zeroValue4; have t53 := Try.underlying53; have u53 := run_underlying Try.underlying53; have hcl0 := R.hO.cells; simp only [Value.cells] at hcl0; have hst := R.hO.store Try.prog; have HC : Aside _ := hcmp; have S0 : Aside (SW ei w0 blk off d w) := S; clear S hcmp
 go_enter Try.func143, Try.ntmps143
 go_wp2
 go_loopg [8] (b - a) (fun g1 vi wr => ∃ (i : Nat) (dk : Array Int), vi = .int .i64 i ∧ a < i ∧ i ≤ b + 1 ∧ b + 1 - i ≤ g1 + 1 ∧ GoodI Ok d.size dk ∧ Aside (SW ei w0 blk off dk wr) ∧ Hid (insOuter (ltOf cf) a b i dk = insOuter (ltOf cf) a b (a + 1) d))
 case atStart => exact ⟨a + 1, d, by go_num, qa5, qa5, qa5, G, S0, rfl⟩
 case round =>
  clear S0; obtain ⟨i, dk, rfl, hai, hib, hg1, hsk, S1, HO⟩ := hrel; have hsk0 := hsk.1
  by_cases hlt : i < b
  ·have hltz : (i : Int) < (b : Int) := by omega
   go_wp2
   -- the inner loop
   go_loopg [9] i (fun g2 vj wr2 => ∃ (j : Nat) (dj : Array Int), vj = .int .i64 j ∧ a ≤ j ∧ j ≤ i ∧ j ≤ g2 ∧ GoodI Ok d.size dj ∧ Aside (SW ei w0 blk off dj wr2) ∧ Hid (insInner (ltOf cf) a j dj = insInner (ltOf cf) a i dk))
   case atStart => exact ⟨i, dk, rfl, qa5, Nat.le_refl _, Nat.le_refl _, hsk, S1, rfl⟩
   case round =>
    clear S1; obtain ⟨j, dj, rfl, haj, hji, hg2, hsj, SJ, HI⟩ := hrel; have hsj0 := hsj.1
    have out : (j ≤ a ∨ (ltOf cf) dj[j]! dj[j - 1]! = false) → Hid (insOuter (ltOf cf) a b (i + 1) dj = insOuter (ltOf cf) a b (a + 1) d) := fun hs => by
     show _ = _
     rw [← HO.out, insOuter_go _ _ _ _ _ hlt, ← HI.out, insInner_stop _ _ _ _ hs]
    have OUT : Aside _ := out; clear out
    by_cases hja : a < j
    ·have hjaz : (a : Int) < (j : Int) := by omega
     obtain ⟨jp, hjp⟩ : ∃ q, q + 1 = j := ⟨j - 1, qa5⟩; have zjp : (j : Int) = (jp : Int) + 1 := by omega
     have hjad : decide ((jp : Int) + 1 > (a : Int)) = true := decide_eq_true qa5; have hjaz' : (a : Int) < (jp : Int) + 1 := by omega
     cases hlv : (ltOf cf) dj[j]! dj[j - 1]! with
     | true =>
      obtain ⟨iN1193, hiN1193⟩ : ∃ q, q = j := ⟨_, rfl⟩; obtain ⟨jN1193, hjN1193⟩ : ∃ q, q = j - 1 := ⟨_, rfl⟩; have ea1193 : ((jp : Int) + 1).toNat = iN1193 := by omega
      have pa1193 : (0 : Int) ≤ (jp : Int) + 1 := by omega
      have ba1193 : (jp : Int) + 1 < (d.size : Int) := by omega
      have ra1193 : IntKind.i64.wrap ((jp : Int) + 1) = (jp : Int) + 1 := by rw [IntKind.wrap_i64]; omega
      have ec1193 : ((jp : Int)).toNat = jN1193 := by omega
      have pc1193 : (0 : Int) ≤ (jp : Int) := by omega
      have bc1193 : (jp : Int) < (d.size : Int) := by omega
      have rc1193 : IntKind.i64.wrap ((jp : Int)) = (jp : Int) := by rw [IntKind.wrap_i64]; omega
      obtain ⟨x1193, hx1193⟩ : ∃ x, x = dj[j]! := ⟨_, rfl⟩; obtain ⟨y1193, hy1193⟩ : ∃ x, x = dj[j - 1]! := ⟨_, rfl⟩; have l1193a := SJ.out.cl R qa5 (j) qa5; have l1193b := SJ.out.cl R qa5 (j - 1) qa5; rw [← hx1193, ← hiN1193] at l1193a; rw [← hy1193, ← hjN1193] at l1193b; have hc1193 := cmpk SJ.out HC.out qa5 x1193 y1193 (by rw [hx1193]; exact hsj.2 _ (by omega)) (by rw [hy1193]; exact hsj.2 _ (by omega)); have hv1193 : cf x1193 y1193 < 0 := by rw [hx1193, hy1193]; exact qT hlv
      have hd1193 : decide (cf x1193 y1193 < 0) = true := decide_eq_true hv1193; clear hx1193 hy1193 hiN1193 hjN1193
      go_wp2_with fail
      go_quiet_grown (first | (go_at_fn g; refine Calls.grown_of (hc1193 _ _)))
      have S2 : Aside (SW ei w0 blk off dj (grow (wr.drewN nq) osq)) := SJ.out.grown nq osq; clear l1193a l1193b hc1193 SJ; generalize grow (wr.drewN nq) osq = w2 at S2 ⊢; clear nq osq ea1193 ec1193
      go_wp2_with fail
      obtain ⟨iN1194, hiN1194⟩ : ∃ q, q = j := ⟨_, rfl⟩; obtain ⟨jN1194, hjN1194⟩ : ∃ q, q = j - 1 := ⟨_, rfl⟩; have ea1194 : ((jp : Int) + 1).toNat = iN1194 := by omega
      have pa1194 : (0 : Int) ≤ (jp : Int) + 1 := by omega
      have ba1194 : (jp : Int) + 1 < (d.size : Int) := by omega
      have ra1194 : IntKind.i64.wrap ((jp : Int) + 1) = (jp : Int) + 1 := by rw [IntKind.wrap_i64]; omega
      have ec1194 : ((jp : Int)).toNat = jN1194 := by omega
      have pc1194 : (0 : Int) ≤ (jp : Int) := by omega
      have bc1194 : (jp : Int) < (d.size : Int) := by omega
      have rc1194 : IntKind.i64.wrap ((jp : Int)) = (jp : Int) := by rw [IntKind.wrap_i64]; omega
      obtain ⟨x1194, hx1194⟩ : ∃ x, x = dj[j]! := ⟨_, rfl⟩; obtain ⟨y1194, hy1194⟩ : ∃ x, x = dj[j - 1]! := ⟨_, rfl⟩; have S3 : Aside (SW ei w0 blk off (swp dj (j) (j - 1)) ((w2.setCell ⟨blk, off + iN1194, none⟩ (ei y1194)).setCell ⟨blk, off + jN1194, none⟩ (ei x1194)).drew) := by rw [hiN1194, hjN1194, hx1194, hy1194]; exact S2.out.swapped R (j) (j - 1) qa5 qa5
      have c1194a := S2.out.c1 R qa5 (j) qa5; have c1194b := S2.out.c1 R qa5 (j - 1) qa5; have f1194a := S2.out.f1 R qa5 (j) qa5; have f1194b := S2.out.f1 R qa5 (j - 1) qa5; obtain ⟨u1194, c1194c⟩ := S2.out.c2 R qa5 (j) (j - 1) qa5 qa5 (ei y1194); rw [← hjN1194, ← hiN1194] at c1194c; rw [← hx1194, ← hiN1194] at c1194a; rw [← hy1194, ← hjN1194] at c1194b; rw [← hiN1194] at f1194a; rw [← hjN1194] at f1194b; clear S2 hx1194 hy1194 hiN1194 hjN1194
      go_wp2_with fail
      go_big_region_o
      clear c1194a c1194b c1194c f1194a f1194b; generalize ((w2.setCell ⟨blk, off + iN1194, none⟩ (ei y1194)).setCell ⟨blk, off + jN1194, none⟩ (ei x1194)).drew = w3 at S3 ⊢; clear ea1194 ec1194; go_wp2
      go_roundg (j - 1)
      case measure => omega
      case rel => exact ⟨j - 1, swp dj j (j - 1), qa13, qa5, qa5, Nat.le_refl _, hsj.swp _ _ qa5 qa5, S3, (show Hid _ from by rw [← HI.out, insInner_go (ltOf cf) a j dj hja hlv]; exact rfl)⟩
     | false =>
      obtain ⟨iN1195, hiN1195⟩ : ∃ q, q = j := ⟨_, rfl⟩; obtain ⟨jN1195, hjN1195⟩ : ∃ q, q = j - 1 := ⟨_, rfl⟩; have ea1195 : ((jp : Int) + 1).toNat = iN1195 := by omega
      have pa1195 : (0 : Int) ≤ (jp : Int) + 1 := by omega
      have ba1195 : (jp : Int) + 1 < (d.size : Int) := by omega
      have ra1195 : IntKind.i64.wrap ((jp : Int) + 1) = (jp : Int) + 1 := by rw [IntKind.wrap_i64]; omega
      have ec1195 : ((jp : Int)).toNat = jN1195 := by omega
      have pc1195 : (0 : Int) ≤ (jp : Int) := by omega
      have bc1195 : (jp : Int) < (d.size : Int) := by omega
      have rc1195 : IntKind.i64.wrap ((jp : Int)) = (jp : Int) := by rw [IntKind.wrap_i64]; omega
      obtain ⟨x1195, hx1195⟩ : ∃ x, x = dj[j]! := ⟨_, rfl⟩; obtain ⟨y1195, hy1195⟩ : ∃ x, x = dj[j - 1]! := ⟨_, rfl⟩; have l1195a := SJ.out.cl R qa5 (j) qa5; have l1195b := SJ.out.cl R qa5 (j - 1) qa5; rw [← hx1195, ← hiN1195] at l1195a; rw [← hy1195, ← hjN1195] at l1195b; have hc1195 := cmpk SJ.out HC.out qa5 x1195 y1195 (by rw [hx1195]; exact hsj.2 _ (by omega)) (by rw [hy1195]; exact hsj.2 _ (by omega)); have hv1195 : ¬ cf x1195 y1195 < 0 := by rw [hx1195, hy1195]; exact of_decide_eq_false hlv
      have hd1195 : decide (cf x1195 y1195 < 0) = false := decide_eq_false hv1195; clear hx1195 hy1195 hiN1195 hjN1195
      go_wp2_with fail
      go_quiet_grown (first | (go_at_fn g; refine Calls.grown_of (hc1195 _ _)))
      have S2 : Aside (SW ei w0 blk off dj (grow (wr.drewN nq) osq)) := SJ.out.grown nq osq; clear l1195a l1195b hc1195 SJ; generalize grow (wr.drewN nq) osq = w2 at S2 ⊢; clear nq osq ea1195 ec1195; go_wp2
      go_roundg (b - (i + 1))
      case measure => omega
      case rel => exact ⟨i + 1, dj, by go_num, qa5, qa5, qa5, hsj, S2, OUT.out (Or.inr hlv)⟩
    ·-- j = a: out of the inner loop (the guard is false: 'cmp' is not called)
     have hjaz : decide ((j : Int) > (a : Int)) = false := decide_eq_false qa5; have hjaz' : ¬ (a : Int) < (j : Int) := by omega
     go_wp2_with fail
     go_big_region_o
     have S2 : Aside (SW ei w0 blk off dj wr.drew) := SJ.out.drew; clear SJ; generalize wr.drew = w2 at S2 ⊢; go_wp2
     go_roundg (b - (i + 1))
     case measure => omega
     case rel => exact ⟨i + 1, dj, by go_num, qa5, qa5, qa5, hsj, S2, OUT.out (Or.inl qa5)⟩
  ·-- the outer loop is at its end
   have hltz : ¬ (i : Int) < (b : Int) := by omega
   go_wp2
   go_end0
   exact ⟨rfl, by unfold Sort.insertionSort; rw [← HO.out, insOuter_stop _ _ _ _ _ hlt]; exact ⟨S1.out, hsk⟩⟩
def bsr : Nat → (Nat → Bool) → Nat → Nat → Nat
 | 0, _, i, _ => i
 | k + 1, p, i, j => if i < j then (if p ((i + j) / 2) = true then bsr k p ((i + j) / 2 + 1) j else bsr k p i ((i + j) / 2)) else i
def shiftRF : Nat → Nat → Array Int → Array Int
 | 0, _, d => d
 | n + 1, a, d => shiftRF n (a + 1) (swp d a (a + 1))
def shiftLF : Nat → Nat → Array Int → Array Int
 | 0, _, d => d
 | n + 1, m, d => shiftLF n (m - 1) (swp d m (m - 1))
theorem bsr_go {k : Nat} {p : Nat → Bool} {i j : Nat} (h : i < j) (hp : p ((i + j) / 2) = true) : bsr (k + 1) p i j = bsr k p ((i + j) / 2 + 1) j := by rw [bsr, if_pos h, if_pos hp]
theorem bsr_no {k : Nat} {p : Nat → Bool} {i j : Nat} (h : i < j) (hp : p ((i + j) / 2) = false) : bsr (k + 1) p i j = bsr k p i ((i + j) / 2) := by rw [bsr, if_pos h, if_neg (by rw [hp]; decide)]
theorem bsr_end {k : Nat} {p : Nat → Bool} {i j : Nat} (h : ¬ i < j) : bsr k p i j = i := by
 cases k with
 | zero => rfl
 | succ k => rw [bsr, if_neg h]
theorem GoodI.shiftRA {Ok : Int → Prop} {N : Nat} : ∀ (n a : Nat) (d : Array Int), GoodI Ok N d → a + n < N → GoodI Ok N (shiftRF n a d)
 | 0, _, _, h, _ => h
 | n + 1, a, d, h, h1 => GoodI.shiftRA n (a + 1) _ (h.swp a (a + 1) qa5 qa5) qa5
theorem GoodI.shiftLA {Ok : Int → Prop} {N : Nat} : ∀ (n m : Nat) (d : Array Int), GoodI Ok N d → m < N → n ≤ m → GoodI Ok N (shiftLF n m d)
 | 0, _, _, h, _, _ => h
 | n + 1, m, d, h, h1, h2 => GoodI.shiftLA n (m - 1) _ (h.swp m (m - 1) qa5 qa5) qa5 qa5
theorem symM1_s (cf : Int → Int → Int) (Ok : Int → Prop) (g : Nat) (cb : Array Value) (blk off cap a m b : Nat) (d0 d : Array Int) (w0 w : World)
  (eg : ∀ args w, (callFunc g args).run Try.prog w = .ok (.enter g args) w) (hcmp : CmpL g cb cf Ok blk off d0.size w0) (R : Row1 ei w0 blk off d0) (hs : d0.size = d.size) (G : GoodI Ok d.size d) (S : SW ei w0 blk off d w) (ham : a < m) (hm : m ≤ a + 1) (hmb : m < b) (hb : b ≤ d.size) (hsz : d.size < 4611686018427387904) :
  Calls Try.prog 144 #[.slice (some ⟨blk, off, none⟩) d.size cap, .int .i64 a, .int .i64 m, .int .i64 b, .func (.func g) #[] cb] w fun e w' => e = .returned (.tuple #[]) ∧ SW ei w0 blk off (shiftRF (bsr (b + 1) (fun h => ltOf cf d[h]! d[a]!) m b - 1 - a) a d) w' := by
 have hcl0 := R.hO.cells; simp only [Value.cells] at hcl0; have hst := R.hO.store Try.prog; have mixed : Try.prog.follows Departure.mixedOrders = true := by kernel_rfl
 have t3 := Try.underlying3; have a3 := Try.isAgg3; have z3 := Try.sizeOf3; have v3 := Try.zeroValue3; have t4 := Try.underlying4; have a4 := Try.isAgg4; have z4 := Try.sizeOf4; have v4 := Try.zeroValue4; have t186 := Try.underlying186; have a186 := Try.isAgg186; have z186 := Try.sizeOf186; have t53 := Try.underlying53; have u53 := run_underlying Try.underlying53; have u3 := run_underlying Try.underlying3; have u4 := run_underlying Try.underlying4; have u186 := run_underlying Try.underlying186; have HC : Aside _ := hcmp; have S0 : Aside (SW ei w0 blk off d w) := S; clear S hcmp; have c1 : IntKind.i64.wrap ((m : Int) - (a : Int)) = 1 := by rw [IntKind.wrap_i64]; omega
 obtain ⟨p, hp⟩ : ∃ p : Nat → Bool, p = fun h => ltOf cf d[h]! d[a]! := ⟨_, rfl⟩
 rw [← hp]; have hpH : Hid (_ = _) := hp; clear hp
 go_enter Try.func144, Try.ntmps144
 go_wp2
 go_loopg [10, 11] b (fun kx s10 s11 wr => ∃ (i j : Nat), s10 = .int .i64 i ∧ s11 = .int .i64 j ∧ m ≤ i ∧ i ≤ j ∧ j ≤ b ∧ j - i ≤ kx ∧ Aside (SW ei w0 blk off d wr) ∧ ∃ K, j - i < K ∧ Hid (bsr K p i j = bsr (b + 1) p m b))
 case atStart => exact ⟨m, b, rfl, rfl, qa5, qa5, qa5, qa5, S0, b + 1, qa5, rfl⟩
 case round =>
  clear S0; obtain ⟨i, j, rfl, rfl, hmi, hij, hjb, hkx, S1, K, hK, HB⟩ := hrel
  by_cases hlt : i < j
  ·have hltz : (i : Int) < (j : Int) := by omega
   obtain ⟨K, rfl⟩ : ∃ q, K = q + 1 := ⟨K - 1, qa5⟩
   cases hlv : ltOf cf d[(i + j) / 2]! d[a]! with
   | true =>
    have HB2 : Hid (bsr K p ((i + j) / 2 + 1) j = bsr (b + 1) p m b) := (bsr_go hlt (by rw [hpH.out]; exact hlv)).symm.trans HB.out; clear HB; obtain ⟨h, hh⟩ : ∃ h, h = (i + j) / 2 := ⟨_, rfl⟩; rw [← hh] at hlv HB2; obtain ⟨iN, hiN⟩ : ∃ zz, zz = h := ⟨_, rfl⟩; obtain ⟨jN, hjN⟩ : ∃ zz, zz = a := ⟨_, rfl⟩; have ea : (((i : Int) + (j : Int)) / 2).toNat = iN := by omega
    have pa : (0 : Int) ≤ ((i : Int) + (j : Int)) / 2 := by omega
    have ba : ((i : Int) + (j : Int)) / 2 < (d.size : Int) := by omega
    have ec : ((a : Int)).toNat = jN := by omega
    have pc : (0 : Int) ≤ (a : Int) := by omega
    have bc : (a : Int) < (d.size : Int) := by omega
    obtain ⟨x, hx⟩ : ∃ x, x = d[h]! := ⟨_, rfl⟩; obtain ⟨y, hy⟩ : ∃ x, x = d[a]! := ⟨_, rfl⟩; have la := S1.out.cl R qa5 (h) qa5; have lb := S1.out.cl R qa5 (a) qa5; rw [← hx, ← hiN] at la; rw [← hy, ← hjN] at lb; have hc := cmpk S1.out HC.out qa5 x y qa29 qa30; have hv : cf x y < 0 := by rw [hx, hy]; exact qT hlv
    have hd : decide (cf x y < 0) = true := decide_eq_true hv; clear hx hy hiN hjN
    go_wp2_with fail
    go_quiet_grown (first | (go_at_fn g; refine Calls.grown_of (hc _ _)))
    have S2 : Aside (SW ei w0 blk off d (grow (wr.drewN nq) osq)) := S1.out.grown nq osq; clear la lb hc S1; generalize grow (wr.drewN nq) osq = w2 at S2 ⊢; clear nq osq ea ec; go_wp2
    go_roundg (j - (h + 1))
    case measure => omega
    case rel => exact ⟨h + 1, j, qa13, rfl, qa5, qa5, hjb, Nat.le_refl _, S2, K, qa5, HB2⟩
   | false =>
    have HB2 : Hid (bsr K p i ((i + j) / 2) = bsr (b + 1) p m b) := (bsr_no hlt (by rw [hpH.out]; exact hlv)).symm.trans HB.out; clear HB; obtain ⟨h, hh⟩ : ∃ h, h = (i + j) / 2 := ⟨_, rfl⟩; rw [← hh] at hlv HB2; obtain ⟨iN, hiN⟩ : ∃ zz, zz = h := ⟨_, rfl⟩; obtain ⟨jN, hjN⟩ : ∃ zz, zz = a := ⟨_, rfl⟩; have ea : (((i : Int) + (j : Int)) / 2).toNat = iN := by omega
    have pa : (0 : Int) ≤ ((i : Int) + (j : Int)) / 2 := by omega
    have ba : ((i : Int) + (j : Int)) / 2 < (d.size : Int) := by omega
    have ec : ((a : Int)).toNat = jN := by omega
    have pc : (0 : Int) ≤ (a : Int) := by omega
    have bc : (a : Int) < (d.size : Int) := by omega
    obtain ⟨x, hx⟩ : ∃ x, x = d[h]! := ⟨_, rfl⟩; obtain ⟨y, hy⟩ : ∃ x, x = d[a]! := ⟨_, rfl⟩; have la := S1.out.cl R qa5 (h) qa5; have lb := S1.out.cl R qa5 (a) qa5; rw [← hx, ← hiN] at la; rw [← hy, ← hjN] at lb; have hc := cmpk S1.out HC.out qa5 x y qa29 qa30; have hv : ¬ cf x y < 0 := by rw [hx, hy]; exact of_decide_eq_false hlv
    have hd : decide (cf x y < 0) = false := decide_eq_false hv; clear hx hy hiN hjN
    go_wp2_with fail
    go_quiet_grown (first | (go_at_fn g; refine Calls.grown_of (hc _ _)))
    have S2 : Aside (SW ei w0 blk off d (grow (wr.drewN nq) osq)) := S1.out.grown nq osq; clear la lb hc S1; generalize grow (wr.drewN nq) osq = w2 at S2 ⊢; clear nq osq ea ec; go_wp2
    go_roundg (h - i)
    case measure => omega
    case rel => exact ⟨i, h, rfl, qa13, hmi, qa5, qa5, Nat.le_refl _, S2, K, qa5, HB2⟩
  ·have hnot : ¬ (i : Int) < (j : Int) := by omega
   have HE := HB.out; rw [bsr_end hlt] at HE; have HI : Hid (i = bsr (b + 1) p m b) := HE; clear HB HE; go_wp2
   go_loopg [13] b (fun kx s13 wr => ∃ (k : Nat) (dk : Array Int), s13 = .int .i64 k ∧ a ≤ k ∧ k ≤ i - 1 ∧ i - 1 - k ≤ kx ∧ dk.size = d.size ∧ Aside (SW ei w0 blk off dk wr) ∧ Hid (shiftRF (i - 1 - k) k dk = shiftRF (i - 1 - a) a d))
   case atStart => exact ⟨a, d, rfl, qa5, qa5, qa5, rfl, S1, rfl⟩
   case round =>
    clear S1; obtain ⟨k, dk, rfl, hak, hki, hkx, hds, S1, HB⟩ := hrel; have ci : IntKind.i64.wrap ((i : Int) - 1) = (i : Int) - 1 := by rw [IntKind.wrap_i64]; omega
    by_cases hl2 : k < i - 1
    ·have hltz : (k : Int) < (i : Int) - 1 := by omega
     have HB2 : Hid (shiftRF (i - 1 - (k + 1)) (k + 1) (swp dk k (k + 1)) = shiftRF (i - 1 - a) a d) := by
      have := HB.out; rw [show i - 1 - k = (i - 1 - (k + 1)) + 1 by omega, shiftRF] at this
      exact this
     clear HB
     go_wp2_with fail
     obtain ⟨iN, hiN⟩ : ∃ zz, zz = k := ⟨_, rfl⟩; obtain ⟨jN, hjN⟩ : ∃ zz, zz = k + 1 := ⟨_, rfl⟩; have ea : ((k : Int)).toNat = iN := by omega
     have pa : (0 : Int) ≤ (k : Int) := by omega
     have ba : (k : Int) < (d.size : Int) := by omega
     have ec : ((k : Int) + 1).toNat = jN := by omega
     have pc : (0 : Int) ≤ (k : Int) + 1 := by omega
     have bc : (k : Int) + 1 < (d.size : Int) := by omega
     have rc : IntKind.i64.wrap ((k : Int) + 1) = (k : Int) + 1 := by rw [IntKind.wrap_i64]; omega
     obtain ⟨x, hx⟩ : ∃ x, x = dk[k]! := ⟨_, rfl⟩; obtain ⟨y, hy⟩ : ∃ x, x = dk[k + 1]! := ⟨_, rfl⟩; have S2 : Aside (SW ei w0 blk off (swp dk (k) (k + 1)) ((wr.setCell ⟨blk, off + iN, none⟩ (ei y)).setCell ⟨blk, off + jN, none⟩ (ei x)).drew) := by rw [hiN, hjN, hx, hy]; exact S1.out.swapped R (k) (k + 1) qa15 qa15
     have ca := S1.out.c1 R qa15 (k) qa15; have cb' := S1.out.c1 R qa15 (k + 1) qa15; have fa := S1.out.f1 R qa15 (k) qa15; have fb := S1.out.f1 R qa15 (k + 1) qa15; obtain ⟨u, cc⟩ := S1.out.c2 R qa15 (k) (k + 1) qa15 qa15 (ei y)
     first | rw [← hjN, ← hiN] at cc | rw [← hiN, ← hjN] at cc
     rw [← hx, ← hiN] at ca; rw [← hy, ← hjN] at cb'; rw [← hiN] at fa; rw [← hjN] at fb; clear S1 hx hy hiN hjN
     go_wp2_with fail
     go_big_region_o
     clear ca cb' cc fa fb; generalize ((wr.setCell ⟨blk, off + iN, none⟩ (ei y)).setCell ⟨blk, off + jN, none⟩ (ei x)).drew = w2 at S2 ⊢; clear ea ec rc; go_wp2
     go_roundg (i - 1 - (k + 1))
     case measure => clear ci; omega
     case rel => exact ⟨k + 1, swp dk k (k + 1), qa13, qa5, qa5, Nat.le_refl _, by rw [size_swp]; exact hds, S2, HB2⟩
    ·have hnot2 : ¬ (k : Int) < (i : Int) - 1 := by omega
     go_wp2
     (try simp only [Exit.inBlock, Exit.then]); refine bodyPost_ret (results_none rfl _ _ _) rfl ?_
     refine ⟨rfl, ?_⟩; have := HB.out; rw [show i - 1 - k = 0 by omega] at this; rw [← HI.out, ← this]
     exact S1.out
theorem symM2_s (cf : Int → Int → Int) (Ok : Int → Prop) (g : Nat) (cb : Array Value) (blk off cap a m b : Nat) (d0 d : Array Int) (w0 w : World)
  (eg : ∀ args w, (callFunc g args).run Try.prog w = .ok (.enter g args) w) (hcmp : CmpL g cb cf Ok blk off d0.size w0) (R : Row1 ei w0 blk off d0) (hs : d0.size = d.size) (G : GoodI Ok d.size d) (S : SW ei w0 blk off d w) (ham : a + 1 < m) (hmb : m < b) (hbm : b ≤ m + 1) (hb : b ≤ d.size) (hsz : d.size < 4611686018427387904) :
  Calls Try.prog 144 #[.slice (some ⟨blk, off, none⟩) d.size cap, .int .i64 a, .int .i64 m, .int .i64 b, .func (.func g) #[] cb] w fun e w' => e = .returned (.tuple #[]) ∧ SW ei w0 blk off (shiftLF (m - bsr (b + 1) (fun h => !ltOf cf d[m]! d[h]!) a m) m d) w' := by
 have hcl0 := R.hO.cells; simp only [Value.cells] at hcl0; have hst := R.hO.store Try.prog; have mixed : Try.prog.follows Departure.mixedOrders = true := by kernel_rfl
 have t3 := Try.underlying3; have a3 := Try.isAgg3; have z3 := Try.sizeOf3; have v3 := Try.zeroValue3; have t4 := Try.underlying4; have a4 := Try.isAgg4; have z4 := Try.sizeOf4; have v4 := Try.zeroValue4; have t186 := Try.underlying186; have a186 := Try.isAgg186; have z186 := Try.sizeOf186; have t53 := Try.underlying53; have u53 := run_underlying Try.underlying53; have u3 := run_underlying Try.underlying3; have u4 := run_underlying Try.underlying4; have u186 := run_underlying Try.underlying186; have HC : Aside _ := hcmp; have S0 : Aside (SW ei w0 blk off d w) := S; clear S hcmp; have c1 : IntKind.i64.wrap ((m : Int) - (a : Int)) = (m : Int) - (a : Int) := by rw [IntKind.wrap_i64]; omega
 have c2 : ((m : Int) - (a : Int) == 1) = false := beq_eq_false_iff_ne.mpr (by clear c1; omega); have c3 : IntKind.i64.wrap ((b : Int) - (m : Int)) = 1 := by clear c1; rw [IntKind.wrap_i64]; omega
 obtain ⟨p, hp⟩ : ∃ p : Nat → Bool, p = fun h => !ltOf cf d[m]! d[h]! := ⟨_, rfl⟩
 rw [← hp]; have hpH : Hid (_ = _) := hp; clear hp
 go_enter Try.func144, Try.ntmps144
 go_wp2
 go_loopg [14, 15] b (fun kx s10 s11 wr => ∃ (i j : Nat), s10 = .int .i64 i ∧ s11 = .int .i64 j ∧ a ≤ i ∧ i ≤ j ∧ j ≤ m ∧ j - i ≤ kx ∧ Aside (SW ei w0 blk off d wr) ∧ ∃ K, j - i < K ∧ Hid (bsr K p i j = bsr (b + 1) p a m))
 case atStart => exact ⟨a, m, rfl, rfl, qa5, qa5, qa5, qa5, S0, b + 1, qa5, rfl⟩
 case round =>
  clear S0 c1 c2 c3; obtain ⟨i, j, rfl, rfl, hmi, hij, hjb, hkx, S1, K, hK, HB⟩ := hrel
  by_cases hlt : i < j
  ·have hltz : (i : Int) < (j : Int) := by omega
   obtain ⟨K, rfl⟩ : ∃ q, K = q + 1 := ⟨K - 1, qa5⟩
   cases hlv : ltOf cf d[m]! d[(i + j) / 2]! with
   | false =>
    have HB2 : Hid (bsr K p ((i + j) / 2 + 1) j = bsr (b + 1) p a m) := (bsr_go hlt (by rw [hpH.out]; show (!ltOf cf d[m]! d[(i + j) / 2]!) = true; rw [hlv]; rfl)).symm.trans HB.out; clear HB; obtain ⟨h, hh⟩ : ∃ h, h = (i + j) / 2 := ⟨_, rfl⟩; rw [← hh] at hlv HB2; obtain ⟨iN, hiN⟩ : ∃ zz, zz = m := ⟨_, rfl⟩; obtain ⟨jN, hjN⟩ : ∃ zz, zz = h := ⟨_, rfl⟩; have ea : ((m : Int)).toNat = iN := by omega
    have pa : (0 : Int) ≤ (m : Int) := by omega
    have ba : (m : Int) < (d.size : Int) := by omega
    have ec : (((i : Int) + (j : Int)) / 2).toNat = jN := by omega
    have pc : (0 : Int) ≤ ((i : Int) + (j : Int)) / 2 := by omega
    have bc : ((i : Int) + (j : Int)) / 2 < (d.size : Int) := by omega
    obtain ⟨x, hx⟩ : ∃ x, x = d[m]! := ⟨_, rfl⟩; obtain ⟨y, hy⟩ : ∃ x, x = d[h]! := ⟨_, rfl⟩; have la := S1.out.cl R qa5 (m) qa5; have lb := S1.out.cl R qa5 (h) qa5; rw [← hx, ← hiN] at la; rw [← hy, ← hjN] at lb; have hc := cmpk S1.out HC.out qa5 x y qa29 qa30; have hv : ¬ cf x y < 0 := by rw [hx, hy]; exact of_decide_eq_false hlv
    have hd : decide (cf x y < 0) = false := decide_eq_false hv; clear hx hy hiN hjN
    go_wp2_with fail
    go_quiet_grown (first | (go_at_fn g; refine Calls.grown_of (hc _ _)))
    have S2 : Aside (SW ei w0 blk off d (grow (wr.drewN nq) osq)) := S1.out.grown nq osq; clear la lb hc S1; generalize grow (wr.drewN nq) osq = w2 at S2 ⊢; clear nq osq ea ec; go_wp2
    go_roundg (j - (h + 1))
    case measure => omega
    case rel => exact ⟨h + 1, j, qa13, rfl, qa5, qa5, hjb, Nat.le_refl _, S2, K, qa5, HB2⟩
   | true =>
    have HB2 : Hid (bsr K p i ((i + j) / 2) = bsr (b + 1) p a m) := (bsr_no hlt (by rw [hpH.out]; show (!ltOf cf d[m]! d[(i + j) / 2]!) = false; rw [hlv]; rfl)).symm.trans HB.out; clear HB; obtain ⟨h, hh⟩ : ∃ h, h = (i + j) / 2 := ⟨_, rfl⟩; rw [← hh] at hlv HB2; obtain ⟨iN, hiN⟩ : ∃ zz, zz = m := ⟨_, rfl⟩; obtain ⟨jN, hjN⟩ : ∃ zz, zz = h := ⟨_, rfl⟩; have ea : ((m : Int)).toNat = iN := by omega
    have pa : (0 : Int) ≤ (m : Int) := by omega
    have ba : (m : Int) < (d.size : Int) := by omega
    have ec : (((i : Int) + (j : Int)) / 2).toNat = jN := by omega
    have pc : (0 : Int) ≤ ((i : Int) + (j : Int)) / 2 := by omega
    have bc : ((i : Int) + (j : Int)) / 2 < (d.size : Int) := by omega
    obtain ⟨x, hx⟩ : ∃ x, x = d[m]! := ⟨_, rfl⟩; obtain ⟨y, hy⟩ : ∃ x, x = d[h]! := ⟨_, rfl⟩; have la := S1.out.cl R qa5 (m) qa5; have lb := S1.out.cl R qa5 (h) qa5; rw [← hx, ← hiN] at la; rw [← hy, ← hjN] at lb; have hc := cmpk S1.out HC.out qa5 x y qa29 qa30; have hv : cf x y < 0 := by rw [hx, hy]; exact qT hlv
    have hd : decide (cf x y < 0) = true := decide_eq_true hv; clear hx hy hiN hjN
    go_wp2_with fail
    go_quiet_grown (first | (go_at_fn g; refine Calls.grown_of (hc _ _)))
    have S2 : Aside (SW ei w0 blk off d (grow (wr.drewN nq) osq)) := S1.out.grown nq osq; clear la lb hc S1; generalize grow (wr.drewN nq) osq = w2 at S2 ⊢; clear nq osq ea ec; go_wp2
    go_roundg (h - i)
    case measure => omega
    case rel => exact ⟨i, h, rfl, qa13, hmi, qa5, qa5, Nat.le_refl _, S2, K, qa5, HB2⟩
  ·have hnot : ¬ (i : Int) < (j : Int) := by omega
   have HE := HB.out; rw [bsr_end hlt] at HE; have HI : Hid (i = bsr (b + 1) p a m) := HE; clear HB HE; go_wp2
   go_loopg [17] b (fun kx s13 wr => ∃ (k : Nat) (dk : Array Int), s13 = .int .i64 k ∧ i ≤ k ∧ k ≤ m ∧ k - i ≤ kx ∧ dk.size = d.size ∧ Aside (SW ei w0 blk off dk wr) ∧ Hid (shiftLF (k - i) k dk = shiftLF (m - i) m d))
   case atStart => exact ⟨m, d, rfl, qa5, qa5, qa5, rfl, S1, rfl⟩
   case round =>
    clear S1; obtain ⟨k, dk, rfl, hik, hkm, hkx, hds, S1, HB⟩ := hrel
    by_cases hl2 : i < k
    ·obtain ⟨q, rfl⟩ : ∃ q, k = q + 1 := ⟨k - 1, qa5⟩
     have hltz : (i : Int) < (q : Int) + 1 := by omega
     have HB2 : Hid (shiftLF (q - i) q (swp dk (q + 1) q) = shiftLF (m - i) m d) := by
      have := HB.out; rw [show q + 1 - i = (q - i) + 1 by omega, shiftLF] at this
      exact this
     clear HB
     go_wp2_with fail
     obtain ⟨iN, hiN⟩ : ∃ zz, zz = q + 1 := ⟨_, rfl⟩; obtain ⟨jN, hjN⟩ : ∃ zz, zz = q := ⟨_, rfl⟩; have ea : ((q : Int) + 1).toNat = iN := by omega
     have pa : (0 : Int) ≤ (q : Int) + 1 := by omega
     have ba : (q : Int) + 1 < (d.size : Int) := by omega
     have ec : ((q : Int)).toNat = jN := by omega
     have pc : (0 : Int) ≤ (q : Int) := by omega
     have bc : (q : Int) < (d.size : Int) := by omega
     have rc : IntKind.i64.wrap ((q : Int)) = (q : Int) := by rw [IntKind.wrap_i64]; omega
     obtain ⟨x, hx⟩ : ∃ x, x = dk[q + 1]! := ⟨_, rfl⟩; obtain ⟨y, hy⟩ : ∃ x, x = dk[q]! := ⟨_, rfl⟩; have S2 : Aside (SW ei w0 blk off (swp dk (q + 1) (q)) ((wr.setCell ⟨blk, off + iN, none⟩ (ei y)).setCell ⟨blk, off + jN, none⟩ (ei x)).drew) := by rw [hiN, hjN, hx, hy]; exact S1.out.swapped R (q + 1) (q) qa15 qa15
     have ca := S1.out.c1 R qa15 (q + 1) qa15; have cb' := S1.out.c1 R qa15 (q) qa15; have fa := S1.out.f1 R qa15 (q + 1) qa15; have fb := S1.out.f1 R qa15 (q) qa15; obtain ⟨u, cc⟩ := S1.out.c2 R qa15 (q + 1) (q) qa15 qa15 (ei y)
     first | rw [← hjN, ← hiN] at cc | rw [← hiN, ← hjN] at cc
     rw [← hx, ← hiN] at ca; rw [← hy, ← hjN] at cb'; rw [← hiN] at fa; rw [← hjN] at fb; clear S1 hx hy hiN hjN
     go_wp2_with fail
     go_big_region_o
     clear ca cb' cc fa fb; generalize ((wr.setCell ⟨blk, off + iN, none⟩ (ei y)).setCell ⟨blk, off + jN, none⟩ (ei x)).drew = w2 at S2 ⊢; clear ea ec rc; go_wp2
     go_roundg (q - i)
     case measure => omega
     case rel => exact ⟨q, swp dk (q + 1) q, qa13, qa5, qa5, Nat.le_refl _, by rw [size_swp]; exact hds, S2, HB2⟩
    ·have hnot2 : ¬ (i : Int) < (k : Int) := by omega
     go_wp2
     (try simp only [Exit.inBlock, Exit.then]); refine bodyPost_ret (results_none rfl _ _ _) rfl ?_
     refine ⟨rfl, ?_⟩; have := HB.out; rw [show k - i = 0 by omega] at this; rw [← HI.out, ← this]
     exact S1.out
def symMF (lt : Int → Int → Bool) : Nat → Nat → Nat → Nat → Array Int → Array Int
 | 0, _, _, _, d => d
 | k + 1, a, m, b, d =>
  if m - a = 1 then shiftRF (bsr (b + 1) (fun h => lt d[h]! d[a]!) m b - 1 - a) a d
  else if b - m = 1 then shiftLF (m - bsr (b + 1) (fun h => !lt d[m]! d[h]!) a m) m d
  else
   let mid := (a + b) / 2
   let n := mid + m
   let s0 := if m > mid then n - b else a
   let r0 := if m > mid then mid else m
   let st := bsr (b + 1) (fun c => !lt d[n - 1 - c]! d[c]!) s0 r0
   let en := n - st
   let d1 := if st < m ∧ m < en then rotF (b + b) (m - st) (en - m) m d else d
   let d2 := if a < st ∧ st < mid then symMF lt k a st mid d1 else d1
   if mid < en ∧ en < b then symMF lt k mid en b d2 else d2
theorem bsr_in (p : Nat → Bool) : ∀ (k i j : Nat), i ≤ j → i ≤ bsr k p i j ∧ bsr k p i j ≤ j
 | 0, i, j, h => ⟨Nat.le_refl _, h⟩
 | k + 1, i, j, h => by
  rw [bsr]
  by_cases hl : i < j
  ·rw [if_pos hl]
   by_cases hp : p ((i + j) / 2) = true
   ·rw [if_pos hp]
    have := bsr_in p k ((i + j) / 2 + 1) j qa5
    exact ⟨qa5, this.2⟩
   ·rw [if_neg hp]
    have := bsr_in p k i ((i + j) / 2) qa5
    exact ⟨this.1, qa5⟩
  ·rw [if_neg hl]; exact ⟨Nat.le_refl _, h⟩
theorem GoodI.symMA {Ok : Int → Prop} {N : Nat} (lt : Int → Int → Bool) : ∀ (k a m b : Nat) (d : Array Int), GoodI Ok N d → a < m → m < b → b ≤ N → GoodI Ok N (symMF lt k a m b d) := by
 intro k
 induction k with
 | zero => intro a m b d h _ _ _; exact h
 | succ k ih =>
  intro a m b d h ham hmb hb; rw [symMF]
  by_cases h1 : m - a = 1
  ·rw [if_pos h1]
   have := bsr_in (fun h => lt d[h]! d[a]!) (b + 1) m b qa5
   exact h.shiftRA _ _ _ qa5
  ·rw [if_neg h1]
   by_cases h2 : b - m = 1
   ·rw [if_pos h2]
    have := bsr_in (fun h => !lt d[m]! d[h]!) (b + 1) a m qa5
    exact h.shiftLA _ _ _ qa5 qa5
   ·rw [if_neg h2]
    dsimp only
    obtain ⟨mid, hmid⟩ : ∃ mid, mid = (a + b) / 2 := ⟨_, rfl⟩; rw [← hmid]
    have hcase : (if m > mid then mid + m - b else a) ≤ (if m > mid then mid else m) ∧ (if m > mid then mid else m) ≤ m ∧ (if m > mid then mid else m) ≤ mid ∧ a ≤ (if m > mid then mid + m - b else a) ∧ mid + m - b ≤ (if m > mid then mid + m - b else a) := by
     by_cases hg : m > mid
     ·rw [if_pos hg, if_pos hg]; omega
     ·rw [if_neg hg, if_neg hg]; omega
    generalize (if m > mid then mid + m - b else a) = s0 at hcase ⊢; generalize (if m > mid then mid else m) = r0 at hcase ⊢; have hst := bsr_in (fun c => !lt d[mid + m - 1 - c]! d[c]!) (b + 1) s0 r0 hcase.1; generalize bsr (b + 1) (fun c => !lt d[mid + m - 1 - c]! d[c]!) s0 r0 = st at hst ⊢
    have g1 : GoodI Ok N (if st < m ∧ m < mid + m - st then rotF (b + b) (m - st) (mid + m - st - m) m d else d) := by
     by_cases hc : st < m ∧ m < mid + m - st
     ·rw [if_pos hc]; exact h.rotA _ _ _ _ _ qa5 qa5
     ·rw [if_neg hc]; exact h
    generalize (if st < m ∧ m < mid + m - st then rotF (b + b) (m - st) (mid + m - st - m) m d else d) = d1 at g1 ⊢
    have g2 : GoodI Ok N (if a < st ∧ st < mid then symMF lt k a st mid d1 else d1) := by
     by_cases hc : a < st ∧ st < mid
     ·rw [if_pos hc]; exact ih _ _ _ _ g1 hc.1 hc.2 qa5
     ·rw [if_neg hc]; exact g1
    generalize (if a < st ∧ st < mid then symMF lt k a st mid d1 else d1) = d2 at g2 ⊢
    by_cases hc : mid < mid + m - st ∧ mid + m - st < b
    ·rw [if_pos hc]; exact ih _ _ _ _ g2 hc.1 hc.2 hb
    ·rw [if_neg hc]; exact g2
theorem rotate_n (g : Nat) (cb : Array Value) (blk off cap a m b sz F : Nat) (d0 d : Array Int) (w0 w : World)
  (R : Row1 ei w0 blk off d0) (hn : d.size = sz) (hs : d0.size = d.size) (S : SW ei w0 blk off d w) (ham : a < m) (hmb : m < b) (hF : b - a ≤ F) (hb : b ≤ d.size) (hsz : d.size < 4611686018427387904) :
  Calls Try.prog 148 #[.slice (some ⟨blk, off, none⟩) sz cap, .int .i64 a, .int .i64 m, .int .i64 b, .func (.func g) #[] cb] w fun e w' => e = .returned (.tuple #[]) ∧ SW ei w0 blk off (rotF F (m - a) (b - m) m d) w' := by
 subst hn
 exact rotate_s g cb blk off cap a m b F d0 d w0 w R hs S ham hmb hF hb hsz
def bodyOf (f : Func) : Code := f.body.getD .skip
def seqR : Code → Code
 | .seq _ y => y
 | c => c
theorem symM3_t3 (k : Nat) (cf : Int → Int → Int) (Ok : Int → Prop) (g : Nat) (cb : Array Value) (blk off cap a b m mid st en : Nat) (d0 d d1 d2 : Array Int) (w0 w : World) (R : Row1 ei w0 blk off d0) (hs : d0.size = d.size) (hstl : st ≤ m ∧ st ≤ mid ∧ en + st ≤ mid + m ∧ mid + m ≤ en + st ∧ a ≤ st ∧ en ≤ b ∧ m ≤ en ∧ mid ≤ en ∧ mid < b ∧ a < mid) (hb : b ≤ d.size) (hsz : d.size < 4611686018427387904) (ih : ∀ (a' m' b' : Nat) (dk : Array Int) (wr : World), a' < m' → m' < b' → b' ≤ d.size → b' - a' ≤ k → GoodI Ok d.size dk → SW ei w0 blk off dk wr →
   Calls Try.prog 144 #[.slice (some ⟨blk, off, none⟩) d.size cap, .int .i64 a', .int .i64 m', .int .i64 b', .func (.func g) #[] cb] wr fun e w' => e = .returned (.tuple #[]) ∧ SW ei w0 blk off (symMF (ltOf cf) k a' m' b' dk) w') (hk : b - a ≤ k + 1) (G2 : GoodI Ok d.size d2) (S : SW ei w0 blk off d2 w)
  (p5 p6 p7 p8 p9 p10 p11 p12 p13 p14 p15 p16 p17 p21 p22 p23 p25 p26 p27 p28 p29 p30 p31 p32 p33 p34 p35 p36 p37 p38 p39 p40 p41 p42 p43 p44 p45 p46 p47 p48 p49 p50 p51 p52 p53 p54 p55 p56 p57 p58 p59 p60 p61 p62 p63 p64 p65 p66 p67 p68 p69 p70 p71 p72 p73 p74 p75 p76 p77 p78 p79 p80 p81 p82 p83 p84 p85 p86 p87 p88 p89 p90 p91 p92 p93 p94 p95 p96 p97 p98 p99 p100 p101 p102 p103 p104 p105 p106 p107 p108 p109 p110 p111 p112 p113 p114 p115 p116 p117 p118 p119 p120 p121 p122 p123 p124 p125 p126 p127 p128 p129 p130 p131 p132 p133 p134 p135 p136 p137 p138 p139 p140 p141 p142 p143 p144 p145 p146 p147 p148 p149 p150 p151 p152 p153 p154 p155 p156 p157 p158 p159 p160 p161 p162 p163 p164 p165 p166 p167 p168 p169 p170 p171 p172 p173 p174 p175 p176 p177 p178 p179 p180 p181 p182 p183 p184 p185 p186 p187 p188 p189 p190 p191 p192 p193 p194 p195 p196 p197 p198 p199 p200 p201 p202 p203 p204 p205 p206 p207 p208 p209 p210 p211 p212 p213 p214 p215 p216 p217 p218 p219 : Value) :
  (seqR (seqR (seqR (seqR (seqR (seqR (seqR (seqR (seqR (seqR (seqR (bodyOf Try.f144)))))))))))).wp Try.prog (bodyPost Try.prog Try.f144 fun e w' => e = .returned (.tuple #[]) ∧ SW ei w0 blk off (if mid < en ∧ en < b then symMF (ltOf cf) k mid en b d2 else d2) w') { tmps := #[.slice (some ⟨blk, off, none⟩) d.size cap, .int .i64 a, .int .i64 m, .int .i64 b, .func (.func g) #[] cb, p5, p6, p7, p8, p9, p10, p11, p12, p13, p14, p15, p16, p17, .int .i64 mid, .int .i64 ((mid : Int) + (m : Int)), .int .i64 st, p21, p22, p23, .int .i64 (en : Nat), p25, p26, p27, p28, p29, p30, p31, p32, p33, p34, p35, p36, p37, p38, p39, p40, p41, p42, p43, p44, p45, p46, p47, p48, p49, p50, p51, p52, p53, p54, p55, p56, p57, p58, p59, p60, p61, p62, p63, p64, p65, p66, p67, p68, p69, p70, p71, p72, p73, p74, p75, p76, p77, p78, p79, p80, p81, p82, p83, p84, p85, p86, p87, p88, p89, p90, p91, p92, p93, p94, p95, p96, p97, p98, p99, p100, p101, p102, p103, p104, p105, p106, p107, p108, p109, p110, p111, p112, p113, p114, p115, p116, p117, p118, p119, p120, p121, p122, p123, p124, p125, p126, p127, p128, p129, p130, p131, p132, p133, p134, p135, p136, p137, p138, p139, p140, p141, p142, p143, p144, p145, p146, p147, p148, p149, p150, p151, p152, p153, p154, p155, p156, p157, p158, p159, p160, p161, p162, p163, p164, p165, p166, p167, p168, p169, p170, p171, p172, p173, p174, p175, p176, p177, p178, p179, p180, p181, p182, p183, p184, p185, p186, p187, p188, p189, p190, p191, p192, p193, p194, p195, p196, p197, p198, p199, p200, p201, p202, p203, p204, p205, p206, p207, p208, p209, p210, p211, p212, p213, p214, p215, p216, p217, p218, p219], defers := [] } w := by
 have hcl0 := R.hO.cells; simp only [Value.cells] at hcl0; have hst := R.hO.store Try.prog; have mixed : Try.prog.follows Departure.mixedOrders = true := by kernel_rfl
 have t3 := Try.underlying3; have a3 := Try.isAgg3; have z3 := Try.sizeOf3; have v3 := Try.zeroValue3; have t4 := Try.underlying4; have a4 := Try.isAgg4; have z4 := Try.sizeOf4; have v4 := Try.zeroValue4; have t186 := Try.underlying186; have a186 := Try.isAgg186; have z186 := Try.sizeOf186; have t53 := Try.underlying53; have u53 := run_underlying Try.underlying53; have u3 := run_underlying Try.underlying3; have u4 := run_underlying Try.underlying4; have u186 := run_underlying Try.underlying186; have IH : Aside _ := ih; clear ih; obtain ⟨hl1, hl2, hl3, hl4, hl5, hl6, hl7, hl8, hl9, hl10⟩ := id hstl
 dsimp only [seqR, bodyOf, Try.f144, Option.getD]
 have S3 : Aside (SW ei w0 blk off d2 w) := S; clear S
 by_cases h1 : mid < en
 ·have h1z : (mid : Int) < (en : Int) := by omega
  by_cases h2 : en < b
  ·have h2z : (en : Int) < (b : Int) := by omega
   have hc := IH.out mid en b d2 _ h1 h2 hb qa5 G2 S3.out; clear S3
   go_wp2_with (go_at_call 144; refine hc.mono ?_; rintro e w2 ⟨rfl, hSW⟩)
   go_end0
   exact ⟨rfl, by first | exact hSW | (rw [if_pos ⟨h1, h2⟩]; exact hSW)⟩
  ·have h2z : ¬ (en : Int) < (b : Int) := by omega
   go_wp2
   go_end0
   exact ⟨rfl, by first | exact S3.out | (rw [if_neg (fun h => h2 h.2)]; exact S3.out)⟩
 ·have h1z : ¬ (mid : Int) < (en : Int) := by omega
  go_wp2
  go_end0
  exact ⟨rfl, by first | exact S3.out | (rw [if_neg (fun h => h1 h.1)]; exact S3.out)⟩
theorem symM3_t2 (k : Nat) (cf : Int → Int → Int) (Ok : Int → Prop) (g : Nat) (cb : Array Value) (blk off cap a b m mid st en : Nat) (d0 d d1 d2 : Array Int) (w0 w : World) (R : Row1 ei w0 blk off d0) (hs : d0.size = d.size) (hstl : st ≤ m ∧ st ≤ mid ∧ en + st ≤ mid + m ∧ mid + m ≤ en + st ∧ a ≤ st ∧ en ≤ b ∧ m ≤ en ∧ mid ≤ en ∧ mid < b ∧ a < mid) (hb : b ≤ d.size) (hsz : d.size < 4611686018427387904) (ih : ∀ (a' m' b' : Nat) (dk : Array Int) (wr : World), a' < m' → m' < b' → b' ≤ d.size → b' - a' ≤ k → GoodI Ok d.size dk → SW ei w0 blk off dk wr →
   Calls Try.prog 144 #[.slice (some ⟨blk, off, none⟩) d.size cap, .int .i64 a', .int .i64 m', .int .i64 b', .func (.func g) #[] cb] wr fun e w' => e = .returned (.tuple #[]) ∧ SW ei w0 blk off (symMF (ltOf cf) k a' m' b' dk) w') (hk : b - a ≤ k + 1) (GO : GoodI Ok d.size d1) (S : SW ei w0 blk off d1 w) (D2 : d2 = (if a < st ∧ st < mid then symMF (ltOf cf) k a st mid d1 else d1))
  (p5 p6 p7 p8 p9 p10 p11 p12 p13 p14 p15 p16 p17 p21 p22 p23 p25 p26 p27 p28 p29 p30 p31 p32 p33 p34 p35 p36 p37 p38 p39 p40 p41 p42 p43 p44 p45 p46 p47 p48 p49 p50 p51 p52 p53 p54 p55 p56 p57 p58 p59 p60 p61 p62 p63 p64 p65 p66 p67 p68 p69 p70 p71 p72 p73 p74 p75 p76 p77 p78 p79 p80 p81 p82 p83 p84 p85 p86 p87 p88 p89 p90 p91 p92 p93 p94 p95 p96 p97 p98 p99 p100 p101 p102 p103 p104 p105 p106 p107 p108 p109 p110 p111 p112 p113 p114 p115 p116 p117 p118 p119 p120 p121 p122 p123 p124 p125 p126 p127 p128 p129 p130 p131 p132 p133 p134 p135 p136 p137 p138 p139 p140 p141 p142 p143 p144 p145 p146 p147 p148 p149 p150 p151 p152 p153 p154 p155 p156 p157 p158 p159 p160 p161 p162 p163 p164 p165 p166 p167 p168 p169 p170 p171 p172 p173 p174 p175 p176 p177 p178 p179 p180 p181 p182 p183 p184 p185 p186 p187 p188 p189 p190 p191 p192 p193 p194 p195 p196 p197 p198 p199 p200 p201 p202 p203 p204 p205 p206 p207 p208 p209 p210 p211 p212 p213 p214 p215 p216 p217 p218 p219 : Value) :
  (seqR (seqR (seqR (seqR (seqR (seqR (seqR (seqR (seqR (seqR (bodyOf Try.f144))))))))))).wp Try.prog (bodyPost Try.prog Try.f144 fun e w' => e = .returned (.tuple #[]) ∧ SW ei w0 blk off (if mid < en ∧ en < b then symMF (ltOf cf) k mid en b d2 else d2) w') { tmps := #[.slice (some ⟨blk, off, none⟩) d.size cap, .int .i64 a, .int .i64 m, .int .i64 b, .func (.func g) #[] cb, p5, p6, p7, p8, p9, p10, p11, p12, p13, p14, p15, p16, p17, .int .i64 mid, .int .i64 ((mid : Int) + (m : Int)), .int .i64 st, p21, p22, p23, .int .i64 (en : Nat), p25, p26, p27, p28, p29, p30, p31, p32, p33, p34, p35, p36, p37, p38, p39, p40, p41, p42, p43, p44, p45, p46, p47, p48, p49, p50, p51, p52, p53, p54, p55, p56, p57, p58, p59, p60, p61, p62, p63, p64, p65, p66, p67, p68, p69, p70, p71, p72, p73, p74, p75, p76, p77, p78, p79, p80, p81, p82, p83, p84, p85, p86, p87, p88, p89, p90, p91, p92, p93, p94, p95, p96, p97, p98, p99, p100, p101, p102, p103, p104, p105, p106, p107, p108, p109, p110, p111, p112, p113, p114, p115, p116, p117, p118, p119, p120, p121, p122, p123, p124, p125, p126, p127, p128, p129, p130, p131, p132, p133, p134, p135, p136, p137, p138, p139, p140, p141, p142, p143, p144, p145, p146, p147, p148, p149, p150, p151, p152, p153, p154, p155, p156, p157, p158, p159, p160, p161, p162, p163, p164, p165, p166, p167, p168, p169, p170, p171, p172, p173, p174, p175, p176, p177, p178, p179, p180, p181, p182, p183, p184, p185, p186, p187, p188, p189, p190, p191, p192, p193, p194, p195, p196, p197, p198, p199, p200, p201, p202, p203, p204, p205, p206, p207, p208, p209, p210, p211, p212, p213, p214, p215, p216, p217, p218, p219], defers := [] } w := by
 have hcl0 := R.hO.cells; simp only [Value.cells] at hcl0; have hst := R.hO.store Try.prog; have mixed : Try.prog.follows Departure.mixedOrders = true := by kernel_rfl
 have t3 := Try.underlying3; have a3 := Try.isAgg3; have z3 := Try.sizeOf3; have v3 := Try.zeroValue3; have t4 := Try.underlying4; have a4 := Try.isAgg4; have z4 := Try.sizeOf4; have v4 := Try.zeroValue4; have t186 := Try.underlying186; have a186 := Try.isAgg186; have z186 := Try.sizeOf186; have t53 := Try.underlying53; have u53 := run_underlying Try.underlying53; have u3 := run_underlying Try.underlying3; have u4 := run_underlying Try.underlying4; have u186 := run_underlying Try.underlying186; have IH : Aside _ := ih; clear ih; obtain ⟨hl1, hl2, hl3, hl4, hl5, hl6, hl7, hl8, hl9, hl10⟩ := id hstl
 dsimp only [seqR, bodyOf, Try.f144, Option.getD]
 have S0 : Aside (SW ei w0 blk off d1 w) := S; have DD : Hid (_ = _) := D2; clear S D2
 have GN : GoodI Ok d.size d2 := by
  rw [DD.out]
  by_cases h : a < st ∧ st < mid
  ·rw [if_pos h]; exact GO.symMA _ _ _ _ _ _ h.1 h.2 qa5
  ·rw [if_neg h]; exact GO
 refine wp_seq_k ?_; intro K hK
 go_cut [] from 25 (fun wx => SW ei w0 blk off d2 wx)
 case first =>
  have e1 := DD.out; clear DD
  by_cases h1 : a < st
  ·have h1z : (a : Int) < (st : Int) := by omega
   by_cases h2 : st < mid
   ·have h2z : (st : Int) < (mid : Int) := by omega
    rw [if_pos ⟨h1, h2⟩] at e1; have E1 : Hid (_ = _) := e1; have hc := IH.out a st mid d1 _ h1 h2 qa5 qa5 GO S0.out; clear e1 S0
    go_wp2_with (go_at_call 144; refine hc.mono ?_; rintro e w2 ⟨rfl, hSW⟩)
    go_meet
    case rel => rw [E1.out]; exact hSW
   ·have h2z : ¬ (st : Int) < (mid : Int) := by omega
    rw [if_neg (fun h => h2 h.2)] at e1; have E1 : Hid (_ = _) := e1; clear e1
    go_wp2_with fail
    go_meet
    case rel => rw [E1.out]; exact S0.out
  ·have h1z : ¬ (a : Int) < (st : Int) := by omega
   rw [if_neg (fun h => h1 h.1)] at e1; have E1 : Hid (_ = _) := e1; clear e1
   go_wp2_with fail
   go_meet
   case rel => rw [E1.out]; exact S0.out
 case rest =>
  go_step
  exact symM3_t3 k cf Ok g cb blk off cap a b m mid st en d0 d d1 d2 w0 _ R hs hstl hb hsz IH.out hk GN hcut _ _ _ _ _ _ _ _ _ _ _ _ _ _ _ _ _ _ _ _ _ _ _ _ _ _ _ _ _ _ _ _ _ _ _ _ _ _ _ _ _ _ _ _ _ _ _ _ _ _ _ _ _ _ _ _ _ _ _ _ _ _ _ _ _ _ _ _ _ _ _ _ _ _ _ _ _ _ _ _ _ _ _ _ _ _ _ _ _ _ _ _ _ _ _ _ _ _ _ _ _ _ _ _ _ _ _ _ _ _ _ _ _ _ _ _ _ _ _ _ _ _ _ _ _ _ _ _ _ _ _ _ _ _ _ _ _ _ _ _ _ _ _ _ _ _ _ _ _ _ _ _ _ _ _ _ _ _ _ _ _ _ _ _ _ _ _ _ _ _ _ _ _ _ _ _ _ _ _ _ _ _ _ _ _ _ _ _ _ _ _ _ _ _ _ _ _ _ _ _ _ _ _ _ _ _ _ _ _ _ _
theorem symM3_t1 (k : Nat) (cf : Int → Int → Int) (Ok : Int → Prop) (g : Nat) (cb : Array Value) (blk off cap a b m mid st en : Nat) (d0 d d1 d2 : Array Int) (w0 w : World) (R : Row1 ei w0 blk off d0) (hs : d0.size = d.size) (hstl : st ≤ m ∧ st ≤ mid ∧ en + st ≤ mid + m ∧ mid + m ≤ en + st ∧ a ≤ st ∧ en ≤ b ∧ m ≤ en ∧ mid ≤ en ∧ mid < b ∧ a < mid) (hb : b ≤ d.size) (hsz : d.size < 4611686018427387904) (ih : ∀ (a' m' b' : Nat) (dk : Array Int) (wr : World), a' < m' → m' < b' → b' ≤ d.size → b' - a' ≤ k → GoodI Ok d.size dk → SW ei w0 blk off dk wr →
   Calls Try.prog 144 #[.slice (some ⟨blk, off, none⟩) d.size cap, .int .i64 a', .int .i64 m', .int .i64 b', .func (.func g) #[] cb] wr fun e w' => e = .returned (.tuple #[]) ∧ SW ei w0 blk off (symMF (ltOf cf) k a' m' b' dk) w') (hk : b - a ≤ k + 1) (GO : GoodI Ok d.size d) (S : SW ei w0 blk off d w) (D1 : d1 = (if st < m ∧ m < en then rotF (b + b) (m - st) (en - m) m d else d)) (D2 : d2 = (if a < st ∧ st < mid then symMF (ltOf cf) k a st mid d1 else d1))
  (p5 p6 p7 p8 p9 p10 p11 p12 p13 p14 p15 p16 p17 p21 p22 p23 p25 p26 p27 p28 p29 p30 p31 p32 p33 p34 p35 p36 p37 p38 p39 p40 p41 p42 p43 p44 p45 p46 p47 p48 p49 p50 p51 p52 p53 p54 p55 p56 p57 p58 p59 p60 p61 p62 p63 p64 p65 p66 p67 p68 p69 p70 p71 p72 p73 p74 p75 p76 p77 p78 p79 p80 p81 p82 p83 p84 p85 p86 p87 p88 p89 p90 p91 p92 p93 p94 p95 p96 p97 p98 p99 p100 p101 p102 p103 p104 p105 p106 p107 p108 p109 p110 p111 p112 p113 p114 p115 p116 p117 p118 p119 p120 p121 p122 p123 p124 p125 p126 p127 p128 p129 p130 p131 p132 p133 p134 p135 p136 p137 p138 p139 p140 p141 p142 p143 p144 p145 p146 p147 p148 p149 p150 p151 p152 p153 p154 p155 p156 p157 p158 p159 p160 p161 p162 p163 p164 p165 p166 p167 p168 p169 p170 p171 p172 p173 p174 p175 p176 p177 p178 p179 p180 p181 p182 p183 p184 p185 p186 p187 p188 p189 p190 p191 p192 p193 p194 p195 p196 p197 p198 p199 p200 p201 p202 p203 p204 p205 p206 p207 p208 p209 p210 p211 p212 p213 p214 p215 p216 p217 p218 p219 : Value) :
  (seqR (seqR (seqR (seqR (seqR (seqR (seqR (seqR (seqR (bodyOf Try.f144)))))))))).wp Try.prog (bodyPost Try.prog Try.f144 fun e w' => e = .returned (.tuple #[]) ∧ SW ei w0 blk off (if mid < en ∧ en < b then symMF (ltOf cf) k mid en b d2 else d2) w') { tmps := #[.slice (some ⟨blk, off, none⟩) d.size cap, .int .i64 a, .int .i64 m, .int .i64 b, .func (.func g) #[] cb, p5, p6, p7, p8, p9, p10, p11, p12, p13, p14, p15, p16, p17, .int .i64 mid, .int .i64 ((mid : Int) + (m : Int)), .int .i64 st, p21, p22, p23, .int .i64 (en : Nat), p25, p26, p27, p28, p29, p30, p31, p32, p33, p34, p35, p36, p37, p38, p39, p40, p41, p42, p43, p44, p45, p46, p47, p48, p49, p50, p51, p52, p53, p54, p55, p56, p57, p58, p59, p60, p61, p62, p63, p64, p65, p66, p67, p68, p69, p70, p71, p72, p73, p74, p75, p76, p77, p78, p79, p80, p81, p82, p83, p84, p85, p86, p87, p88, p89, p90, p91, p92, p93, p94, p95, p96, p97, p98, p99, p100, p101, p102, p103, p104, p105, p106, p107, p108, p109, p110, p111, p112, p113, p114, p115, p116, p117, p118, p119, p120, p121, p122, p123, p124, p125, p126, p127, p128, p129, p130, p131, p132, p133, p134, p135, p136, p137, p138, p139, p140, p141, p142, p143, p144, p145, p146, p147, p148, p149, p150, p151, p152, p153, p154, p155, p156, p157, p158, p159, p160, p161, p162, p163, p164, p165, p166, p167, p168, p169, p170, p171, p172, p173, p174, p175, p176, p177, p178, p179, p180, p181, p182, p183, p184, p185, p186, p187, p188, p189, p190, p191, p192, p193, p194, p195, p196, p197, p198, p199, p200, p201, p202, p203, p204, p205, p206, p207, p208, p209, p210, p211, p212, p213, p214, p215, p216, p217, p218, p219], defers := [] } w := by
 have hcl0 := R.hO.cells; simp only [Value.cells] at hcl0; have hst := R.hO.store Try.prog; have mixed : Try.prog.follows Departure.mixedOrders = true := by kernel_rfl
 have t3 := Try.underlying3; have a3 := Try.isAgg3; have z3 := Try.sizeOf3; have v3 := Try.zeroValue3; have t4 := Try.underlying4; have a4 := Try.isAgg4; have z4 := Try.sizeOf4; have v4 := Try.zeroValue4; have t186 := Try.underlying186; have a186 := Try.isAgg186; have z186 := Try.sizeOf186; have t53 := Try.underlying53; have u53 := run_underlying Try.underlying53; have u3 := run_underlying Try.underlying3; have u4 := run_underlying Try.underlying4; have u186 := run_underlying Try.underlying186; have IH : Aside _ := ih; clear ih; obtain ⟨hl1, hl2, hl3, hl4, hl5, hl6, hl7, hl8, hl9, hl10⟩ := id hstl
 dsimp only [seqR, bodyOf, Try.f144, Option.getD]
 have S0 : Aside (SW ei w0 blk off d w) := S; have DD : Hid (_ = _) := D1; have DZ : Hid (_ = _) := D2; clear S D1 D2
 have GN : GoodI Ok d.size d1 := by
  rw [DD.out]
  by_cases h : st < m ∧ m < en
  ·rw [if_pos h]; exact GO.rotA _ _ _ _ _ qa5 qa5
  ·rw [if_neg h]; exact GO
 refine wp_seq_k ?_; intro K hK
 go_cut [] from 25 (fun wx => SW ei w0 blk off d1 wx)
 case first =>
  have e1 := DD.out; clear DD
  by_cases h1 : st < m
  ·have h1z : (st : Int) < (m : Int) := by omega
   by_cases h2 : m < en
   ·have h2z : (m : Int) < (en : Int) := by omega
    rw [if_pos ⟨h1, h2⟩] at e1; have E1 : Hid (_ = _) := e1; have hc := rotate_n g cb blk off cap st m en d.size (b + b) d0 d w0 _ R rfl hs S0.out h1 h2 qa5 qa5 hsz; clear e1 S0
    go_wp2_with (go_at_call 148; refine hc.mono ?_; rintro e w2 ⟨rfl, hSW⟩)
    go_meet
    case rel => rw [E1.out]; exact hSW
   ·have h2z : ¬ (m : Int) < (en : Int) := by omega
    rw [if_neg (fun h => h2 h.2)] at e1; have E1 : Hid (_ = _) := e1; clear e1
    go_wp2_with fail
    go_meet
    case rel => rw [E1.out]; exact S0.out
  ·have h1z : ¬ (st : Int) < (m : Int) := by omega
   rw [if_neg (fun h => h1 h.1)] at e1; have E1 : Hid (_ = _) := e1; clear e1
   go_wp2_with fail
   go_meet
   case rel => rw [E1.out]; exact S0.out
 case rest =>
  go_step
  exact symM3_t2 k cf Ok g cb blk off cap a b m mid st en d0 d d1 d2 w0 _ R hs hstl hb hsz IH.out hk GN hcut DZ.out _ _ _ _ _ _ _ _ _ _ _ _ _ _ _ _ _ _ _ _ _ _ _ _ _ _ _ _ _ _ _ _ _ _ _ _ _ _ _ _ _ _ _ _ _ _ _ _ _ _ _ _ _ _ _ _ _ _ _ _ _ _ _ _ _ _ _ _ _ _ _ _ _ _ _ _ _ _ _ _ _ _ _ _ _ _ _ _ _ _ _ _ _ _ _ _ _ _ _ _ _ _ _ _ _ _ _ _ _ _ _ _ _ _ _ _ _ _ _ _ _ _ _ _ _ _ _ _ _ _ _ _ _ _ _ _ _ _ _ _ _ _ _ _ _ _ _ _ _ _ _ _ _ _ _ _ _ _ _ _ _ _ _ _ _ _ _ _ _ _ _ _ _ _ _ _ _ _ _ _ _ _ _ _ _ _ _ _ _ _ _ _ _ _ _ _ _ _ _ _ _ _ _ _ _ _ _ _ _ _ _
theorem symM3b_s (k : Nat) (cf : Int → Int → Int) (Ok : Int → Prop) (g : Nat) (cb : Array Value) (blk off cap a m b mid : Nat) (d0 d : Array Int) (w0 w : World)
  (eg : ∀ args w, (callFunc g args).run Try.prog w = .ok (.enter g args) w) (hcmp : CmpL g cb cf Ok blk off d0.size w0) (R : Row1 ei w0 blk off d0) (hs : d0.size = d.size) (G : GoodI Ok d.size d) (S : SW ei w0 blk off d w) (hmid : mid ≤ (a + b) / 2) (hmid2 : (a + b) / 2 ≤ mid) (hc0 : m ≤ mid) (ham : a + 1 < m) (hmb : m + 1 < b) (hb : b ≤ d.size) (hsz : d.size < 4611686018427387904)
  (ih : ∀ (a' m' b' : Nat) (dk : Array Int) (wr : World), a' < m' → m' < b' → b' ≤ d.size → b' - a' ≤ k → GoodI Ok d.size dk → SW ei w0 blk off dk wr →
   Calls Try.prog 144 #[.slice (some ⟨blk, off, none⟩) d.size cap, .int .i64 a', .int .i64 m', .int .i64 b', .func (.func g) #[] cb] wr fun e w' => e = .returned (.tuple #[]) ∧ SW ei w0 blk off (symMF (ltOf cf) k a' m' b' dk) w') (hk : b - a ≤ k + 1) :
  ∀ st en d1 d2, st = bsr (b + 1) (fun c => !ltOf cf d[mid + m - 1 - c]! d[c]!) a m → en = mid + m - st → d1 = (if st < m ∧ m < en then rotF (b + b) (m - st) (en - m) m d else d) → d2 = (if a < st ∧ st < mid then symMF (ltOf cf) k a st mid d1 else d1) →
  Calls Try.prog 144 #[.slice (some ⟨blk, off, none⟩) d.size cap, .int .i64 a, .int .i64 m, .int .i64 b, .func (.func g) #[] cb] w fun e w' => e = .returned (.tuple #[]) ∧ SW ei w0 blk off (if mid < en ∧ en < b then symMF (ltOf cf) k mid en b d2 else d2) w' := by
 intro st en d1 d2 hst hen hd1 hd2; have EN : Hid (_ = _) := hen; clear hen; have ST : Hid (_ = _) := hst; have D1 : Hid (_ = _) := hd1; have D2 : Hid (_ = _) := hd2; clear hst hd1 hd2; have hcl0 := R.hO.cells; simp only [Value.cells] at hcl0; have hst := R.hO.store Try.prog; have mixed : Try.prog.follows Departure.mixedOrders = true := by kernel_rfl
 have t3 := Try.underlying3; have a3 := Try.isAgg3; have z3 := Try.sizeOf3; have v3 := Try.zeroValue3; have t4 := Try.underlying4; have a4 := Try.isAgg4; have z4 := Try.sizeOf4; have v4 := Try.zeroValue4; have t186 := Try.underlying186; have a186 := Try.isAgg186; have z186 := Try.sizeOf186; have t53 := Try.underlying53; have u53 := run_underlying Try.underlying53; have u3 := run_underlying Try.underlying3; have u4 := run_underlying Try.underlying4; have u186 := run_underlying Try.underlying186; have HC : Aside _ := hcmp; have IH : Aside _ := ih; have S0 : Aside (SW ei w0 blk off d w) := S; clear S hcmp ih; have c1 : IntKind.i64.wrap ((m : Int) - (a : Int)) = (m : Int) - (a : Int) := by rw [IntKind.wrap_i64]; omega
 have c2 : ((m : Int) - (a : Int) == 1) = false := beq_eq_false_iff_ne.mpr (by clear c1; omega); have c3 : IntKind.i64.wrap ((b : Int) - (m : Int)) = (b : Int) - (m : Int) := by clear c1; rw [IntKind.wrap_i64]; omega
 have c4 : ((b : Int) - (m : Int) == 1) = false := beq_eq_false_iff_ne.mpr (by clear c1 c3; omega)
 go_enter Try.func144, Try.ntmps144
 go_upto_if 140 with fail
 go_cut [18, 19, 20, 21] from 25 (fun s18 s19 s20 s21 wc => s18 = .int .i64 mid ∧ s19 = .int .i64 ((mid : Int) + (m : Int)) ∧ s20 = .int .i64 (a : Nat) ∧ s21 = .int .i64 (m : Nat) ∧ wc = w)
 case first =>
  clear c1 c2 c3 c4; have hg : ¬ ((a : Int) + (b : Int)) / 2 < (m : Int) := by omega
  have w1 : IntKind.i64.wrap (((a : Int) + (b : Int)) / 2 + (m : Int)) = ((a : Int) + (b : Int)) / 2 + (m : Int) := by rw [IntKind.wrap_i64]; omega
  have w2 : IntKind.i64.wrap (((a : Int) + (b : Int)) / 2 + (m : Int) - (b : Int)) = ((a : Int) + (b : Int)) / 2 + (m : Int) - (b : Int) := by clear w1; rw [IntKind.wrap_i64]; omega
  go_wp2_with fail
  go_meet
  case rel =>
   clear w1 w2; refine ⟨?_, ?_, ?_, ?_, rfl⟩ <;> first | rfl | (congr 1; omega)
 case rest =>
  obtain ⟨rfl, rfl, rfl, rfl, rfl⟩ := hcut; clear c1 c2 c3 c4; have w1 : IntKind.i64.wrap ((mid : Int) + (m : Int) - 1) = (mid : Int) + (m : Int) - 1 := by rw [IntKind.wrap_i64]; omega
  have HPI : ∃ p : Nat → Bool, Hid (p = fun c => !ltOf cf d[mid + m - 1 - c]! d[c]!) := ⟨_, rfl⟩; obtain ⟨p, HP⟩ := HPI; obtain ⟨s0, hs0⟩ : ∃ s0, s0 = a := ⟨_, rfl⟩; obtain ⟨r0, hr0⟩ : ∃ r0, r0 = m := ⟨_, rfl⟩; have hse : (s0 ≤ r0 ∧ r0 ≤ m ∧ r0 ≤ mid ∧ a ≤ s0 ∧ mid + m ≤ b + s0) ∧ s0 ≤ a ∧ a ≤ s0 ∧ r0 ≤ m ∧ m ≤ r0 := by clear w1; omega
  have ST2 : Hid (st = bsr (b + 1) p s0 r0) := by show _ = _; rw [hs0, hr0, HP.out]; exact ST.out
  clear ST hs0 hr0; obtain ⟨⟨hse1, hse2, hse3, hse4, hse5⟩, hs0a, hs0b, hr0a, hr0b⟩ := hse; go_wp2
  go_loopg [20, 21] b (fun kx s20 s21 wr => ∃ (i j : Nat), s20 = .int .i64 i ∧ s21 = .int .i64 j ∧ s0 ≤ i ∧ i ≤ j ∧ j ≤ r0 ∧ j - i ≤ kx ∧ Aside (SW ei w0 blk off d wr) ∧ ∃ K, j - i < K ∧ Hid (bsr K p i j = bsr (b + 1) p s0 r0))
  case atStart => exact ⟨s0, r0, qa34, qa34, qa48, qa48, qa48, qa48, S0, b + 1, qa48, rfl⟩
  case round =>
   clear S0 w1; obtain ⟨i, j, rfl, rfl, hmi, hij, hjb, hkx, S1, K, hK, HB⟩ := hrel
   by_cases hlt : i < j
   ·have hltz : (i : Int) < (j : Int) := by omega
    obtain ⟨K, rfl⟩ : ∃ q, K = q + 1 := ⟨K - 1, qa5⟩
    cases hlv : ltOf cf d[mid + m - 1 - (i + j) / 2]! d[(i + j) / 2]! with
    | false =>
     have HB2 : Hid (bsr K p ((i + j) / 2 + 1) j = bsr (b + 1) p s0 r0) := (bsr_go hlt qa37).symm.trans HB.out; clear HB; obtain ⟨h, hh⟩ : ∃ h, h = (i + j) / 2 := ⟨_, rfl⟩; rw [← hh] at hlv HB2; obtain ⟨e, he⟩ : ∃ e, e = mid + m - 1 - h := ⟨_, rfl⟩; have he1 : (mid : Int) + (m : Int) - 1 = (e : Int) + (h : Int) := by omega
     have he2 : ((i : Int) + (j : Int)) / 2 = (h : Int) := by omega
     rw [← he] at hlv; have HE1 : Hid (_ = _) := he1; have HE2 : Hid (_ = _) := he2; have hl1 : 2 * h ≤ i + j ∧ i + j ≤ 2 * h + 1 ∧ e + h + 1 ≤ mid + m ∧ mid + m ≤ e + h + 1 := by omega
     obtain ⟨hl1, hl2, hl3, hl4⟩ := hl1; clear he1 he2 he hh; obtain ⟨iN, hiN⟩ : ∃ zz, zz = e := ⟨_, rfl⟩; obtain ⟨jN, hjN⟩ : ∃ zz, zz = h := ⟨_, rfl⟩; have ea : ((e : Int)).toNat = iN := by omega
     have pa : (0 : Int) ≤ (e : Int) := by omega
     have ba : (e : Int) < (d.size : Int) := by omega
     have ec : ((h : Int)).toNat = jN := by omega
     have pc : (0 : Int) ≤ (h : Int) := by omega
     have bc : (h : Int) < (d.size : Int) := by omega
     obtain ⟨x, hx⟩ : ∃ x, x = d[e]! := ⟨_, rfl⟩; obtain ⟨y, hy⟩ : ∃ x, x = d[h]! := ⟨_, rfl⟩; have la := S1.out.cl R qa5 (e) qa5; have lb := S1.out.cl R qa5 (h) qa5; rw [← hx, ← hiN] at la; rw [← hy, ← hjN] at lb; have hc := cmpk S1.out HC.out qa5 x y qa29 qa30; have hv : ¬ cf x y < 0 := by rw [hx, hy]; exact of_decide_eq_false hlv
     have hd : decide (cf x y < 0) = false := decide_eq_false hv; clear hx hy hiN hjN
     go_wp2_with fail
     have we : IntKind.i64.wrap (e : Int) = (e : Int) := by rw [IntKind.wrap_i64]; omega
     rw [HE1.out, HE2.out]; clear HE2
     go_quiet_grown (first | (go_at_fn g; refine Calls.grown_of (hc _ _)))
     have S2 : Aside (SW ei w0 blk off d (grow (wr.drewN nq) osq)) := S1.out.grown nq osq; clear la lb hc S1; generalize grow (wr.drewN nq) osq = w2 at S2 ⊢; clear nq osq ea ec we; rw [← HE1.out]; go_wp2
     go_roundg (j - (h + 1))
     case measure => omega
     case rel => exact ⟨h + 1, j, qa13, rfl, qa5, qa5, hjb, Nat.le_refl _, S2, K, qa5, HB2⟩
    | true =>
     have HB2 : Hid (bsr K p i ((i + j) / 2) = bsr (b + 1) p s0 r0) := (bsr_no hlt qa36).symm.trans HB.out; clear HB; obtain ⟨h, hh⟩ : ∃ h, h = (i + j) / 2 := ⟨_, rfl⟩; rw [← hh] at hlv HB2; obtain ⟨e, he⟩ : ∃ e, e = mid + m - 1 - h := ⟨_, rfl⟩; have he1 : (mid : Int) + (m : Int) - 1 = (e : Int) + (h : Int) := by omega
     have he2 : ((i : Int) + (j : Int)) / 2 = (h : Int) := by omega
     rw [← he] at hlv; have HE1 : Hid (_ = _) := he1; have HE2 : Hid (_ = _) := he2; have hl1 : 2 * h ≤ i + j ∧ i + j ≤ 2 * h + 1 ∧ e + h + 1 ≤ mid + m ∧ mid + m ≤ e + h + 1 := by omega
     obtain ⟨hl1, hl2, hl3, hl4⟩ := hl1; clear he1 he2 he hh; obtain ⟨iN, hiN⟩ : ∃ zz, zz = e := ⟨_, rfl⟩; obtain ⟨jN, hjN⟩ : ∃ zz, zz = h := ⟨_, rfl⟩; have ea : ((e : Int)).toNat = iN := by omega
     have pa : (0 : Int) ≤ (e : Int) := by omega
     have ba : (e : Int) < (d.size : Int) := by omega
     have ec : ((h : Int)).toNat = jN := by omega
     have pc : (0 : Int) ≤ (h : Int) := by omega
     have bc : (h : Int) < (d.size : Int) := by omega
     obtain ⟨x, hx⟩ : ∃ x, x = d[e]! := ⟨_, rfl⟩; obtain ⟨y, hy⟩ : ∃ x, x = d[h]! := ⟨_, rfl⟩; have la := S1.out.cl R qa5 (e) qa5; have lb := S1.out.cl R qa5 (h) qa5; rw [← hx, ← hiN] at la; rw [← hy, ← hjN] at lb; have hc := cmpk S1.out HC.out qa5 x y qa29 qa30; have hv : cf x y < 0 := by rw [hx, hy]; exact qT hlv
     have hd : decide (cf x y < 0) = true := decide_eq_true hv; clear hx hy hiN hjN
     go_wp2_with fail
     have we : IntKind.i64.wrap (e : Int) = (e : Int) := by rw [IntKind.wrap_i64]; omega
     rw [HE1.out, HE2.out]; clear HE2
     go_quiet_grown (first | (go_at_fn g; refine Calls.grown_of (hc _ _)))
     have S2 : Aside (SW ei w0 blk off d (grow (wr.drewN nq) osq)) := S1.out.grown nq osq; clear la lb hc S1; generalize grow (wr.drewN nq) osq = w2 at S2 ⊢; clear nq osq ea ec we; rw [← HE1.out]; go_wp2
     go_roundg (h - i)
     case measure => omega
     case rel => exact ⟨i, h, rfl, qa13, hmi, qa5, qa5, Nat.le_refl _, S2, K, qa5, HB2⟩
   ·have hnot : ¬ (i : Int) < (j : Int) := by omega
    have HE := HB.out; rw [bsr_end hlt] at HE; have HI : Hid (st = i) := ST2.out.trans HE.symm; clear HB HE ST2; have hst := HI.out; subst hst; clear HI; have w2 : IntKind.i64.wrap ((mid : Int) + (m : Int) - (st : Int)) = (mid : Int) + (m : Int) - (st : Int) := by rw [IntKind.wrap_i64]; omega
    go_upto_region 38 with fail
    have hen := EN.out; have hstl : st ≤ m ∧ st ≤ mid ∧ en + st ≤ mid + m ∧ mid + m ≤ en + st ∧ a ≤ st ∧ en ≤ b ∧ m ≤ en ∧ mid ≤ en ∧ mid < b ∧ a < mid := by clear w2; omega
    clear hen EN
    go_cut [24] from 25 (fun s24 wx => s24 = .int .i64 (en : Nat) ∧ wx = wr)
    case first =>
     obtain ⟨hl1, hl2, hl3, hl4, hl5, hl6, hl7, hl8, hl9, hl10⟩ := hstl
     go_wp2_with fail
     go_meet
     case rel => exact ⟨by congr 1; clear w2; omega, rfl⟩
    case rest =>
     obtain ⟨rfl, rfl⟩ := hcut; clear w2
     go_step
     exact symM3_t1 k cf Ok g cb blk off cap a b m mid st en d0 d d1 d2 w0 _ R hs hstl hb hsz IH.out hk G S1.out D1.out D2.out _ _ _ _ _ _ _ _ _ _ _ _ _ _ _ _ _ _ _ _ _ _ _ _ _ _ _ _ _ _ _ _ _ _ _ _ _ _ _ _ _ _ _ _ _ _ _ _ _ _ _ _ _ _ _ _ _ _ _ _ _ _ _ _ _ _ _ _ _ _ _ _ _ _ _ _ _ _ _ _ _ _ _ _ _ _ _ _ _ _ _ _ _ _ _ _ _ _ _ _ _ _ _ _ _ _ _ _ _ _ _ _ _ _ _ _ _ _ _ _ _ _ _ _ _ _ _ _ _ _ _ _ _ _ _ _ _ _ _ _ _ _ _ _ _ _ _ _ _ _ _ _ _ _ _ _ _ _ _ _ _ _ _ _ _ _ _ _ _ _ _ _ _ _ _ _ _ _ _ _ _ _ _ _ _ _ _ _ _ _ _ _ _ _ _ _ _ _ _ _ _ _ _ _ _ _ _ _ _ _ _
theorem symM3a_s (k : Nat) (cf : Int → Int → Int) (Ok : Int → Prop) (g : Nat) (cb : Array Value) (blk off cap a m b mid : Nat) (d0 d : Array Int) (w0 w : World)
  (eg : ∀ args w, (callFunc g args).run Try.prog w = .ok (.enter g args) w) (hcmp : CmpL g cb cf Ok blk off d0.size w0) (R : Row1 ei w0 blk off d0) (hs : d0.size = d.size) (G : GoodI Ok d.size d) (S : SW ei w0 blk off d w) (hmid : mid ≤ (a + b) / 2) (hmid2 : (a + b) / 2 ≤ mid) (hc0 : mid < m) (ham : a + 1 < m) (hmb : m + 1 < b) (hb : b ≤ d.size) (hsz : d.size < 4611686018427387904)
  (ih : ∀ (a' m' b' : Nat) (dk : Array Int) (wr : World), a' < m' → m' < b' → b' ≤ d.size → b' - a' ≤ k → GoodI Ok d.size dk → SW ei w0 blk off dk wr →
   Calls Try.prog 144 #[.slice (some ⟨blk, off, none⟩) d.size cap, .int .i64 a', .int .i64 m', .int .i64 b', .func (.func g) #[] cb] wr fun e w' => e = .returned (.tuple #[]) ∧ SW ei w0 blk off (symMF (ltOf cf) k a' m' b' dk) w') (hk : b - a ≤ k + 1) :
  ∀ st en d1 d2, st = bsr (b + 1) (fun c => !ltOf cf d[mid + m - 1 - c]! d[c]!) (mid + m - b) mid → en = mid + m - st → d1 = (if st < m ∧ m < en then rotF (b + b) (m - st) (en - m) m d else d) → d2 = (if a < st ∧ st < mid then symMF (ltOf cf) k a st mid d1 else d1) →
  Calls Try.prog 144 #[.slice (some ⟨blk, off, none⟩) d.size cap, .int .i64 a, .int .i64 m, .int .i64 b, .func (.func g) #[] cb] w fun e w' => e = .returned (.tuple #[]) ∧ SW ei w0 blk off (if mid < en ∧ en < b then symMF (ltOf cf) k mid en b d2 else d2) w' := by
 intro st en d1 d2 hst hen hd1 hd2; have EN : Hid (_ = _) := hen; clear hen; have ST : Hid (_ = _) := hst; have D1 : Hid (_ = _) := hd1; have D2 : Hid (_ = _) := hd2; clear hst hd1 hd2; have hcl0 := R.hO.cells; simp only [Value.cells] at hcl0; have hst := R.hO.store Try.prog; have mixed : Try.prog.follows Departure.mixedOrders = true := by kernel_rfl
 have t3 := Try.underlying3; have a3 := Try.isAgg3; have z3 := Try.sizeOf3; have v3 := Try.zeroValue3; have t4 := Try.underlying4; have a4 := Try.isAgg4; have z4 := Try.sizeOf4; have v4 := Try.zeroValue4; have t186 := Try.underlying186; have a186 := Try.isAgg186; have z186 := Try.sizeOf186; have t53 := Try.underlying53; have u53 := run_underlying Try.underlying53; have u3 := run_underlying Try.underlying3; have u4 := run_underlying Try.underlying4; have u186 := run_underlying Try.underlying186; have HC : Aside _ := hcmp; have IH : Aside _ := ih; have S0 : Aside (SW ei w0 blk off d w) := S; clear S hcmp ih; have c1 : IntKind.i64.wrap ((m : Int) - (a : Int)) = (m : Int) - (a : Int) := by rw [IntKind.wrap_i64]; omega
 have c2 : ((m : Int) - (a : Int) == 1) = false := beq_eq_false_iff_ne.mpr (by clear c1; omega); have c3 : IntKind.i64.wrap ((b : Int) - (m : Int)) = (b : Int) - (m : Int) := by clear c1; rw [IntKind.wrap_i64]; omega
 have c4 : ((b : Int) - (m : Int) == 1) = false := beq_eq_false_iff_ne.mpr (by clear c1 c3; omega)
 go_enter Try.func144, Try.ntmps144
 go_upto_if 140 with fail
 go_cut [18, 19, 20, 21] from 25 (fun s18 s19 s20 s21 wc => s18 = .int .i64 mid ∧ s19 = .int .i64 ((mid : Int) + (m : Int)) ∧ s20 = .int .i64 ((mid + m - b) : Nat) ∧ s21 = .int .i64 (mid : Nat) ∧ wc = w)
 case first =>
  clear c1 c2 c3 c4; have hg : ((a : Int) + (b : Int)) / 2 < (m : Int) := by omega
  have w1 : IntKind.i64.wrap (((a : Int) + (b : Int)) / 2 + (m : Int)) = ((a : Int) + (b : Int)) / 2 + (m : Int) := by rw [IntKind.wrap_i64]; omega
  have w2 : IntKind.i64.wrap (((a : Int) + (b : Int)) / 2 + (m : Int) - (b : Int)) = ((a : Int) + (b : Int)) / 2 + (m : Int) - (b : Int) := by clear w1; rw [IntKind.wrap_i64]; omega
  go_wp2_with fail
  go_meet
  case rel =>
   clear w1 w2; refine ⟨?_, ?_, ?_, ?_, rfl⟩ <;> first | rfl | (congr 1; omega)
 case rest =>
  obtain ⟨rfl, rfl, rfl, rfl, rfl⟩ := hcut; clear c1 c2 c3 c4; have w1 : IntKind.i64.wrap ((mid : Int) + (m : Int) - 1) = (mid : Int) + (m : Int) - 1 := by rw [IntKind.wrap_i64]; omega
  have HPI : ∃ p : Nat → Bool, Hid (p = fun c => !ltOf cf d[mid + m - 1 - c]! d[c]!) := ⟨_, rfl⟩; obtain ⟨p, HP⟩ := HPI; obtain ⟨s0, hs0⟩ : ∃ s0, s0 = (mid + m - b) := ⟨_, rfl⟩; obtain ⟨r0, hr0⟩ : ∃ r0, r0 = mid := ⟨_, rfl⟩; have hse : (s0 ≤ r0 ∧ r0 ≤ m ∧ r0 ≤ mid ∧ a ≤ s0 ∧ mid + m ≤ b + s0) ∧ s0 ≤ (mid + m - b) ∧ (mid + m - b) ≤ s0 ∧ r0 ≤ mid ∧ mid ≤ r0 := by clear w1; omega
  have ST2 : Hid (st = bsr (b + 1) p s0 r0) := by show _ = _; rw [hs0, hr0, HP.out]; exact ST.out
  clear ST hs0 hr0; obtain ⟨⟨hse1, hse2, hse3, hse4, hse5⟩, hs0a, hs0b, hr0a, hr0b⟩ := hse; go_wp2
  go_loopg [20, 21] b (fun kx s20 s21 wr => ∃ (i j : Nat), s20 = .int .i64 i ∧ s21 = .int .i64 j ∧ s0 ≤ i ∧ i ≤ j ∧ j ≤ r0 ∧ j - i ≤ kx ∧ Aside (SW ei w0 blk off d wr) ∧ ∃ K, j - i < K ∧ Hid (bsr K p i j = bsr (b + 1) p s0 r0))
  case atStart => exact ⟨s0, r0, qa34, qa34, qa48, qa48, qa48, qa48, S0, b + 1, qa48, rfl⟩
  case round =>
   clear S0 w1; obtain ⟨i, j, rfl, rfl, hmi, hij, hjb, hkx, S1, K, hK, HB⟩ := hrel
   by_cases hlt : i < j
   ·have hltz : (i : Int) < (j : Int) := by omega
    obtain ⟨K, rfl⟩ : ∃ q, K = q + 1 := ⟨K - 1, qa5⟩
    cases hlv : ltOf cf d[mid + m - 1 - (i + j) / 2]! d[(i + j) / 2]! with
    | false =>
     have HB2 : Hid (bsr K p ((i + j) / 2 + 1) j = bsr (b + 1) p s0 r0) := (bsr_go hlt qa37).symm.trans HB.out; clear HB; obtain ⟨h, hh⟩ : ∃ h, h = (i + j) / 2 := ⟨_, rfl⟩; rw [← hh] at hlv HB2; obtain ⟨e, he⟩ : ∃ e, e = mid + m - 1 - h := ⟨_, rfl⟩; have he1 : (mid : Int) + (m : Int) - 1 = (e : Int) + (h : Int) := by omega
     have he2 : ((i : Int) + (j : Int)) / 2 = (h : Int) := by omega
     rw [← he] at hlv; have HE1 : Hid (_ = _) := he1; have HE2 : Hid (_ = _) := he2; have hl1 : 2 * h ≤ i + j ∧ i + j ≤ 2 * h + 1 ∧ e + h + 1 ≤ mid + m ∧ mid + m ≤ e + h + 1 := by omega
     obtain ⟨hl1, hl2, hl3, hl4⟩ := hl1; clear he1 he2 he hh; obtain ⟨iN, hiN⟩ : ∃ zz, zz = e := ⟨_, rfl⟩; obtain ⟨jN, hjN⟩ : ∃ zz, zz = h := ⟨_, rfl⟩; have ea : ((e : Int)).toNat = iN := by omega
     have pa : (0 : Int) ≤ (e : Int) := by omega
     have ba : (e : Int) < (d.size : Int) := by omega
     have ec : ((h : Int)).toNat = jN := by omega
     have pc : (0 : Int) ≤ (h : Int) := by omega
     have bc : (h : Int) < (d.size : Int) := by omega
     obtain ⟨x, hx⟩ : ∃ x, x = d[e]! := ⟨_, rfl⟩; obtain ⟨y, hy⟩ : ∃ x, x = d[h]! := ⟨_, rfl⟩; have la := S1.out.cl R qa5 (e) qa5; have lb := S1.out.cl R qa5 (h) qa5; rw [← hx, ← hiN] at la; rw [← hy, ← hjN] at lb; have hc := cmpk S1.out HC.out qa5 x y qa29 qa30; have hv : ¬ cf x y < 0 := by rw [hx, hy]; exact of_decide_eq_false hlv
     have hd : decide (cf x y < 0) = false := decide_eq_false hv; clear hx hy hiN hjN
     go_wp2_with fail
     have we : IntKind.i64.wrap (e : Int) = (e : Int) := by rw [IntKind.wrap_i64]; omega
     rw [HE1.out, HE2.out]; clear HE2
     go_quiet_grown (first | (go_at_fn g; refine Calls.grown_of (hc _ _)))
     have S2 : Aside (SW ei w0 blk off d (grow (wr.drewN nq) osq)) := S1.out.grown nq osq; clear la lb hc S1; generalize grow (wr.drewN nq) osq = w2 at S2 ⊢; clear nq osq ea ec we; rw [← HE1.out]; go_wp2
     go_roundg (j - (h + 1))
     case measure => omega
     case rel => exact ⟨h + 1, j, qa13, rfl, qa5, qa5, hjb, Nat.le_refl _, S2, K, qa5, HB2⟩
    | true =>
     have HB2 : Hid (bsr K p i ((i + j) / 2) = bsr (b + 1) p s0 r0) := (bsr_no hlt qa36).symm.trans HB.out; clear HB; obtain ⟨h, hh⟩ : ∃ h, h = (i + j) / 2 := ⟨_, rfl⟩; rw [← hh] at hlv HB2; obtain ⟨e, he⟩ : ∃ e, e = mid + m - 1 - h := ⟨_, rfl⟩; have he1 : (mid : Int) + (m : Int) - 1 = (e : Int) + (h : Int) := by omega
     have he2 : ((i : Int) + (j : Int)) / 2 = (h : Int) := by omega
     rw [← he] at hlv; have HE1 : Hid (_ = _) := he1; have HE2 : Hid (_ = _) := he2; have hl1 : 2 * h ≤ i + j ∧ i + j ≤ 2 * h + 1 ∧ e + h + 1 ≤ mid + m ∧ mid + m ≤ e + h + 1 := by omega
     obtain ⟨hl1, hl2, hl3, hl4⟩ := hl1; clear he1 he2 he hh; obtain ⟨iN, hiN⟩ : ∃ zz, zz = e := ⟨_, rfl⟩; obtain ⟨jN, hjN⟩ : ∃ zz, zz = h := ⟨_, rfl⟩; have ea : ((e : Int)).toNat = iN := by omega
     have pa : (0 : Int) ≤ (e : Int) := by omega
     have ba : (e : Int) < (d.size : Int) := by omega
     have ec : ((h : Int)).toNat = jN := by omega
     have pc : (0 : Int) ≤ (h : Int) := by omega
     have bc : (h : Int) < (d.size : Int) := by omega
     obtain ⟨x, hx⟩ : ∃ x, x = d[e]! := ⟨_, rfl⟩; obtain ⟨y, hy⟩ : ∃ x, x = d[h]! := ⟨_, rfl⟩; have la := S1.out.cl R qa5 (e) qa5; have lb := S1.out.cl R qa5 (h) qa5; rw [← hx, ← hiN] at la; rw [← hy, ← hjN] at lb; have hc := cmpk S1.out HC.out qa5 x y qa29 qa30; have hv : cf x y < 0 := by rw [hx, hy]; exact qT hlv
     have hd : decide (cf x y < 0) = true := decide_eq_true hv; clear hx hy hiN hjN
     go_wp2_with fail
     have we : IntKind.i64.wrap (e : Int) = (e : Int) := by rw [IntKind.wrap_i64]; omega
     rw [HE1.out, HE2.out]; clear HE2
     go_quiet_grown (first | (go_at_fn g; refine Calls.grown_of (hc _ _)))
     have S2 : Aside (SW ei w0 blk off d (grow (wr.drewN nq) osq)) := S1.out.grown nq osq; clear la lb hc S1; generalize grow (wr.drewN nq) osq = w2 at S2 ⊢; clear nq osq ea ec we; rw [← HE1.out]; go_wp2
     go_roundg (h - i)
     case measure => omega
     case rel => exact ⟨i, h, rfl, qa13, hmi, qa5, qa5, Nat.le_refl _, S2, K, qa5, HB2⟩
   ·have hnot : ¬ (i : Int) < (j : Int) := by omega
    have HE := HB.out; rw [bsr_end hlt] at HE; have HI : Hid (st = i) := ST2.out.trans HE.symm; clear HB HE ST2; have hst := HI.out; subst hst; clear HI; have w2 : IntKind.i64.wrap ((mid : Int) + (m : Int) - (st : Int)) = (mid : Int) + (m : Int) - (st : Int) := by rw [IntKind.wrap_i64]; omega
    go_upto_region 38 with fail
    have hen := EN.out; have hstl : st ≤ m ∧ st ≤ mid ∧ en + st ≤ mid + m ∧ mid + m ≤ en + st ∧ a ≤ st ∧ en ≤ b ∧ m ≤ en ∧ mid ≤ en ∧ mid < b ∧ a < mid := by clear w2; omega
    clear hen EN
    go_cut [24] from 25 (fun s24 wx => s24 = .int .i64 (en : Nat) ∧ wx = wr)
    case first =>
     obtain ⟨hl1, hl2, hl3, hl4, hl5, hl6, hl7, hl8, hl9, hl10⟩ := hstl
     go_wp2_with fail
     go_meet
     case rel => exact ⟨by congr 1; clear w2; omega, rfl⟩
    case rest =>
     obtain ⟨rfl, rfl⟩ := hcut; clear w2
     go_step
     exact symM3_t1 k cf Ok g cb blk off cap a b m mid st en d0 d d1 d2 w0 _ R hs hstl hb hsz IH.out hk G S1.out D1.out D2.out _ _ _ _ _ _ _ _ _ _ _ _ _ _ _ _ _ _ _ _ _ _ _ _ _ _ _ _ _ _ _ _ _ _ _ _ _ _ _ _ _ _ _ _ _ _ _ _ _ _ _ _ _ _ _ _ _ _ _ _ _ _ _ _ _ _ _ _ _ _ _ _ _ _ _ _ _ _ _ _ _ _ _ _ _ _ _ _ _ _ _ _ _ _ _ _ _ _ _ _ _ _ _ _ _ _ _ _ _ _ _ _ _ _ _ _ _ _ _ _ _ _ _ _ _ _ _ _ _ _ _ _ _ _ _ _ _ _ _ _ _ _ _ _ _ _ _ _ _ _ _ _ _ _ _ _ _ _ _ _ _ _ _ _ _ _ _ _ _ _ _ _ _ _ _ _ _ _ _ _ _ _ _ _ _ _ _ _ _ _ _ _ _ _ _ _ _ _ _ _ _ _ _ _ _ _ _ _ _ _ _
theorem symM_s (cf : Int → Int → Int) (Ok : Int → Prop) (g : Nat) (cb : Array Value) (blk off cap n : Nat) (d0 : Array Int) (w0 : World)
  (eg : ∀ args w, (callFunc g args).run Try.prog w = .ok (.enter g args) w) (hcmp : CmpL g cb cf Ok blk off d0.size w0) (R : Row1 ei w0 blk off d0) (hn : d0.size = n) (hsz : n < 4611686018427387904) :
  ∀ (k a m b : Nat) (d : Array Int) (w : World), a < m → m < b → b ≤ n → b - a ≤ k → GoodI Ok n d → SW ei w0 blk off d w →
  Calls Try.prog 144 #[.slice (some ⟨blk, off, none⟩) n cap, .int .i64 a, .int .i64 m, .int .i64 b, .func (.func g) #[] cb] w fun e w' => e = .returned (.tuple #[]) ∧ SW ei w0 blk off (symMF (ltOf cf) k a m b d) w' := by
 intro k
 induction k with
 | zero => intro a m b d w h1 h2 _ h _ _; omega
 | succ k ih =>
  intro a m b d w ham hmb hb hk G S; have e := G.1; subst e; rw [symMF]
  by_cases h1 : m - a = 1
  ·rw [if_pos h1]
   exact symM1_s cf Ok g cb blk off cap a m b d0 d w0 w eg hcmp R hn G S ham qa5 hmb hb hsz
  ·rw [if_neg h1]
   by_cases h2 : b - m = 1
   ·rw [if_pos h2]
    exact symM2_s cf Ok g cb blk off cap a m b d0 d w0 w eg hcmp R hn G S qa5 hmb qa5 hb hsz
   ·rw [if_neg h2]
    dsimp only
    by_cases hg : m > (a + b) / 2
    ·simp only [if_pos hg]
     exact symM3a_s k cf Ok g cb blk off cap a m b ((a + b) / 2) d0 d w0 w eg hcmp R hn G S (Nat.le_refl _) (Nat.le_refl _) hg qa5 qa5 hb hsz ih qa5 _ _ _ _ rfl rfl rfl rfl
    ·simp only [if_neg hg]
     exact symM3b_s k cf Ok g cb blk off cap a m b ((a + b) / 2) d0 d w0 w eg hcmp R hn G S (Nat.le_refl _) (Nat.le_refl _) qa5 qa5 qa5 hb hsz ih qa5 _ _ _ _ rfl rfl rfl rfl
theorem insert_n (cf : Int → Int → Int) (Ok : Int → Prop) (g : Nat) (cb : Array Value) (blk off cap a b sz : Nat) (d0 d : Array Int) (w0 w : World)
  (eg : ∀ args w, (callFunc g args).run Try.prog w = .ok (.enter g args) w) (hcmp : CmpL g cb cf Ok blk off d0.size w0) (R : Row1 ei w0 blk off d0) (hs : d0.size = sz) (G : GoodI Ok sz d) (S : SW ei w0 blk off d w) (hab : a ≤ b) (hb : b ≤ sz) (hsz : sz < 4611686018427387904) :
  Calls Try.prog 143 #[.slice (some ⟨blk, off, none⟩) sz cap, .int .i64 a, .int .i64 b, .func (.func g) #[] cb] w fun e w' => e = .returned (.tuple #[]) ∧ SW ei w0 blk off (Sort.insertionSort (ltOf cf) d a b) w' ∧ GoodI Ok sz (Sort.insertionSort (ltOf cf) d a b) := by
 have e := G.1; subst e
 exact insert_s cf Ok g cb blk off cap a b d0 d w0 w eg hcmp R hs G S hab hb hsz
def blocksA (lt : Int → Int → Bool) (bs n : Nat) : Nat → Nat → Array Int → Array Int
 | 0, _, d => d
 | k + 1, a, d => if a + bs ≤ n then blocksA lt bs n k (a + bs) (Sort.insertionSort lt d a (a + bs)) else Sort.insertionSort lt d a n
def passA (lt : Int → Int → Bool) (bs n : Nat) : Nat → Nat → Array Int → Array Int
 | 0, _, d => d
 | k + 1, a, d => if a + 2 * bs ≤ n then passA lt bs n k (a + 2 * bs) (symMF lt (n + 1) a (a + bs) (a + 2 * bs) d) else if a + bs < n then symMF lt (n + 1) a (a + bs) n d else d
def passesA (lt : Int → Int → Bool) (n : Nat) : Nat → Nat → Array Int → Array Int
 | 0, _, d => d
 | k + 1, bs, d => if bs < n then passesA lt n k (bs * 2) (passA lt bs n (n + 1) 0 d) else d
def stabA (lt : Int → Int → Bool) (n : Nat) (d : Array Int) : Array Int := passesA lt n (n + 1) 20 (blocksA lt 20 n (n + 1) 0 d)
theorem stable_s (cf : Int → Int → Int) (Ok : Int → Prop) (g : Nat) (cb : Array Value) (blk off cap n : Nat) (d : Array Int) (w : World)
  (eg : ∀ args w, (callFunc g args).run Try.prog w = .ok (.enter g args) w) (hcmp : CmpL g cb cf Ok blk off d.size w) (R : Row1 ei w blk off d) (G : GoodI Ok n d) (hsz : n < 1000000000) :
  Calls Try.prog 135 #[.slice (some ⟨blk, off, none⟩) n cap, .int .i64 n, .func (.func g) #[] cb] w fun e w' => e = .returned (.tuple #[]) ∧ SW ei w blk off (stabA (ltOf cf) n d) w' ∧ GoodI Ok n (stabA (ltOf cf) n d) := by
 have mixed : Try.prog.follows Departure.mixedOrders = true := by kernel_rfl
 have t3 := Try.underlying3; have a3 := Try.isAgg3; have z3 := Try.sizeOf3; have v3 := Try.zeroValue3; have t4 := Try.underlying4; have a4 := Try.isAgg4; have z4 := Try.sizeOf4; have v4 := Try.zeroValue4; have t53 := Try.underlying53; have u53 := run_underlying Try.underlying53; have HC : Aside _ := hcmp; have S0 : Aside (SW ei w blk off d w) := SW.start R.hH; have EG : Aside _ := eg; have hds := G.1; clear hcmp
 go_enter Try.func135, Try.ntmps135
 go_wp2
 go_loopg [7, 8] n (fun kx s7 s8 wr => ∃ (a : Nat) (dk : Array Int), s7 = .int .i64 a ∧ s8 = .int .i64 ((a : Int) + 20) ∧ a ≤ n ∧ n - a ≤ kx ∧ GoodI Ok n dk ∧ Aside (SW ei w blk off dk wr) ∧ ∃ K, n - a < K ∧ Hid (blocksA (ltOf cf) 20 n K a dk = blocksA (ltOf cf) 20 n (n + 1) 0 d))
 case atStart => exact ⟨0, d, rfl, by first | rfl | go_num, qa5, qa5, G, S0, n + 1, qa5, rfl⟩
 case round =>
  clear S0; obtain ⟨a, dk, rfl, rfl, han, hkx, Gk, S1, K, hK, HB⟩ := hrel; obtain ⟨K, rfl⟩ : ∃ q, K = q + 1 := ⟨K - 1, qa5⟩; have HB1 := HB.out; rw [blocksA] at HB1; clear HB
  by_cases hlt : a + 20 ≤ n
  ·rw [if_pos hlt] at HB1
   have HB2 : Hid (_ = _) := HB1; clear HB1; have hltz : (a : Int) + 20 ≤ (n : Int) := by omega
   have hc := insert_n cf Ok g cb blk off cap a (a + 20) n d dk w wr EG.out HC.out R hds Gk S1.out qa5 hlt qa5; rw [show ((a + 20 : Nat) : Int) = (a : Int) + 20 by omega] at hc; clear S1; have w1 : IntKind.i64.wrap ((a : Int) + 20 + 20) = (a : Int) + 20 + 20 := by rw [IntKind.wrap_i64]; omega
   go_wp2_with (go_at_call 143; refine hc.mono ?_; rintro e w2 ⟨rfl, hSW⟩)
   clear hc
   go_roundg (n - (a + 20))
   case measure => clear w1; omega
   case rel => exact ⟨a + 20, _, qa34, qa34, hlt, Nat.le_refl _, hSW.2, hSW.1, K, qa48, HB2⟩
  ·rw [if_neg hlt] at HB1
   have HB2 : Hid (_ = _) := HB1; clear HB1; have hltz : ¬ (a : Int) + 20 ≤ (n : Int) := by omega
   have hc := insert_n cf Ok g cb blk off cap a n n d dk w wr EG.out HC.out R hds Gk S1.out han (Nat.le_refl _) qa5; clear S1
   go_wp2_with (go_at_call 143; refine hc.mono ?_; rintro e w2 ⟨rfl, hSW⟩)
   clear hc; obtain ⟨dI, hdI⟩ : ∃ x, x = Sort.insertionSort (ltOf cf) dk a n := ⟨_, rfl⟩; rw [← hdI] at HB2 hSW; have HI : Hid (dI = blocksA (ltOf cf) 20 n (n + 1) 0 d) := HB2; have S2 : Aside (SW ei w blk off dI w2) := hSW.1; have GI : GoodI Ok n dI := hSW.2; clear hSW hdI HB2
   go_loopg [6] n (fun kx s6 wr => ∃ (bs : Nat) (dk : Array Int), s6 = .int .i64 bs ∧ 1 ≤ bs ∧ bs ≤ 2000000000 ∧ n - bs ≤ kx ∧ GoodI Ok n dk ∧ Aside (SW ei w blk off dk wr) ∧ ∃ K, n < bs + K ∧ Hid (passesA (ltOf cf) n K bs dk = passesA (ltOf cf) n (n + 1) 20 dI))
   case atStart => exact ⟨20, dI, by first | rfl | go_num, qa5, qa5, qa5, GI, S2, n + 1, qa5, rfl⟩
   case round =>
    clear S2 hltz; obtain ⟨bs, dk, rfl, hb1, hb2, hkx, Gk, S1, K, hK, HB⟩ := hrel
    by_cases hlb : bs < n
    ·have hlbz : (bs : Int) < (n : Int) := by omega
     obtain ⟨K, rfl⟩ : ∃ q, K = q + 1 := ⟨K - 1, qa5⟩; have HB1 := HB.out; rw [passesA, if_pos hlb] at HB1; have HP : Hid (_ = _) := HB1; clear HB HB1; have w1 : IntKind.i64.wrap (2 * (bs : Int)) = 2 * (bs : Int) := by rw [IntKind.wrap_i64]; omega
     have w3 : IntKind.i64.wrap ((bs : Int) * 2) = (bs : Int) * 2 := by clear w1; rw [IntKind.wrap_i64]; omega
     go_wp2
     go_loopg [7, 8] n (fun kx s7 s8 wr => ∃ (a : Nat) (dj : Array Int), s7 = .int .i64 a ∧ s8 = .int .i64 ((a : Int) + 2 * (bs : Int)) ∧ a ≤ n ∧ n - a ≤ kx ∧ GoodI Ok n dj ∧ Aside (SW ei w blk off dj wr) ∧ ∃ K, n - a < K ∧ Hid (passA (ltOf cf) bs n K a dj = passA (ltOf cf) bs n (n + 1) 0 dk))
     case atStart => exact ⟨0, dk, rfl, by first | rfl | (congr 1; clear w1 w3; omega), qa51, qa51, Gk, S1, n + 1, qa51, rfl⟩
     case round =>
      clear S1; obtain ⟨a2, dj, rfl, rfl, han2, hkx2, Gj, S1, K2, hK2, HJ⟩ := hrel; obtain ⟨K2, rfl⟩ : ∃ q, K2 = q + 1 := ⟨K2 - 1, qa51⟩; have HJ1 := HJ.out; rw [passA] at HJ1; clear HJ
      by_cases hl2 : a2 + 2 * bs ≤ n
      ·rw [if_pos hl2] at HJ1
       have HJ2 : Hid (_ = _) := HJ1; clear HJ1; have hl2z : (a2 : Int) + 2 * (bs : Int) ≤ (n : Int) := by clear w1 w3; omega
       have hc := symM_s cf Ok g cb blk off cap n d w EG.out HC.out R hds qa51 (n + 1) a2 (a2 + bs) (a2 + 2 * bs) dj wr qa51 qa51 hl2 qa51 Gj S1.out; rw [show ((a2 + bs : Nat) : Int) = (a2 : Int) + (bs : Int) by clear w1 w3; omega, show ((a2 + 2 * bs : Nat) : Int) = (a2 : Int) + 2 * (bs : Int) by clear w1 w3; omega] at hc; clear S1; have w4 : IntKind.i64.wrap ((a2 : Int) + (bs : Int)) = (a2 : Int) + (bs : Int) := by clear w1 w3; rw [IntKind.wrap_i64]; omega
       have w5 : IntKind.i64.wrap ((a2 : Int) + 2 * (bs : Int) + 2 * (bs : Int)) = (a2 : Int) + 2 * (bs : Int) + 2 * (bs : Int) := by clear w1 w3 w4; rw [IntKind.wrap_i64]; omega
       go_wp2_with (go_at_call 144; refine hc.mono ?_; rintro e wq ⟨rfl, hSW⟩)
       clear hc; have G3 : GoodI Ok n (symMF (ltOf cf) (n + 1) a2 (a2 + bs) (a2 + 2 * bs) dj) := Gj.symMA _ _ _ _ _ _ (by clear w1 w3 w4 w5; omega) (by clear w1 w3 w4 w5; omega) hl2
       go_roundg (n - (a2 + 2 * bs))
       case measure => clear w1 w3 w4 w5; omega
       case rel => exact ⟨a2 + 2 * bs, _, by first | rfl | (congr 1; clear w1 w3 w4 w5; omega), by first | rfl | (congr 1; clear w1 w3 w4 w5; omega), hl2, Nat.le_refl _, G3, hSW, K2, by clear w1 w3 w4 w5; omega, HJ2⟩
      ·rw [if_neg hl2] at HJ1
       have hl2z : ¬ (a2 : Int) + 2 * (bs : Int) ≤ (n : Int) := by clear w1 w3; omega
       have w4 : IntKind.i64.wrap ((a2 : Int) + (bs : Int)) = (a2 : Int) + (bs : Int) := by clear w1 w3; rw [IntKind.wrap_i64]; omega
       by_cases hl3 : a2 + bs < n
       ·rw [if_pos hl3] at HJ1
        have HJ2 : Hid (_ = _) := HJ1; clear HJ1; have hl3z : (a2 : Int) + (bs : Int) < (n : Int) := by clear w1 w3 w4; omega
        have hc := symM_s cf Ok g cb blk off cap n d w EG.out HC.out R hds qa35 (n + 1) a2 (a2 + bs) n dj wr qa35 hl3 (Nat.le_refl _) qa35 Gj S1.out; rw [show ((a2 + bs : Nat) : Int) = (a2 : Int) + (bs : Int) by clear w1 w3 w4; omega] at hc; have G3 : GoodI Ok n (symMF (ltOf cf) (n + 1) a2 (a2 + bs) n dj) := Gj.symMA _ _ _ _ _ _ qa35 hl3 (Nat.le_refl _); clear S1
        go_wp2_with (go_at_call 144; refine hc.mono ?_; rintro e wq ⟨rfl, hSW⟩)
        clear hc
        go_roundg (n - bs * 2)
        case measure => clear w1 w3 w4; omega
        case rel => exact ⟨bs * 2, _, by first | rfl | (congr 1; clear w1 w3 w4; omega), qa35, qa35, Nat.le_refl _, G3, hSW, K, qa35, by rw [HJ2.out]; exact HP⟩
       ·rw [if_neg hl3] at HJ1
        have HJ2 : Hid (_ = _) := HJ1; clear HJ1; have hl3z : ¬ (a2 : Int) + (bs : Int) < (n : Int) := by clear w1 w3 w4; omega
        go_wp2
        go_roundg (n - bs * 2)
        case measure => clear w1 w3 w4; omega
        case rel => exact ⟨bs * 2, dj, by first | rfl | (congr 1; clear w1 w3 w4; omega), qa35, qa35, Nat.le_refl _, Gj, S1, K, qa35, by rw [HJ2.out]; exact HP⟩
    ·have hlbz : ¬ (bs : Int) < (n : Int) := by omega
     have HE : Hid (dk = stabA (ltOf cf) n d) := by
      show _ = _
      rw [stabA, ← HI.out, ← HB.out]
      cases K with
      | zero => rfl
      | succ K => rw [passesA, if_neg hlb]
     clear HB HI; go_wp2
     go_end0
     refine ⟨rfl, ?_⟩; rw [← HE.out]
     exact ⟨S1.out, Gk⟩
theorem sort_s (cf : Int → Int → Int) (Ok : Int → Prop) (g : Nat) (cb : Array Value) (blk off cap n : Nat) (d : Array Int) (w : World)
  (eg : ∀ args w, (callFunc g args).run Try.prog w = .ok (.enter g args) w) (hcmp : CmpL g cb cf Ok blk off d.size w) (R : Row1 ei w blk off d) (G : GoodI Ok n d) (hsz : n < 1000000000) :
  Calls Try.prog 118 #[.slice (some ⟨blk, off, none⟩) n cap, .func (.func g) #[] cb] w fun e w' => e = .returned (.tuple #[]) ∧ SW ei w blk off (stabA (ltOf cf) n d) w' ∧ GoodI Ok n (stabA (ltOf cf) n d) := by
 have t53 := Try.underlying53; have u53 := run_underlying Try.underlying53; have hc := stable_s cf Ok g cb blk off cap n d w eg hcmp R G hsz; clear hcmp R G
 go_enter Try.func118, Try.ntmps118
 go_wp2_with (go_at_call 135; refine hc.mono ?_; rintro e w2 ⟨rfl, hSW⟩)
 go_end0
 exact ⟨rfl, hSW⟩
theorem compare_s (x y : Int) (w : World) : Calls Try.prog 120 #[.int .i64 x, .int .i64 y] w fun e w' => e = .returned (.int .i64 (if x < y then -1 else if x > y then 1 else 0)) ∧ w' = w := by
 by_cases h1 : x < y
 ·rw [if_pos h1]
  go_in
  go_wp2
  trace_state
  go_ret
  exact ⟨rfl, rfl⟩
 ·rw [if_neg h1]
  by_cases h2 : x > y
  ·rw [if_pos h2]
   go_in
   go_wp2
   go_ret
   exact ⟨rfl, rfl⟩
  ·rw [if_neg h2]
   go_in
   go_wp2
   go_ret
   exact ⟨rfl, rfl⟩
def cfV (tx ty : Int) (bx yb : Bool) : Int := if tx ≠ ty then (if tx < ty then -1 else if tx > ty then 1 else 0) else if bx = yb then 0 else if bx = true then -1 else 1
theorem below_grown {W w : World} (h : Below W.heap.size W w) (q : Nat) (hd : w.drawn = W.drawn + q) : ∃ os, w = grow (W.drewN q) os := by
 refine ⟨w.heap.extract W.heap.size w.heap.size, ?_⟩
 have hh : w.heap = W.heap ++ w.heap.extract W.heap.size w.heap.size := by
  apply Array.ext_getElem?
  intro k
  by_cases hk : k < W.heap.size
  ·rw [h.block k hk, Array.getElem?_append_left hk]
  ·rw [Array.getElem?_append_right qa5, Array.getElem?_extract]
   have := h.size
   by_cases hk2 : k < w.heap.size
   ·rw [if_pos qa5]
    congr 1
    omega
   ·rw [if_neg qa5, Array.getElem?_eq_none qa5]
 cases w
 cases W
 simp only [grow, World.drewN] at *
 congr 1
 ·exact h.tape
 ·exact h.os
 ·exact h.output
theorem drawn_set (w : World) (a : Addr) (v : Value) : (w.setCell a v).drawn = w.drawn := by unfold World.setCell; first | rfl | (split <;> rfl)
theorem alloc_new (w : World) (o : Obj) : (w.alloc o).heap[w.heap.size]? = some o := by show (w.heap.push o)[w.heap.size]? = some o; simp
theorem alloc_lt (w : World) (o : Obj) : w.heap.size < (w.alloc o).heap.size := by show w.heap.size < (w.heap.push o).size; simp
theorem witness_cmp (l0 : List S115) (A0 : Option Addr) (c0 gb : Nat) (W : World) (hr0 : Kd.C k115 W A0 l0.length l0) (hc0 : l0.length ≤ c0) (hbox : W.cell? ⟨gb, 0, none⟩ = some (.slice A0 l0.length c0)) (x y : Int) (x0 : 0 ≤ x) (x1 : x < (l0.length : Int)) (y0 : 0 ≤ y) (y1 : y < (l0.length : Int)) :
  Calls Try.prog 119 #[.int .i64 x, .int .i64 y, .pointer (some ⟨gb, 0, none⟩)] W fun e w' => e = .returned (.int .i64 (cfV (rd_T115 l0 x).f2 (rd_T115 l0 y).f2 (rd_T115 l0 x).f4 (rd_T115 l0 y).f4)) ∧ ∃ q os, w' = grow (W.drewN q) os := by
 have hu115 := Try.underlying115; obtain ⟨ad1, A1_5, c1_5, A1_6, c1_6, e1, hx1_0, hx1_1, hx1_2, hx1_3, hx1_4, hx1_5, hx1_6, hx1_7, hl1_5, hi1_5, hl1_6, hi1_6⟩ := at_T115 hr0 x x0 x1
 cases e1
 clear hl1_5 hi1_5 hl1_6 hi1_6; obtain ⟨ad2, A2_5, c2_5, A2_6, c2_6, e2, hx2_0, hx2_1, hx2_2, hx2_3, hx2_4, hx2_5, hx2_6, hx2_7, hl2_5, hi2_5, hl2_6, hi2_6⟩ := at_T115 hr0 y y0 y1; obtain rfl : ad1 = ad2 := (by injection e2); clear hl2_5 hi2_5 hl2_6 hi2_6 e2 hr0; replace x0 := eq_true x0; replace x1 := eq_true x1; replace y0 := eq_true y0; replace y1 := eq_true y1; have mixed : Try.prog.follows Departure.mixedOrders = true := by kernel_rfl
 go_enter Try.func119, Try.ntmps119
 go_wp2; refine start_ (n := 12) (S := fun w' => Below W.heap.size W w') (ds := []) #[qf,qf,qf,qf,qf,qf,qf,qf,qf,qf,qf,qf] mixed rfl rfl (qbD (Below.refl _ _)) (fun hHeld => ?_); have hdr : W.drew.drawn = W.drawn + 1 := rfl; generalize W.drew = W1 at hHeld hdr ⊢; refine qPu 1 9 #[qf,qt,qf,qf,qf,qf,qf,qf,qf,qf,qf,qf] rfl rfl qa8 qa14 qa10 ?_; refine take_ (i := 0) (N := some 8) (v := ?_) (a' := ?_) #[qt,qt,qf,qf,qf,qf,qf,qf,qf,qf,qf,qf] rfl rfl qa8 (fun _ _ _ h => h) (Or.inl ⟨by rfl, ?_⟩) hHeld ?_ ?_; rotate_left
 ·intro w' hs_
  have c_ := (hs_.cell (qL W _ hbox)).trans hbox; go_simp; (with_reducible rfl)
 rotate_left
 ·simp only [Act.put, qzA, qzB, qzC, i64_w, i32_w]
  rfl
 refine qPu 2 10 #[qt,qt,qt,qf,qf,qf,qf,qf,qf,qf,qf,qf] rfl rfl qa8 qa14 qa10 ?_; refine take_ (i := 3) (N := some 11) (v := ?_) (a' := ?_) #[qt,qt,qt,qt,qf,qf,qf,qf,qf,qf,qf,qf] rfl rfl qa8 (fun _ _ _ h => h) (Or.inl ⟨by rfl, ?_⟩) hHeld ?_ ?_; rotate_left
 ·intro w' hs_
  have c0_ := (hs_.cell (qL W _ hx1_0)).trans hx1_0; have c1_ := (hs_.cell (qL W _ hx1_1)).trans hx1_1; have c2_ := (hs_.cell (qL W _ hx1_2)).trans hx1_2; have c3_ := (hs_.cell (qL W _ hx1_3)).trans hx1_3; have c4_ := (hs_.cell (qL W _ hx1_4)).trans hx1_4; have c5_ := (hs_.cell (qL W _ hx1_5)).trans hx1_5; have c6_ := (hs_.cell (qL W _ hx1_6)).trans hx1_6; have c7_ := (hs_.cell (qL W _ hx1_7)).trans hx1_7; go_simp; (with_reducible rfl)
 rotate_left
 ·simp only [Act.put, qzA, qzB, qzC, i64_w, i32_w]
  rfl
 refine qPu 5 13 #[qt,qt,qt,qt,qf,qt,qf,qf,qf,qf,qf,qf] rfl rfl qa8 qa14 qa10 ?_; refine take_ (i := 4) (N := some 12) (v := ?_) (a' := ?_) #[qt,qt,qt,qt,qt,qt,qf,qf,qf,qf,qf,qf] rfl rfl qa8 (fun _ _ _ h => h) (Or.inl ⟨by rfl, ?_⟩) hHeld ?_ ?_; rotate_left
 ·intro w' hs_
  have c_ := (hs_.cell (qL W _ hbox)).trans hbox; go_simp; (with_reducible rfl)
 rotate_left
 ·simp only [Act.put, qzA, qzB, qzC, i64_w, i32_w]
  rfl
 refine qPu 6 14 #[qt,qt,qt,qt,qt,qt,qt,qf,qf,qf,qf,qf] rfl rfl qa8 qa14 qa10 ?_; refine take_ (i := 7) (N := some 15) (v := ?_) (a' := ?_) #[qt,qt,qt,qt,qt,qt,qt,qt,qf,qf,qf,qf] rfl rfl qa8 (fun _ _ _ h => h) (Or.inl ⟨by rfl, ?_⟩) hHeld ?_ ?_; rotate_left
 ·intro w' hs_
  have c0_ := (hs_.cell (qL W _ hx2_0)).trans hx2_0; have c1_ := (hs_.cell (qL W _ hx2_1)).trans hx2_1; have c2_ := (hs_.cell (qL W _ hx2_2)).trans hx2_2; have c3_ := (hs_.cell (qL W _ hx2_3)).trans hx2_3; have c4_ := (hs_.cell (qL W _ hx2_4)).trans hx2_4; have c5_ := (hs_.cell (qL W _ hx2_5)).trans hx2_5; have c6_ := (hs_.cell (qL W _ hx2_6)).trans hx2_6; have c7_ := (hs_.cell (qL W _ hx2_7)).trans hx2_7; go_simp; (with_reducible rfl)
 rotate_left
 ·simp only [Act.put, qzA, qzB, qzC, i64_w, i32_w]
  rfl
 refine join_ (σ := Nat × Nat) 2 #[qt,qt,qt,qt,qt,qt,qt,qt,qt,qt,qf,qf] (fun s => [(6, .pointer (some ⟨s.1, 0, none⟩)), (7, .pointer (some ⟨s.2, 0, none⟩))]) (fun s w' => s.1 ≠ s.2 ∧ W.heap.size ≤ s.1 ∧ W.heap.size ≤ s.2 ∧ w'.heap[s.1]? = some (.cells #[.int .i64 0, .int .i64 0, .int .i64 0, .int .i64 0, .bool false, .slice none 0 0, .slice none 0 0, .string (⟨#[]⟩ : ByteArray)] 115 (0, 0)) ∧ w'.heap[s.2]? = some (.cells #[.int .i64 0, .int .i64 0, .int .i64 0, .int .i64 0, .bool false, .slice none 0 0, .slice none 0 0, .string (⟨#[]⟩ : ByteArray)] 115 (0, 0)) ∧ Below W.heap.size W w' ∧ w'.drawn = W.drawn + 1) ?hc1 ?hj1
 case hj1 =>
  intro hcont; have hB1 := hHeld; refine two_ (i := 8) (j := 9) (Ni := some 6) (Nj := some 7) #[qt,qt,qt,qt,qt,qt,qt,qt,qt,qf,qf,qf] #[qt,qt,qt,qt,qt,qt,qt,qt,qf,qt,qf,qf] rfl rfl rfl rfl qa8 qa20 qa20 (fun K hK => ?_) (fun K hK => ?_)
  ·refine value_ (w1 := ?_) (v := ?_) (by rfl) rfl ?_ ?_
   rotate_left 2
   ·go_simp
    refine ⟨?_, ?_⟩ <;> rfl
   have hz1 : (W1.alloc (.cells #[.int .i64 0, .int .i64 0, .int .i64 0, .int .i64 0, .bool false, .slice none 0 0, .slice none 0 0, .string (⟨#[]⟩ : ByteArray)] 115 (0, 0))).heap[W1.heap.size]? = some (.cells #[.int .i64 0, .int .i64 0, .int .i64 0, .int .i64 0, .bool false, .slice none 0 0, .slice none 0 0, .string (⟨#[]⟩ : ByteArray)] 115 (0, 0)) := alloc_new _ _; refine hK.out _ _ (qbA hHeld _) (fun hHeld => ?_); clear hK K; refine qNm ?_
   have hz2 : ((W1.alloc (.cells #[.int .i64 0, .int .i64 0, .int .i64 0, .int .i64 0, .bool false, .slice none 0 0, .slice none 0 0, .string (⟨#[]⟩ : ByteArray)] 115 (0, 0))).alloc (.cells #[.int .i64 0, .int .i64 0, .int .i64 0, .int .i64 0, .bool false, .slice none 0 0, .slice none 0 0, .string (⟨#[]⟩ : ByteArray)] 115 (0, 0))).heap[(W1.alloc (.cells #[.int .i64 0, .int .i64 0, .int .i64 0, .int .i64 0, .bool false, .slice none 0 0, .slice none 0 0, .string (⟨#[]⟩ : ByteArray)] 115 (0, 0))).heap.size]? = some (.cells #[.int .i64 0, .int .i64 0, .int .i64 0, .int .i64 0, .bool false, .slice none 0 0, .slice none 0 0, .string (⟨#[]⟩ : ByteArray)] 115 (0, 0)) := alloc_new _ _; have hlt_ : W.heap.size ≤ W1.heap.size := hB1.size; have hlt2_ : W1.heap.size < (W1.alloc (.cells #[.int .i64 0, .int .i64 0, .int .i64 0, .int .i64 0, .bool false, .slice none 0 0, .slice none 0 0, .string (⟨#[]⟩ : ByteArray)] 115 (0, 0))).heap.size := alloc_lt _ _; have hz1' : ((W1.alloc (.cells #[.int .i64 0, .int .i64 0, .int .i64 0, .int .i64 0, .bool false, .slice none 0 0, .slice none 0 0, .string (⟨#[]⟩ : ByteArray)] 115 (0, 0))).alloc (.cells #[.int .i64 0, .int .i64 0, .int .i64 0, .int .i64 0, .bool false, .slice none 0 0, .slice none 0 0, .string (⟨#[]⟩ : ByteArray)] 115 (0, 0))).heap[W1.heap.size]? = some (.cells #[.int .i64 0, .int .i64 0, .int .i64 0, .int .i64 0, .bool false, .slice none 0 0, .slice none 0 0, .string (⟨#[]⟩ : ByteArray)] 115 (0, 0)) := qkA hz1 _; clear hz1; have hdr2 : ((W1.alloc (.cells #[.int .i64 0, .int .i64 0, .int .i64 0, .int .i64 0, .bool false, .slice none 0 0, .slice none 0 0, .string (⟨#[]⟩ : ByteArray)] 115 (0, 0))).alloc (.cells #[.int .i64 0, .int .i64 0, .int .i64 0, .int .i64 0, .bool false, .slice none 0 0, .slice none 0 0, .string (⟨#[]⟩ : ByteArray)] 115 (0, 0))).drawn = W.drawn + 1 := hdr; generalize hnn : W1.alloc (.cells #[.int .i64 0, .int .i64 0, .int .i64 0, .int .i64 0, .bool false, .slice none 0 0, .slice none 0 0, .string (⟨#[]⟩ : ByteArray)] 115 (0, 0)) = W2 at hHeld hz2 hlt2_ hz1' hdr2 ⊢; have HZ2 := qO hz2; have HZ1 := qO hz1'; have HD2 := qO hdr2; clear hz2 hz1' hdr2 hnn; refine one_ (i := 9) (N := some 7) #[qt,qt,qt,qt,qt,qt,qt,qt,qt,qt,qf,qf] rfl rfl qa8 qa20 (fun K hK => ?_); refine value_ (w1 := ?_) (v := ?_) (by rfl) rfl ?_ ?_; rotate_left 2
   ·go_simp
    refine ⟨?_, ?_⟩ <;> rfl
   refine hK.out _ _ (qbA hHeld _) (fun hHeld => ?_); clear hK K
   exact norm_ (by simp only [putAll, Act.put, qzA, qzB, qzC, i64_w, i32_w]) (hcont (W1.heap.size, W2.heap.size) _ ⟨by show _ ≠ _; omega, by show _ ≤ _; omega, by show _ ≤ _; omega, HZ1.out, HZ2.out, hHeld, HD2.out⟩)
  ·refine value_ (w1 := ?_) (v := ?_) (by rfl) rfl ?_ ?_
   rotate_left 2
   ·go_simp
    refine ⟨?_, ?_⟩ <;> rfl
   have hz1 : (W1.alloc (.cells #[.int .i64 0, .int .i64 0, .int .i64 0, .int .i64 0, .bool false, .slice none 0 0, .slice none 0 0, .string (⟨#[]⟩ : ByteArray)] 115 (0, 0))).heap[W1.heap.size]? = some (.cells #[.int .i64 0, .int .i64 0, .int .i64 0, .int .i64 0, .bool false, .slice none 0 0, .slice none 0 0, .string (⟨#[]⟩ : ByteArray)] 115 (0, 0)) := alloc_new _ _; refine hK.out _ _ (qbA hHeld _) (fun hHeld => ?_); clear hK K; refine qNm ?_
   have hz2 : ((W1.alloc (.cells #[.int .i64 0, .int .i64 0, .int .i64 0, .int .i64 0, .bool false, .slice none 0 0, .slice none 0 0, .string (⟨#[]⟩ : ByteArray)] 115 (0, 0))).alloc (.cells #[.int .i64 0, .int .i64 0, .int .i64 0, .int .i64 0, .bool false, .slice none 0 0, .slice none 0 0, .string (⟨#[]⟩ : ByteArray)] 115 (0, 0))).heap[(W1.alloc (.cells #[.int .i64 0, .int .i64 0, .int .i64 0, .int .i64 0, .bool false, .slice none 0 0, .slice none 0 0, .string (⟨#[]⟩ : ByteArray)] 115 (0, 0))).heap.size]? = some (.cells #[.int .i64 0, .int .i64 0, .int .i64 0, .int .i64 0, .bool false, .slice none 0 0, .slice none 0 0, .string (⟨#[]⟩ : ByteArray)] 115 (0, 0)) := alloc_new _ _; have hlt_ : W.heap.size ≤ W1.heap.size := hB1.size; have hlt2_ : W1.heap.size < (W1.alloc (.cells #[.int .i64 0, .int .i64 0, .int .i64 0, .int .i64 0, .bool false, .slice none 0 0, .slice none 0 0, .string (⟨#[]⟩ : ByteArray)] 115 (0, 0))).heap.size := alloc_lt _ _; have hz1' : ((W1.alloc (.cells #[.int .i64 0, .int .i64 0, .int .i64 0, .int .i64 0, .bool false, .slice none 0 0, .slice none 0 0, .string (⟨#[]⟩ : ByteArray)] 115 (0, 0))).alloc (.cells #[.int .i64 0, .int .i64 0, .int .i64 0, .int .i64 0, .bool false, .slice none 0 0, .slice none 0 0, .string (⟨#[]⟩ : ByteArray)] 115 (0, 0))).heap[W1.heap.size]? = some (.cells #[.int .i64 0, .int .i64 0, .int .i64 0, .int .i64 0, .bool false, .slice none 0 0, .slice none 0 0, .string (⟨#[]⟩ : ByteArray)] 115 (0, 0)) := qkA hz1 _; clear hz1; have hdr2 : ((W1.alloc (.cells #[.int .i64 0, .int .i64 0, .int .i64 0, .int .i64 0, .bool false, .slice none 0 0, .slice none 0 0, .string (⟨#[]⟩ : ByteArray)] 115 (0, 0))).alloc (.cells #[.int .i64 0, .int .i64 0, .int .i64 0, .int .i64 0, .bool false, .slice none 0 0, .slice none 0 0, .string (⟨#[]⟩ : ByteArray)] 115 (0, 0))).drawn = W.drawn + 1 := hdr; generalize hnn : W1.alloc (.cells #[.int .i64 0, .int .i64 0, .int .i64 0, .int .i64 0, .bool false, .slice none 0 0, .slice none 0 0, .string (⟨#[]⟩ : ByteArray)] 115 (0, 0)) = W2 at hHeld hz2 hlt2_ hz1' hdr2 ⊢; have HZ2 := qO hz2; have HZ1 := qO hz1'; have HD2 := qO hdr2; clear hz2 hz1' hdr2 hnn; refine one_ (i := 8) (N := some 6) #[qt,qt,qt,qt,qt,qt,qt,qt,qt,qt,qf,qf] rfl rfl qa8 qa20 (fun K hK => ?_); refine value_ (w1 := ?_) (v := ?_) (by rfl) rfl ?_ ?_; rotate_left 2
   ·go_simp
    refine ⟨?_, ?_⟩ <;> rfl
   refine hK.out _ _ (qbA hHeld _) (fun hHeld => ?_); clear hK K
   exact norm_ (by simp only [putAll, Act.put, qzA, qzB, qzC, i64_w, i32_w]) (hcont (W2.heap.size, W1.heap.size) _ ⟨by show _ ≠ _; omega, by show _ ≤ _; omega, by show _ ≤ _; omega, HZ2.out, HZ1.out, hHeld, HD2.out⟩)
 case hc1 =>
  clear hHeld hdr; rintro ⟨p, q⟩ W3 ⟨hpq, hgp, hgq, hzp, hzq, hHeld, hdr3⟩
  dsimp only at hpq hgp hgq hzp hzq hHeld hdr3
  refine norm_ (a' := ?_) ?_ ?_; rotate_left
  ·simp only [putAll, Act.put, qzA, qzB, qzC, i64_w, i32_w]
   rfl
  refine join_ (σ := Unit) 0 #[qt,qt,qt,qt,qt,qt,qt,qt,qt,qt,qt,qt] (fun _ => []) (fun _ w' => w'.heap[p]? = some (.cells #[.int .i64 (rd_T115 l0 x).f0, .int .i64 (rd_T115 l0 x).f1, .int .i64 (rd_T115 l0 x).f2, .int .i64 (rd_T115 l0 x).f3, .bool (rd_T115 l0 x).f4, .slice A1_5 ((rd_T115 l0 x).f5.f0.f0).length c1_5, .slice A1_6 ((rd_T115 l0 x).f5.f1).length c1_6, .string (rd_T115 l0 x).f6] 115 (0, 0)) ∧ w'.heap[q]? = some (.cells #[.int .i64 (rd_T115 l0 y).f0, .int .i64 (rd_T115 l0 y).f1, .int .i64 (rd_T115 l0 y).f2, .int .i64 (rd_T115 l0 y).f3, .bool (rd_T115 l0 y).f4, .slice A2_5 ((rd_T115 l0 y).f5.f0.f0).length c2_5, .slice A2_6 ((rd_T115 l0 y).f5.f1).length c2_6, .string (rd_T115 l0 y).f6] 115 (0, 0)) ∧ Below W.heap.size W w' ∧ w'.drawn = W.drawn + 1) ?hc2 ?hj2
  case hj2 =>
   intro hcont; refine one_ (i := 10) (N := none) #[qt,qt,qt,qt,qt,qt,qt,qt,qt,qt,qt,qf] rfl rfl qa8 qa20 (fun K hK => ?_); have hs_0 : W3.cell? ⟨p, 0, none⟩ = some (.int .i64 0) := (blk_cell hzp 0).trans rfl; have hs_1 : W3.cell? ⟨p, 1, none⟩ = some (.int .i64 0) := (blk_cell hzp 1).trans rfl; have hs_2 : W3.cell? ⟨p, 2, none⟩ = some (.int .i64 0) := (blk_cell hzp 2).trans rfl; have hs_3 : W3.cell? ⟨p, 3, none⟩ = some (.int .i64 0) := (blk_cell hzp 3).trans rfl; have hs_4 : W3.cell? ⟨p, 4, none⟩ = some (.bool false) := (blk_cell hzp 4).trans rfl; have hs_5 : W3.cell? ⟨p, 5, none⟩ = some (.slice none 0 0) := (blk_cell hzp 5).trans rfl; have hs_6 : W3.cell? ⟨p, 6, none⟩ = some (.slice none 0 0) := (blk_cell hzp 6).trans rfl; have hs_7 : W3.cell? ⟨p, 7, none⟩ = some (.string (⟨#[]⟩ : ByteArray)) := (blk_cell hzp 7).trans rfl; have hf_0 := blk_frozen hzp 0; have hf_1 := blk_frozen hzp 1; have hf_2 := blk_frozen hzp 2; have hf_3 := blk_frozen hzp 3; have hf_4 := blk_frozen hzp 4; have hf_5 := blk_frozen hzp 5; have hf_6 := blk_frozen hzp 6; have hf_7 := blk_frozen hzp 7; refine skip_ (w1 := ((((((((W3.setCell ⟨p, 0, none⟩ (.int .i64 (rd_T115 l0 x).f0)).setCell ⟨p, 1, none⟩ (.int .i64 (rd_T115 l0 x).f1)).setCell ⟨p, 2, none⟩ (.int .i64 (rd_T115 l0 x).f2)).setCell ⟨p, 3, none⟩ (.int .i64 (rd_T115 l0 x).f3)).setCell ⟨p, 4, none⟩ (.bool (rd_T115 l0 x).f4)).setCell ⟨p, 5, none⟩ (.slice A1_5 ((rd_T115 l0 x).f5.f0.f0).length c1_5)).setCell ⟨p, 6, none⟩ (.slice A1_6 ((rd_T115 l0 x).f5.f1).length c1_6)).setCell ⟨p, 7, none⟩ (.string (rd_T115 l0 x).f6))) (by rfl) rfl (by go_simp) ?_; clear hs_0 hs_1 hs_2 hs_3 hs_4 hs_5 hs_6 hs_7 hf_0 hf_1 hf_2 hf_3 hf_4 hf_5 hf_6 hf_7; have n1_ : (((((((((W3.setCell ⟨p, 0, none⟩ (.int .i64 (rd_T115 l0 x).f0)).setCell ⟨p, 1, none⟩ (.int .i64 (rd_T115 l0 x).f1)).setCell ⟨p, 2, none⟩ (.int .i64 (rd_T115 l0 x).f2)).setCell ⟨p, 3, none⟩ (.int .i64 (rd_T115 l0 x).f3)).setCell ⟨p, 4, none⟩ (.bool (rd_T115 l0 x).f4)).setCell ⟨p, 5, none⟩ (.slice A1_5 ((rd_T115 l0 x).f5.f0.f0).length c1_5)).setCell ⟨p, 6, none⟩ (.slice A1_6 ((rd_T115 l0 x).f5.f1).length c1_6)).setCell ⟨p, 7, none⟩ (.string (rd_T115 l0 x).f6))).heap[p]? = some (.cells #[.int .i64 (rd_T115 l0 x).f0, .int .i64 (rd_T115 l0 x).f1, .int .i64 (rd_T115 l0 x).f2, .int .i64 (rd_T115 l0 x).f3, .bool (rd_T115 l0 x).f4, .slice A1_5 ((rd_T115 l0 x).f5.f0.f0).length c1_5, .slice A1_6 ((rd_T115 l0 x).f5.f1).length c1_6, .string (rd_T115 l0 x).f6] 115 (0, 0)) := (blk_put (cs := #[.int .i64 (rd_T115 l0 x).f0, .int .i64 (rd_T115 l0 x).f1, .int .i64 (rd_T115 l0 x).f2, .int .i64 (rd_T115 l0 x).f3, .bool (rd_T115 l0 x).f4, .slice A1_5 ((rd_T115 l0 x).f5.f0.f0).length c1_5, .slice A1_6 ((rd_T115 l0 x).f5.f1).length c1_6, .string (⟨#[]⟩ : ByteArray)]) (blk_put (cs := #[.int .i64 (rd_T115 l0 x).f0, .int .i64 (rd_T115 l0 x).f1, .int .i64 (rd_T115 l0 x).f2, .int .i64 (rd_T115 l0 x).f3, .bool (rd_T115 l0 x).f4, .slice A1_5 ((rd_T115 l0 x).f5.f0.f0).length c1_5, .slice none 0 0, .string (⟨#[]⟩ : ByteArray)]) (blk_put (cs := #[.int .i64 (rd_T115 l0 x).f0, .int .i64 (rd_T115 l0 x).f1, .int .i64 (rd_T115 l0 x).f2, .int .i64 (rd_T115 l0 x).f3, .bool (rd_T115 l0 x).f4, .slice none 0 0, .slice none 0 0, .string (⟨#[]⟩ : ByteArray)]) (blk_put (cs := #[.int .i64 (rd_T115 l0 x).f0, .int .i64 (rd_T115 l0 x).f1, .int .i64 (rd_T115 l0 x).f2, .int .i64 (rd_T115 l0 x).f3, .bool false, .slice none 0 0, .slice none 0 0, .string (⟨#[]⟩ : ByteArray)]) (blk_put (cs := #[.int .i64 (rd_T115 l0 x).f0, .int .i64 (rd_T115 l0 x).f1, .int .i64 (rd_T115 l0 x).f2, .int .i64 0, .bool false, .slice none 0 0, .slice none 0 0, .string (⟨#[]⟩ : ByteArray)]) (blk_put (cs := #[.int .i64 (rd_T115 l0 x).f0, .int .i64 (rd_T115 l0 x).f1, .int .i64 0, .int .i64 0, .bool false, .slice none 0 0, .slice none 0 0, .string (⟨#[]⟩ : ByteArray)]) (blk_put (cs := #[.int .i64 (rd_T115 l0 x).f0, .int .i64 0, .int .i64 0, .int .i64 0, .bool false, .slice none 0 0, .slice none 0 0, .string (⟨#[]⟩ : ByteArray)]) (blk_put (cs := #[.int .i64 0, .int .i64 0, .int .i64 0, .int .i64 0, .bool false, .slice none 0 0, .slice none 0 0, .string (⟨#[]⟩ : ByteArray)]) hzp 0 _ rfl) 1 _ rfl) 2 _ rfl) 3 _ rfl) 4 _ rfl) 5 _ rfl) 6 _ rfl) 7 _ rfl); have n2_ : (((((((((W3.setCell ⟨p, 0, none⟩ (.int .i64 (rd_T115 l0 x).f0)).setCell ⟨p, 1, none⟩ (.int .i64 (rd_T115 l0 x).f1)).setCell ⟨p, 2, none⟩ (.int .i64 (rd_T115 l0 x).f2)).setCell ⟨p, 3, none⟩ (.int .i64 (rd_T115 l0 x).f3)).setCell ⟨p, 4, none⟩ (.bool (rd_T115 l0 x).f4)).setCell ⟨p, 5, none⟩ (.slice A1_5 ((rd_T115 l0 x).f5.f0.f0).length c1_5)).setCell ⟨p, 6, none⟩ (.slice A1_6 ((rd_T115 l0 x).f5.f1).length c1_6)).setCell ⟨p, 7, none⟩ (.string (rd_T115 l0 x).f6))).heap[q]? = some (.cells #[.int .i64 0, .int .i64 0, .int .i64 0, .int .i64 0, .bool false, .slice none 0 0, .slice none 0 0, .string (⟨#[]⟩ : ByteArray)] 115 (0, 0)) := ((Below.heap_setCell _ ⟨_, 7, none⟩ _ _ (Ne.symm hpq)).trans ((Below.heap_setCell _ ⟨_, 6, none⟩ _ _ (Ne.symm hpq)).trans ((Below.heap_setCell _ ⟨_, 5, none⟩ _ _ (Ne.symm hpq)).trans ((Below.heap_setCell _ ⟨_, 4, none⟩ _ _ (Ne.symm hpq)).trans ((Below.heap_setCell _ ⟨_, 3, none⟩ _ _ (Ne.symm hpq)).trans ((Below.heap_setCell _ ⟨_, 2, none⟩ _ _ (Ne.symm hpq)).trans ((Below.heap_setCell _ ⟨_, 1, none⟩ _ _ (Ne.symm hpq)).trans ((Below.heap_setCell _ ⟨_, 0, none⟩ _ _ (Ne.symm hpq)).trans hzq)))))))); have n3_ : (((((((((W3.setCell ⟨p, 0, none⟩ (.int .i64 (rd_T115 l0 x).f0)).setCell ⟨p, 1, none⟩ (.int .i64 (rd_T115 l0 x).f1)).setCell ⟨p, 2, none⟩ (.int .i64 (rd_T115 l0 x).f2)).setCell ⟨p, 3, none⟩ (.int .i64 (rd_T115 l0 x).f3)).setCell ⟨p, 4, none⟩ (.bool (rd_T115 l0 x).f4)).setCell ⟨p, 5, none⟩ (.slice A1_5 ((rd_T115 l0 x).f5.f0.f0).length c1_5)).setCell ⟨p, 6, none⟩ (.slice A1_6 ((rd_T115 l0 x).f5.f1).length c1_6)).setCell ⟨p, 7, none⟩ (.string (rd_T115 l0 x).f6))).drawn = W.drawn + 1 := ((drawn_set _ _ _).trans ((drawn_set _ _ _).trans ((drawn_set _ _ _).trans ((drawn_set _ _ _).trans ((drawn_set _ _ _).trans ((drawn_set _ _ _).trans ((drawn_set _ _ _).trans ((drawn_set _ _ _).trans hdr3)))))))); refine hK.out _ _ (qbS (qbS (qbS (qbS (qbS (qbS (qbS (qbS hHeld hgp) hgp) hgp) hgp) hgp) hgp) hgp) hgp) (fun hHeld => ?_); clear hK K; generalize ((((((((W3.setCell ⟨p, 0, none⟩ (.int .i64 (rd_T115 l0 x).f0)).setCell ⟨p, 1, none⟩ (.int .i64 (rd_T115 l0 x).f1)).setCell ⟨p, 2, none⟩ (.int .i64 (rd_T115 l0 x).f2)).setCell ⟨p, 3, none⟩ (.int .i64 (rd_T115 l0 x).f3)).setCell ⟨p, 4, none⟩ (.bool (rd_T115 l0 x).f4)).setCell ⟨p, 5, none⟩ (.slice A1_5 ((rd_T115 l0 x).f5.f0.f0).length c1_5)).setCell ⟨p, 6, none⟩ (.slice A1_6 ((rd_T115 l0 x).f5.f1).length c1_6)).setCell ⟨p, 7, none⟩ (.string (rd_T115 l0 x).f6)) = W4 at n1_ n2_ n3_ hHeld ⊢; refine one_ (i := 11) (N := none) #[qt,qt,qt,qt,qt,qt,qt,qt,qt,qt,qt,qt] rfl rfl qa8 qa20 (fun K hK => ?_); have hs_0 : W4.cell? ⟨q, 0, none⟩ = some (.int .i64 0) := (blk_cell n2_ 0).trans rfl; have hs_1 : W4.cell? ⟨q, 1, none⟩ = some (.int .i64 0) := (blk_cell n2_ 1).trans rfl; have hs_2 : W4.cell? ⟨q, 2, none⟩ = some (.int .i64 0) := (blk_cell n2_ 2).trans rfl; have hs_3 : W4.cell? ⟨q, 3, none⟩ = some (.int .i64 0) := (blk_cell n2_ 3).trans rfl; have hs_4 : W4.cell? ⟨q, 4, none⟩ = some (.bool false) := (blk_cell n2_ 4).trans rfl; have hs_5 : W4.cell? ⟨q, 5, none⟩ = some (.slice none 0 0) := (blk_cell n2_ 5).trans rfl; have hs_6 : W4.cell? ⟨q, 6, none⟩ = some (.slice none 0 0) := (blk_cell n2_ 6).trans rfl; have hs_7 : W4.cell? ⟨q, 7, none⟩ = some (.string (⟨#[]⟩ : ByteArray)) := (blk_cell n2_ 7).trans rfl; have hf_0 := blk_frozen n2_ 0; have hf_1 := blk_frozen n2_ 1; have hf_2 := blk_frozen n2_ 2; have hf_3 := blk_frozen n2_ 3; have hf_4 := blk_frozen n2_ 4; have hf_5 := blk_frozen n2_ 5; have hf_6 := blk_frozen n2_ 6; have hf_7 := blk_frozen n2_ 7; refine skip_ (w1 := ((((((((W4.setCell ⟨q, 0, none⟩ (.int .i64 (rd_T115 l0 y).f0)).setCell ⟨q, 1, none⟩ (.int .i64 (rd_T115 l0 y).f1)).setCell ⟨q, 2, none⟩ (.int .i64 (rd_T115 l0 y).f2)).setCell ⟨q, 3, none⟩ (.int .i64 (rd_T115 l0 y).f3)).setCell ⟨q, 4, none⟩ (.bool (rd_T115 l0 y).f4)).setCell ⟨q, 5, none⟩ (.slice A2_5 ((rd_T115 l0 y).f5.f0.f0).length c2_5)).setCell ⟨q, 6, none⟩ (.slice A2_6 ((rd_T115 l0 y).f5.f1).length c2_6)).setCell ⟨q, 7, none⟩ (.string (rd_T115 l0 y).f6))) (by rfl) rfl (by go_simp) ?_; clear hs_0 hs_1 hs_2 hs_3 hs_4 hs_5 hs_6 hs_7 hf_0 hf_1 hf_2 hf_3 hf_4 hf_5 hf_6 hf_7; have n4_ : (((((((((W4.setCell ⟨q, 0, none⟩ (.int .i64 (rd_T115 l0 y).f0)).setCell ⟨q, 1, none⟩ (.int .i64 (rd_T115 l0 y).f1)).setCell ⟨q, 2, none⟩ (.int .i64 (rd_T115 l0 y).f2)).setCell ⟨q, 3, none⟩ (.int .i64 (rd_T115 l0 y).f3)).setCell ⟨q, 4, none⟩ (.bool (rd_T115 l0 y).f4)).setCell ⟨q, 5, none⟩ (.slice A2_5 ((rd_T115 l0 y).f5.f0.f0).length c2_5)).setCell ⟨q, 6, none⟩ (.slice A2_6 ((rd_T115 l0 y).f5.f1).length c2_6)).setCell ⟨q, 7, none⟩ (.string (rd_T115 l0 y).f6))).heap[q]? = some (.cells #[.int .i64 (rd_T115 l0 y).f0, .int .i64 (rd_T115 l0 y).f1, .int .i64 (rd_T115 l0 y).f2, .int .i64 (rd_T115 l0 y).f3, .bool (rd_T115 l0 y).f4, .slice A2_5 ((rd_T115 l0 y).f5.f0.f0).length c2_5, .slice A2_6 ((rd_T115 l0 y).f5.f1).length c2_6, .string (rd_T115 l0 y).f6] 115 (0, 0)) := (blk_put (cs := #[.int .i64 (rd_T115 l0 y).f0, .int .i64 (rd_T115 l0 y).f1, .int .i64 (rd_T115 l0 y).f2, .int .i64 (rd_T115 l0 y).f3, .bool (rd_T115 l0 y).f4, .slice A2_5 ((rd_T115 l0 y).f5.f0.f0).length c2_5, .slice A2_6 ((rd_T115 l0 y).f5.f1).length c2_6, .string (⟨#[]⟩ : ByteArray)]) (blk_put (cs := #[.int .i64 (rd_T115 l0 y).f0, .int .i64 (rd_T115 l0 y).f1, .int .i64 (rd_T115 l0 y).f2, .int .i64 (rd_T115 l0 y).f3, .bool (rd_T115 l0 y).f4, .slice A2_5 ((rd_T115 l0 y).f5.f0.f0).length c2_5, .slice none 0 0, .string (⟨#[]⟩ : ByteArray)]) (blk_put (cs := #[.int .i64 (rd_T115 l0 y).f0, .int .i64 (rd_T115 l0 y).f1, .int .i64 (rd_T115 l0 y).f2, .int .i64 (rd_T115 l0 y).f3, .bool (rd_T115 l0 y).f4, .slice none 0 0, .slice none 0 0, .string (⟨#[]⟩ : ByteArray)]) (blk_put (cs := #[.int .i64 (rd_T115 l0 y).f0, .int .i64 (rd_T115 l0 y).f1, .int .i64 (rd_T115 l0 y).f2, .int .i64 (rd_T115 l0 y).f3, .bool false, .slice none 0 0, .slice none 0 0, .string (⟨#[]⟩ : ByteArray)]) (blk_put (cs := #[.int .i64 (rd_T115 l0 y).f0, .int .i64 (rd_T115 l0 y).f1, .int .i64 (rd_T115 l0 y).f2, .int .i64 0, .bool false, .slice none 0 0, .slice none 0 0, .string (⟨#[]⟩ : ByteArray)]) (blk_put (cs := #[.int .i64 (rd_T115 l0 y).f0, .int .i64 (rd_T115 l0 y).f1, .int .i64 0, .int .i64 0, .bool false, .slice none 0 0, .slice none 0 0, .string (⟨#[]⟩ : ByteArray)]) (blk_put (cs := #[.int .i64 (rd_T115 l0 y).f0, .int .i64 0, .int .i64 0, .int .i64 0, .bool false, .slice none 0 0, .slice none 0 0, .string (⟨#[]⟩ : ByteArray)]) (blk_put (cs := #[.int .i64 0, .int .i64 0, .int .i64 0, .int .i64 0, .bool false, .slice none 0 0, .slice none 0 0, .string (⟨#[]⟩ : ByteArray)]) n2_ 0 _ rfl) 1 _ rfl) 2 _ rfl) 3 _ rfl) 4 _ rfl) 5 _ rfl) 6 _ rfl) 7 _ rfl); have n5_ : (((((((((W4.setCell ⟨q, 0, none⟩ (.int .i64 (rd_T115 l0 y).f0)).setCell ⟨q, 1, none⟩ (.int .i64 (rd_T115 l0 y).f1)).setCell ⟨q, 2, none⟩ (.int .i64 (rd_T115 l0 y).f2)).setCell ⟨q, 3, none⟩ (.int .i64 (rd_T115 l0 y).f3)).setCell ⟨q, 4, none⟩ (.bool (rd_T115 l0 y).f4)).setCell ⟨q, 5, none⟩ (.slice A2_5 ((rd_T115 l0 y).f5.f0.f0).length c2_5)).setCell ⟨q, 6, none⟩ (.slice A2_6 ((rd_T115 l0 y).f5.f1).length c2_6)).setCell ⟨q, 7, none⟩ (.string (rd_T115 l0 y).f6))).heap[p]? = some (.cells #[.int .i64 (rd_T115 l0 x).f0, .int .i64 (rd_T115 l0 x).f1, .int .i64 (rd_T115 l0 x).f2, .int .i64 (rd_T115 l0 x).f3, .bool (rd_T115 l0 x).f4, .slice A1_5 ((rd_T115 l0 x).f5.f0.f0).length c1_5, .slice A1_6 ((rd_T115 l0 x).f5.f1).length c1_6, .string (rd_T115 l0 x).f6] 115 (0, 0)) := ((Below.heap_setCell _ ⟨_, 7, none⟩ _ _ hpq).trans ((Below.heap_setCell _ ⟨_, 6, none⟩ _ _ hpq).trans ((Below.heap_setCell _ ⟨_, 5, none⟩ _ _ hpq).trans ((Below.heap_setCell _ ⟨_, 4, none⟩ _ _ hpq).trans ((Below.heap_setCell _ ⟨_, 3, none⟩ _ _ hpq).trans ((Below.heap_setCell _ ⟨_, 2, none⟩ _ _ hpq).trans ((Below.heap_setCell _ ⟨_, 1, none⟩ _ _ hpq).trans ((Below.heap_setCell _ ⟨_, 0, none⟩ _ _ hpq).trans n1_)))))))); have n6_ : (((((((((W4.setCell ⟨q, 0, none⟩ (.int .i64 (rd_T115 l0 y).f0)).setCell ⟨q, 1, none⟩ (.int .i64 (rd_T115 l0 y).f1)).setCell ⟨q, 2, none⟩ (.int .i64 (rd_T115 l0 y).f2)).setCell ⟨q, 3, none⟩ (.int .i64 (rd_T115 l0 y).f3)).setCell ⟨q, 4, none⟩ (.bool (rd_T115 l0 y).f4)).setCell ⟨q, 5, none⟩ (.slice A2_5 ((rd_T115 l0 y).f5.f0.f0).length c2_5)).setCell ⟨q, 6, none⟩ (.slice A2_6 ((rd_T115 l0 y).f5.f1).length c2_6)).setCell ⟨q, 7, none⟩ (.string (rd_T115 l0 y).f6))).drawn = W.drawn + 1 := ((drawn_set _ _ _).trans ((drawn_set _ _ _).trans ((drawn_set _ _ _).trans ((drawn_set _ _ _).trans ((drawn_set _ _ _).trans ((drawn_set _ _ _).trans ((drawn_set _ _ _).trans ((drawn_set _ _ _).trans n3_)))))))); refine hK.out _ _ (qbS (qbS (qbS (qbS (qbS (qbS (qbS (qbS hHeld hgq) hgq) hgq) hgq) hgq) hgq) hgq) hgq) (fun hHeld => ?_); clear hK K
   exact norm_ (by rfl) (hcont () _ ⟨n5_, n4_, hHeld, n6_⟩)
  case hc2 =>
   clear hHeld hdr3 hzp hzq; rintro _ W5 ⟨hX, hY, hB5, hd5⟩; refine done_ qa8 ?_
   show _
   simp only [putAll]; have hXA := qO hX; have hYA := qO hY; have hcx2 : W5.cell? ⟨p, 2, none⟩ = some (.int .i64 (rd_T115 l0 x).f2) := (blk_cell hX 2).trans rfl; have hcx4 : W5.cell? ⟨p, 4, none⟩ = some (.bool (rd_T115 l0 x).f4) := (blk_cell hX 4).trans rfl; have hcy2 : W5.cell? ⟨q, 2, none⟩ = some (.int .i64 (rd_T115 l0 y).f2) := (blk_cell hY 2).trans rfl; have hcy4 : W5.cell? ⟨q, 4, none⟩ = some (.bool (rd_T115 l0 y).f4) := (blk_cell hY 4).trans rfl; clear hX hY; have hcm := compare_s (rd_T115 l0 x).f2 (rd_T115 l0 y).f2 W5; obtain ⟨tx, htx⟩ : ∃ t_, t_ = (rd_T115 l0 x).f2 := ⟨_, rfl⟩; rw [← htx] at hcx2 hcm; have Htx := qO htx; clear htx; obtain ⟨ty, hty⟩ : ∃ t_, t_ = (rd_T115 l0 y).f2 := ⟨_, rfl⟩; rw [← hty] at hcy2 hcm; have Hty := qO hty; clear hty; obtain ⟨bx, hbx⟩ : ∃ t_, t_ = (rd_T115 l0 x).f4 := ⟨_, rfl⟩; rw [← hbx] at hcx4; have Hbx := qO hbx; clear hbx; obtain ⟨yb, hyb⟩ : ∃ t_, t_ = (rd_T115 l0 y).f4 := ⟨_, rfl⟩; rw [← hyb] at hcy4; have Hyb := qO hyb; clear hyb; have fin : ∀ r : Int, r = cfV tx ty bx yb → (∃ q_ os, W5 = grow (W.drewN q_) os) := fun _ _ => (below_grown hB5 1 hd5).elim fun os h => ⟨1, os, h⟩
   have FIN := qO fin; clear fin hB5 hd5
   by_cases h1 : tx = ty
   ·have h1a : (tx == ty) = true := beq_iff_eq.mpr h1
    have h1b : (tx != ty) = false := bne_eq_false_iff_eq.mpr h1
    by_cases h2 : bx = yb
    ·have h2a : (bx == yb) = true := by simpa using h2
     have h2b : decide (bx = yb) = true := decide_eq_true h2; have hv : (0 : Int) = cfV tx ty bx yb := by unfold cfV; rw [if_neg (by simp [h1]), if_pos h2]
     have HV := qO hv; clear h1 h2 hv; go_wp2
     go_ret
     exact ⟨qa39, FIN.out _ rfl⟩
    ·have h2a : (bx == yb) = false := by simpa using h2
     have h2b : decide (bx = yb) = false := decide_eq_false h2; obtain ⟨bz, hbz⟩ : ∃ t_, t_ = bx := ⟨_, rfl⟩; rw [← hbz] at hcx4 h2 h2a h2b; have Hbz := qO hbz; clear hbz
     cases bz with
     | true =>
      have hv : (-1 : Int) = cfV tx ty bx yb := by unfold cfV; rw [← Hbz.out, if_neg (by simp [h1]), if_neg h2, if_pos rfl]
      have HV := qO hv; clear h1 h2 hv; go_wp2
      go_ret
      exact ⟨qa39, FIN.out _ rfl⟩
     | false =>
      have hv : (1 : Int) = cfV tx ty bx yb := by unfold cfV; rw [← Hbz.out, if_neg (by simp [h1]), if_neg h2, if_neg qa20]
      have HV := qO hv; clear h1 h2 hv; go_wp2
      go_ret
      exact ⟨qa39, FIN.out _ rfl⟩
   ·have h1a : (tx == ty) = false := beq_eq_false_iff_ne.mpr h1
    have h1b : (tx != ty) = true := bne_iff_ne.mpr h1; have hv : (if tx < ty then -1 else if tx > ty then 1 else 0 : Int) = cfV tx ty bx yb := by unfold cfV; rw [if_pos h1]
    have HV := qO hv; rw [hv] at hcm; clear h1 hv
    go_wp2_with (go_at_call 120; refine hcm.mono ?_; rintro e w2 ⟨rfl, rfl⟩)
    go_ret
    exact ⟨by rw [← Htx.out, ← Hty.out, ← Hbx.out, ← Hyb.out]; rfl, FIN.out _ rfl⟩
theorem reps_one {w : World} {base : Nat} {ok : Nat → Prop} {xs : List Int} {inner : List Value} (h : Reps ((Kd.int .i64).M w base ok) 1 xs inner) : inner = xs.map ei := by
 obtain ⟨h1, h2⟩ := h
 apply List.ext_getElem?
 intro j; rw [List.getElem?_map]
 by_cases hj : j < xs.length
 ·rw [List.getElem?_eq_getElem hj]
  have h3 : List.take 1 (List.drop (j * 1) inner) = [.int .i64 xs[j]] := h2 j xs[j] (List.getElem?_eq_getElem hj); have h4 : (List.take 1 (List.drop (j * 1) inner))[0]? = some (.int .i64 xs[j]) := by rw [h3]; rfl
  rw [List.getElem?_take, List.getElem?_drop] at h4; simp only [Nat.lt_add_one, if_true, Nat.mul_one, Nat.add_zero] at h4
  first | exact h4 | (simpa using h4)
 ·rw [List.getElem?_eq_none qa5, List.getElem?_eq_none qa5]
  rfl
theorem row_in {w : World} {base : Nat} {ok : Nat → Prop} {v : Value} {xs : List Int} (h : Kd.R (Kd.int .i64) 3 w base ok v xs) :
  (v = .slice none 0 0 ∧ xs = []) ∨ ∃ g cap cur, v = .slice (some ⟨g, 0, none⟩) xs.length cap ∧ ok g ∧ base ≤ g ∧ w.heap[g]? = some (.cells cur 3 (0, 0)) ∧ xs.length ≤ cap ∧ cap ≤ maxLen ∧ cur.size = cap ∧ cur.toList.take xs.length = xs.map ei := by
 obtain ⟨hok, inner, ⟨hl, ho⟩, hr⟩ := h; have hi := reps_one hr
 rcases ho with ⟨rfl, hn⟩ | ⟨g, cap, cur, rfl, hg, hh, h1, h2, h3, h4⟩
 ·exact .inl ⟨rfl, List.eq_nil_of_length_eq_zero hn⟩
 ·have e1 : (Kd.int .i64).sz = 1 := rfl
  rw [e1, Nat.mul_one] at h3 h4
  exact .inr ⟨g, cap, cur, rfl, hok g rfl, hg, hh, h1, h2, h3, h4.trans hi⟩
theorem row_one {w : World} {xs : List Int} {g cap : Nat} {cur : Array Value} (hh : w.heap[g]? = some (.cells cur 3 (0, 0))) (h1 : xs.length ≤ cap) (h3 : cur.size = cap) (h4 : cur.toList.take xs.length = xs.map ei) : Row1 ei w g 0 xs.toArray := by
 refine ⟨fun _ => rfl, fun j hj => ⟨?_, ?_⟩, blk_lt hh⟩
 ·simp only [List.size_toArray] at hj
  have h5 : (cur.toList.take xs.length)[j]? = some (ei xs[j]) := by rw [h4, List.getElem?_map, List.getElem?_eq_getElem hj]; rfl
  rw [List.getElem?_take, if_pos hj, Array.getElem?_toList] at h5; rw [Nat.zero_add, blk_cell hh j, h5, getElem!_pos xs.toArray j (by simpa using hj)]
  simp
 ·rw [Nat.zero_add]; exact blk_frozen hh j
theorem sw_heap {w W : World} {g : Nat} {d' : Array Int} (S : SW ei w g 0 d' W) (hg : g < w.heap.size) : (∀ k, k < w.heap.size → k ≠ g → W.heap[k]? = w.heap[k]?) ∧ (∀ cur fz, w.heap[g]? = some (.cells cur 3 fz) → W.heap[g]? = some (.cells (putCells ei 0 d' cur) 3 fz)) ∧ W.os = w.os ∧ W.tape = w.tape ∧ W.output = w.output ∧ w.heap.size ≤ W.heap.size := by
 obtain ⟨m, os, rfl⟩ := S; have hH : (sortWorld ei w g 0 m d' os).heap = (w.heap.modify g (onCells (putCells ei 0 d'))) ++ os := rfl; refine ⟨fun k hk hne => ?_, fun cur fz h => ?_, rfl, rfl, rfl, ?_⟩
 ·rw [hH, Array.getElem?_append_left (by simpa using hk), Array.getElem?_modify, if_neg (Ne.symm hne)]
 ·rw [hH, Array.getElem?_append_left (by simpa using hg), Array.getElem?_modify, if_pos rfl, h]
  rfl
 ·rw [hH]; simp
theorem below_sw {w W : World} {g B : Nat} {d' : Array Int} (S : SW ei w g 0 d' W) (hg : g < w.heap.size) (hB : B ≤ g) : Below B w W := by
 obtain ⟨h1, _, h3, h4, h5, h6⟩ := sw_heap S hg
 exact ⟨h3, h4, h5, h6, fun k hk => h1 k qa5 qa5⟩
theorem row_out {w W : World} {base : Nat} {ok : Nat → Prop} {xs : List Int} {g cap : Nat} {cur : Array Value} {d' : Array Int} (hok : ok g) (hb : base ≤ g) (hh : w.heap[g]? = some (.cells cur 3 (0, 0))) (h1 : xs.length ≤ cap) (h2 : cap ≤ maxLen) (h3 : cur.size = cap)
  (S : SW ei w g 0 d' W) (hs : d'.size = xs.length) : Kd.R (Kd.int .i64) 3 W base ok (.slice (some ⟨g, 0, none⟩) xs.length cap) d'.toList := by
 obtain ⟨_, hp, _⟩ := sw_heap S (blk_lt hh); have hl : d'.toList.length = xs.length := by simpa using hs
 have e1 : (Kd.int .i64).sz = 1 := rfl; refine ⟨fun k hk => by have : g = k := (by simpa [Value.ownBlock] using hk); subst this; exact hok, d'.toList.map ei, ⟨?_, .inr ⟨g, cap, putCells ei 0 d' cur, by rw [hl], hb, hp cur (0, 0) hh, by rw [hl]; exact h1, h2, by rw [e1, Nat.mul_one]; simpa [putCells] using h3, ?_⟩⟩, ?_, ?_⟩
 ·rw [e1]; simp
 ·rw [e1, Nat.mul_one]
  apply List.ext_getElem?
  intro j; rw [List.getElem?_take, List.getElem?_map]
  by_cases hj : j < d'.size
  ·rw [if_pos (by simpa using hj), Array.getElem?_toList, Array.getElem?_toList, putCells, Array.getElem?_mapIdx, Array.getElem?_eq_getElem (show j < cur.size by omega), Array.getElem?_eq_getElem hj]
   simp only [Option.map_some, Nat.zero_add, Nat.zero_le, true_and, if_pos hj, Nat.sub_zero, getElem!_pos d' j hj]
  ·rw [if_neg (by simpa using hj), Array.getElem?_toList, Array.getElem?_eq_none qa5]
   rfl
 ·rw [e1]; simp
 ·intro j p hj
  rw [e1, Nat.mul_one]
  show List.take 1 (List.drop j (d'.toList.map ei)) = [.int .i64 p]
  have hjl : j < d'.toList.length := (List.getElem?_eq_some_iff.1 hj).1; rw [List.drop_eq_getElem_cons (by simpa using hjl), List.take_succ_cons, List.take_zero]; have := (List.getElem?_eq_some_iff.1 hj).2; simp only [List.getElem_map, this]
  rfl
theorem insert_none (f : Value) (w : World) : Calls Try.prog 143 #[.slice none 0 0, .int .i64 0, .int .i64 0, f] w fun e w' => e = .returned (.tuple #[]) ∧ w' = w := by
 go_enter Try.func143, Try.ntmps143
 go_wp2; refine wp_loop_rounds 1 ?_; rw [rounds_succ]; go_wp2
 go_end0
 exact ⟨rfl, rfl⟩
theorem stable_none (f : Value) (w : World) : Calls Try.prog 135 #[.slice none 0 0, .int .i64 0, f] w fun e w' => e = .returned (.tuple #[]) ∧ w' = w := by
 go_enter Try.func135, Try.ntmps135
 go_wp2; refine wp_loop_rounds 1 ?_; rw [rounds_succ]
 go_wp2_with (go_at_call 143; refine (insert_none _ _).mono ?_; rintro e w2 ⟨rfl, rfl⟩)
 refine wp_loop_rounds 1 ?_; rw [rounds_succ]; go_wp2
 go_end0
 exact ⟨rfl, rfl⟩
theorem sort_none (f : Value) (w : World) : Calls Try.prog 118 #[.slice none 0 0, f] w fun e w' => e = .returned (.tuple #[]) ∧ w' = w := by
 go_enter Try.func118, Try.ntmps118
 go_wp2_with (go_at_call 135; refine (stable_none _ _).mono ?_; rintro e w2 ⟨rfl, rfl⟩)
 go_end0
 exact ⟨rfl, rfl⟩
def cfW (l0 : List S115) (x y : Int) : Int := cfV (rd_T115 l0 x).f2 (rd_T115 l0 y).f2 (rd_T115 l0 x).f4 (rd_T115 l0 y).f4
def sortW (l0 : List S115) (c : List Int) : List Int := (stabA (ltOf (cfW l0)) c.length c.toArray).toList
theorem sortW_nil (l0 : List S115) : sortW l0 [] = [] := by
 have e : blocksA (ltOf (cfW l0)) 20 0 1 0 #[] = #[] := by
  rw [blocksA, if_neg qa20, Sort.insertionSort, insOuter_stop _ _ _ _ _ qa20]
 show (passesA (ltOf (cfW l0)) 0 1 20 (blocksA (ltOf (cfW l0)) 20 0 1 0 #[])).toList = []
 rw [e, passesA, if_neg qa20]
def inW (l0 : List S115) (c : List Int) : Bool := c.all fun x => decide (0 ≤ x) && decide (x < (l0.length : Int))
/-- slices.SortStableFunc over a row of the call's own. -/
theorem sort_row (l0 : List S115) (A0 : Option Addr) (c0 gb : Nat) (w w1 : World) (base : Nat) (v : Value) (c : List Int) (hr0 : Kd.C k115 w A0 l0.length l0) (hc0 : l0.length ≤ c0) (hb : Below w.heap.size w w1) (hbase : w.heap.size ≤ base)
  (hbox : w1.heap[gb]? = some (.cells #[.slice A0 l0.length c0] 56 (0, 0))) (hgb : gb < base) (hR : Kd.R (Kd.int .i64) 3 w1 base (fun _ => True) v c) (hin : inW l0 c = true) (hn : c.length < 1000000000) :
  Calls Try.prog 118 #[v, .func (.func 119) #[] #[.pointer (some ⟨gb, 0, none⟩)]] w1 fun e w' => e = .returned (.tuple #[]) ∧ Kd.R (Kd.int .i64) 3 w' base (fun _ => True) v (sortW l0 c) ∧ Below base w1 w' := by
 rcases row_in hR with ⟨rfl, rfl⟩ | ⟨g, cap, cur, rfl, hok, hg, hh, h1, h2, h3, h4⟩
 ·refine (sort_none _ _).mono ?_
  rintro e w2 ⟨rfl, rfl⟩
  exact ⟨rfl, by rw [sortW_nil]; exact hR, Below.refl _ _⟩
 ·have R1 := row_one hh h1 h3 h4
  have hg1 : g < w1.heap.size := blk_lt hh
  have hgood : GoodI (fun x => 0 ≤ x ∧ x < (l0.length : Int)) c.length c.toArray := by
   refine ⟨qa12, fun i hi => ?_⟩; have := List.all_eq_true.1 hin c[i] (List.getElem_mem hi); rw [getElem!_pos c.toArray i (by simpa using hi)]; simp only [Bool.and_eq_true, decide_eq_true_eq] at this
   simpa using this
  have hcmp : CmpL 119 #[.pointer (some ⟨gb, 0, none⟩)] (cfW l0) (fun x => 0 ≤ x ∧ x < (l0.length : Int)) g 0 c.toArray.size w1 := by
   intro m os dk hs x y hx hy; have S : SW ei w1 g 0 dk (sortWorld ei w1 g 0 m dk os) := ⟨m, os, rfl⟩; have hB := below_sw S hg1 hg; have hB0 : Below w.heap.size w (sortWorld ei w1 g 0 m dk os) := hb.trans (hB.mono hbase); have hbx : (sortWorld ei w1 g 0 m dk os).heap[gb]? = some (.cells #[.slice A0 l0.length c0] 56 (0, 0)) := (hB.block gb hgb).trans hbox
   exact witness_cmp l0 A0 c0 gb _ (Kd.C_below hr0 hB0) hc0 ((blk_cell hbx 0).trans rfl) x y hx.1 hx.2 hy.1 hy.2
  have hs := sort_s (cfW l0) _ 119 #[.pointer (some ⟨gb, 0, none⟩)] g 0 cap c.length c.toArray w1 (enters_ Try.func119 qa8 rfl) hcmp R1 hgood hn; refine hs.mono ?_; rintro e w2 ⟨rfl, S, G⟩; have hsz := G.1; have hr := row_out (ok := fun _ => True) (base := base) trivial hg hh h1 h2 h3 S hsz; have hl : (sortW l0 c).length = c.length := by unfold sortW; simpa using hsz
  refine ⟨rfl, ?_, below_sw S hg1 hg⟩
  exact hr
def impl_witness.f (k : Nat) (l0 : List (S115)) : Option (List Int) := (impl_committed.f k l0).bind fun c => if c.length < 1000000000 then (if inW l0 c = true then some (sortW l0 c) else none) else none
theorem impl_witness.calls (k : Nat) (A0 : Option Addr) (c0 : Nat) (l0 : List (S115)) (r : List Int) (w : World) (hr0 : Kd.C k115 w A0 l0.length l0) (hc0 : l0.length ≤ c0) (h : impl_witness.f k l0 = some r) :
  Calls Try.prog 88 #[.slice A0 l0.length c0] w fun e w' => ∃ v0_ : Value, e = .returned (v0_) ∧ Kd.R (Kd.int .i64) 3 w' w.heap.size (fun _ => True) v0_ r ∧ Below w.heap.size w w' := by
 obtain ⟨c, hc, h2⟩ := Option.bind_eq_some_iff.1 h; have hn : c.length < 1000000000 := Classical.byContradiction fun hx => by rw [if_neg hx] at h2; cases h2
 rw [if_pos hn] at h2; have hin : inW l0 c = true := Classical.byContradiction fun hx => by rw [if_neg hx] at h2; cases h2
 rw [if_pos hin] at h2; obtain rfl := Option.some.inj h2; clear h h2; have HR0 := qO hr0; have HC0 := qO hc0; have HN := qO hn; have HIN := qO hin; have HCC := qO hc; clear hr0 hc0 hn hin hc
 go_enter Try.func88, Try.ntmps88
 go_wp2_with (first | ((with_reducible refine gate_dst (N := 1) rfl ?_); refine qX 1 #[.slice A0 l0.length c0] 56 ?_; intro gb105 hg w9 hbox hb; have HBX := qO hbox; have HB := qO hb; have HG := qO hg; have hcz : w9.cell? ⟨gb105, 0, none⟩ = some (.slice A0 l0.length c0) := (blk_cell hbox 0).trans rfl; have hfz := blk_frozen hbox 0; clear hg hbox hb) | (go_at_call 73; refine (impl_committed.calls k A0 c0 l0 c _ (Kd.C_below HR0.out HB.out) HC0.out HCC.out).mono ?_; rintro e w10 ⟨v10, rfl, hR, hB2⟩; have HR := qO hR; have HB2 := qO hB2; clear hR hB2) | (go_at_call 118; refine (sort_row l0 A0 c0 gb105 w _ w9.heap.size v10 c HR0.out HC0.out (below_step HB.out HB2.out) HB.out.size (blk_below HBX.out HB2.out) (blk_lt HBX.out) HR.out HIN.out HN.out).mono ?_; rintro e w11 ⟨rfl, hR, hB3⟩))
 go_ret
 exact ⟨v10, rfl, Kd.R_lower hR HB.out.size, (below_step HB.out HB2.out).trans (hB3.mono HB.out.size)⟩
end
set_option maxHeartbeats 8000000
set_option maxRecDepth 100000
/-- The first place at which p holds, or -1. -/
def slices_IndexFunc_int_int.fp (p : Int → Bool) (l0 : List Int) : Int := match l0.findIdx? p with | some i => (i : Int) | none => -1
theorem slices_IndexFunc_int_int.hit (p : Int → Bool) (l0 : List Int) (kk : Nat) (x : Int) (hx : l0[kk]? = some x) (hp : p x = true) (hno : ∀ j, j < kk → ∀ x, l0[j]? = some x → p x = false) : slices_IndexFunc_int_int.fp p l0 = kk := by
 unfold slices_IndexFunc_int_int.fp
 have h : l0.findIdx? p = some kk := by
  rw [List.findIdx?_eq_some_iff_getElem]; obtain ⟨hl, he⟩ := List.getElem?_eq_some_iff.1 hx
  exact ⟨hl, by rw [he]; exact hp, fun j hj => by rw [hno j hj _ (List.getElem?_eq_getElem (Nat.lt_trans hj hl))]; simp⟩
 rw [h]
theorem slices_IndexFunc_int_int.miss (p : Int → Bool) (l0 : List Int) (hno : ∀ j, j < l0.length → ∀ x, l0[j]? = some x → p x = false) : slices_IndexFunc_int_int.fp p l0 = -1 := by
 unfold slices_IndexFunc_int_int.fp
 have h : l0.findIdx? p = none := by
  rw [List.findIdx?_eq_none_iff]; intro x hx; obtain ⟨j, hj⟩ := List.getElem?_of_mem hx
  exact hno j (List.getElem?_eq_some_iff.1 hj).1 x hj
 rw [h]
theorem slices_IndexFunc_int_int.callsP (A0 : Option Addr) (c0 : Nat) (l0 : List Int) (g : Nat) (cb : Array Value) (p : Int → Bool) (w : World) (eg : ∀ args w, (callFunc g args).run Try.prog w = .ok (.enter g args) w) (hr0 : Kd.C (Kd.int .i64) w A0 l0.length l0)
  (hp : ∀ (W : World) (x : Int), x ∈ l0 → Below w.heap.size w W → Calls Try.prog g (#[.int .i64 x] ++ cb) W fun e w' => e = .returned (.bool (p x)) ∧ Below w.heap.size w w') :
  Calls Try.prog 121 #[.slice A0 l0.length c0, .func (.func g) #[] cb] w fun e w' => e = .returned (.int .i64 (slices_IndexFunc_int_int.fp p l0)) ∧ Below w.heap.size w w' := by
 have hlen := hr0.2.1; have HR := qO hr0; have HP := qO hp; clear hr0 hp; have isagg := Try.isAgg3
 go_enter Try.func121, Try.ntmps121
 go_wp2
 go_loopg [5, 8] l0.length (fun gg _ s8 wr => ∃ kk : Nat, kk ≤ l0.length ∧ l0.length - kk ≤ gg ∧ s8 = .int .i64 kk ∧ Aside0 (Below w.heap.size w wr) ∧ Aside0 (∀ j, j < kk → ∀ x, l0[j]? = some x → p x = false))
 case atStart => exact ⟨0, Nat.zero_le _, qa5, rfl, ⟨Below.refl _ w⟩, ⟨fun j hj => absurd hj (Nat.not_lt_zero _)⟩⟩
 case round =>
  obtain ⟨kk, hkk, hg, rfl, BW, No⟩ := hrel
  by_cases hlt : kk < l0.length
  ·have hltz : (kk : Int) < (l0.length : Int) := by omega
   obtain ⟨ad, e, hx0⟩ := Kd.at_int HR.out (kk : Int) qa5 hltz
   cases e
   replace hx0 := (BW.out.cell (qL w _ hx0)).trans hx0; simp only [Int.toNat_natCast] at hx0
   have hx : l0[kk]? = some (rd l0 (kk : Int)) := by
    rw [List.getElem?_eq_getElem hlt]
    show some l0[kk] = some (l0.getD (kk : Int).toNat _)
    rw [Int.toNat_natCast, List.getD_eq_getElem?_getD, List.getElem?_eq_getElem hlt]
    rfl
   skip
   have hcall := HP.out wr (rd l0 (kk : Int)) (List.mem_of_getElem? hx) BW.out; have HX := qO hx; clear hx; generalize rd l0 (kk : Int) = x at hcall HX hx0
   cases hq : p x with
   | true =>
    have HQ := qO hq; rw [hq] at hcall; clear hq
    go_wp2_with (go_at_fn g; refine hcall.mono ?_; rintro e w' ⟨rfl, hb'⟩)
    go_ret
    exact ⟨by rw [slices_IndexFunc_int_int.hit p l0 kk x HX.out HQ.out No.out]; rfl, hb'⟩
   | false =>
    have HQ := qO hq; rw [hq] at hcall; clear hq
    go_wp2_with (go_at_fn g; refine hcall.mono ?_; rintro e w' ⟨rfl, hb'⟩)
    go_roundg (l0.length - (kk + 1))
    case measure => omega
    case rel =>
     refine ⟨kk + 1, qa5, qa5, by go_num, ⟨hb'⟩, ⟨fun j hj x' hx' => ?_⟩⟩
     by_cases e : j = kk
     ·subst e
      rw [HX.out] at hx'; obtain rfl := Option.some.inj hx'
      exact HQ.out
     ·exact No.out j qa5 x' hx'
  ·have hltz : ¬ (kk : Int) < (l0.length : Int) := by omega
   have hk : kk = l0.length := by omega
   have HK := qO hk; clear hk; go_wp2
   go_ret
   exact ⟨by rw [slices_IndexFunc_int_int.miss p l0 (fun j hj => No.out j (by rw [HK.out]; exact hj))]; rfl, BW.out⟩
set_option maxHeartbeats 8000000
set_option maxRecDepth 100000
theorem slices_ContainsFunc_int_int.callsP (A0 : Option Addr) (c0 : Nat) (l0 : List Int) (g : Nat) (cb : Array Value) (p : Int → Bool) (w : World) (eg : ∀ args w, (callFunc g args).run Try.prog w = .ok (.enter g args) w) (hr0 : Kd.C (Kd.int .i64) w A0 l0.length l0)
  (hp : ∀ (W : World) (x : Int), x ∈ l0 → Below w.heap.size w W → Calls Try.prog g (#[.int .i64 x] ++ cb) W fun e w' => e = .returned (.bool (p x)) ∧ Below w.heap.size w w') :
  Calls Try.prog 89 #[.slice A0 l0.length c0, .func (.func g) #[] cb] w fun e w' => e = .returned (.bool (l0.any p)) ∧ Below w.heap.size w w' := by
 have hc := slices_IndexFunc_int_int.callsP A0 c0 l0 g cb p w eg hr0 hp
 have hany : decide (0 ≤ slices_IndexFunc_int_int.fp p l0) = l0.any p := by
  unfold slices_IndexFunc_int_int.fp
  cases hf : l0.findIdx? p with
  | none =>
   have h := List.findIdx?_eq_none_iff.1 hf
   have h2 : l0.any p = false := by
    rw [List.any_eq_false]; intro x hx; rw [h x hx]
    simp
   rw [h2]
   rfl
  | some i =>
   obtain ⟨hl, hi, _⟩ := List.findIdx?_eq_some_iff_getElem.1 hf; have h2 : l0.any p = true := List.any_eq_true.2 ⟨l0[i], List.getElem_mem hl, hi⟩; rw [h2]
   simp
 have HA := qO hany; clear hany hp; generalize slices_IndexFunc_int_int.fp p l0 = q at hc HA
 go_enter Try.func89, Try.ntmps89
 go_wp2_with (go_at_call 121; refine hc.mono ?_; rintro e w' ⟨rfl, hb'⟩)
 go_ret
 exact ⟨by rw [← HA.out]; rfl, hb'⟩
set_option maxHeartbeats 8000000
set_option maxRecDepth 100000
theorem int_apart {w : World} {base g : Nat} {ok : Nat → Prop} {v : Value} {xs : List Int} (h : Kd.R (Kd.int .i64) 3 w base ok v xs) (hne : ∀ k, v.ownBlock = some k → k ≠ g) : Kd.R (Kd.int .i64) 3 w base (fun k => ok k ∧ k ≠ g) v xs := by
 obtain ⟨h1, inner, ho, hr⟩ := h
 exact ⟨fun k hk => ⟨h1 k hk, hne k hk⟩, inner, ho, hr⟩
theorem impl_RealTime_1.callsQ (x : Int) (gs : Nat) (y0 : Int) (w : World) (hs : w.heap[gs]? = some (.cells #[.int .i64 y0] 3 (0, 0))) :
  Calls Try.prog 90 #[.int .i64 x, .pointer (some ⟨gs, 0, none⟩)] w fun e w' => e = .returned (.bool (decide (x < y0))) ∧ Below w.heap.size w w' := by
 have hcy0 : w.cell? ⟨gs, 0, none⟩ = some (.int .i64 y0) := (blk_cell hs 0).trans rfl; clear hs
 go_enter Try.func90, Try.ntmps90
 go_wp2
 go_ret
 exact ⟨rfl, Below.refl _ _⟩
def clo89_90.f (l0 : List (Int)) (a1_0 : Int) : Option Bool := some (l0.any (fun x => decide (x < a1_0)))
theorem clo89_90.calls (A0 : Option Addr) (c0 : Nat) (l0 : List (Int)) (a1_0 : Int) (r : Bool) (w : World) (hr0 : Kd.C (Kd.int .i64) w A0 l0.length l0) (hc0 : l0.length ≤ c0) (h : clo89_90.f l0 a1_0 = some r) (gs : Nat) (hs : w.heap[gs]? = some (.cells #[.int .i64 a1_0] 3 (0, 0))) :
  Calls Try.prog 89 #[.slice A0 l0.length c0, .func (.func 90) #[] #[.pointer (some ⟨gs, 0, none⟩)]] w fun e w' => e = .returned (.bool r) ∧ Below w.heap.size w w' := by
 obtain rfl := Option.some.inj h; have eg : ∀ args w, (callFunc 90 args).run Try.prog w = .ok (.enter 90 args) w := enters_of Try.func90 qa8 rfl
 exact slices_ContainsFunc_int_int.callsP A0 c0 l0 90 #[.pointer (some ⟨gs, 0, none⟩)] (fun x => decide (x < a1_0)) w eg hr0 (fun W x _ hb => (impl_RealTime_1.callsQ x gs a1_0 W (blk_below hs hb)).mono (by rintro e w' ⟨rfl, h2⟩; exact ⟨rfl, below_step hb h2⟩))
def impl_RealTime.l0 : Nat → List (S115) → List Int → List Int → Int → Int → Option (Bool × Int)
 | 0, _, _, _, _, _ => none
 | k + 1, x0, x5, x16, x17, x18 => if x18 < x17 then (if 0 ≤ x18 then (if x18 < (x16.length : Int) then (if 0 ≤ (rd x16 x18) then (if (rd x16 x18) < (x0.length : Int) then (if 0 ≤ (wrap64 (x18 + 1)) then (if (wrap64 (x18 + 1)) ≤ (x5.length : Int) then ((clo89_90.f (x5.drop ((wrap64 (x18 + 1)) : Int).toNat) ((rd_T115 x0 (rd x16 x18)).f3)).bind fun t112 => (if t112 = true then (some (false, 0)) else (impl_RealTime.l0 k x0 x5 x16 x17 (wrap64 (x18 + 1))))) else (none)) else (none)) else (none)) else (none)) else (none)) else (none)) else (some (true, 0))
def impl_RealTime.f (k : Nat) (l0 : List (S115)) : Option (Bool × Int) := (impl_historyCode.f k l0).bind fun t101 => (if t101 = 0 then ((impl_witness.f k l0).bind fun t102 => (impl_RealTime.l0 k l0 t102 t102 (t102.length : Int) 0)) else (some (false, t101)))
theorem impl_RealTime.calls (k : Nat) (A0 : Option Addr) (c0 : Nat) (l0 : List (S115)) (r1 : Bool) (r2 : Int) (w : World) (hr0 : Kd.C k115 w A0 l0.length l0) (hc0 : l0.length ≤ c0) (h : impl_RealTime.f k l0 = some (r1, r2)) :
  Calls Try.prog 43 #[.slice A0 l0.length c0] w fun e w' => e = .returned (.tuple #[.bool r1, .int .i64 r2]) ∧ Below w.heap.size w w' := by
 have hu3 := Try.underlying3; have HR0 := qO hr0; have HC0 := qO hc0; clear hr0 hc0; have HB := qO (Below.refl w.heap.size w); have H : ((impl_historyCode.f k l0).bind fun t101 => (if t101 = 0 then ((impl_witness.f k l0).bind fun t102 => (impl_RealTime.l0 k l0 t102 t102 (t102.length : Int) 0)) else (some (false, t101)))) = some (r1, r2) := h; clear h; replace H := Option.bind_eq_some_iff.mp H; obtain ⟨t101, A20, H⟩ := H; have A2 := qO A20; clear A20
 by_cases c3 : t101 = 0
 ·rw [if_pos c3] at H
  have c3b0 := beq_iff_eq.mpr c3; have c3b1 := bne_eq_false_iff_eq.mpr c3; clear c3; replace H := Option.bind_eq_some_iff.mp H; obtain ⟨t102, A40, H⟩ := H; have A4 := qO A40; clear A40; have H' := qO H; clear H
  go_enter Try.func43, Try.ntmps43
  go_wp2_with (first | ((with_reducible refine gate_callee (f := 72) rfl ?_); refine qGL 10 Try.func72 #[.slice A0 l0.length c0] ?_; (with_reducible refine (impl_historyCode.calls k _ _ l0 t101 _ ?side1 ?side2 A2.out).mono ?_); (case side1 => exact qa63); (case side2 => exact HC0.out); rintro e w5 ⟨rfl, hb⟩; have hx_ := qHX HB hb qa0; refine ⟨_, rfl, ?_⟩; replace HB := qO (below_step (below_step HB.out hx_) hb); clear hx_ hb) | ((with_reducible refine gate_callee (f := 88) rfl ?_); refine qGL 15 Try.func88 #[.slice A0 l0.length c0] ?_; (with_reducible refine (impl_witness.calls k _ _ l0 t102 _ ?side1 ?side2 A4.out).mono ?_); (case side1 => exact qa26); (case side2 => exact HC0.out); rintro e w6 ⟨v103, rfl, ho0, hb⟩; have hx_ := qHX HB hb qa0; refine ⟨_, rfl, ?_⟩; have HO104 := qO (Kd.R_lower ho0 (below_size (below_step HB.out hx_))); replace HB := qO (below_step (below_step HB.out hx_) hb); clear hx_ hb ho0; obtain ⟨Ao7, co7, eo7⟩ := Kd.R_slice HO104.out; subst eo7))
  go_loopg [18] k (fun kq v18 w' => ∃ (x18_1 : Int), v18 = .int .i64 x18_1 ∧ Aside0 (impl_RealTime.l0 kq l0 t102 t102 (t102.length : Int) x18_1 = some (r1, r2)) ∧ Aside0 (kq ≤ k) ∧ Aside0 (Kd.R (Kd.int .i64) 3 w' w.heap.size (fun _ => True) (.slice Ao7 t102.length co7) t102) ∧ Aside0 (Kd.R (Kd.int .i64) 3 w' w.heap.size (fun _ => True) (.slice Ao7 t102.length co7) t102) ∧ Aside0 (Below w.heap.size w w'))
  case atStart => exact ⟨(0), qa4, H', ⟨Nat.le_refl _⟩, ⟨qrR HO104.out⟩, ⟨qrR HO104.out⟩, ⟨qH HB.out⟩⟩
  case round =>
   clear H'
   obtain ⟨x18_1, rfl, HA, HK1, HO_5, HO_16, HB⟩ := hrel
   cases gk with
   | zero => exact absurd HA.out (by simp [impl_RealTime.l0])
   | succ k1 =>
    have H := HA.out; clear HA; simp only [impl_RealTime.l0] at H
    by_cases c8 : x18_1 < (t102.length : Int)
    ·rw [if_pos c8] at H
     have c8b0 := decide_eq_true c8; clear c8
     by_cases c9 : 0 ≤ x18_1
     ·rw [if_pos c9] at H
      have c9b0 := decide_eq_true c9; clear c9
      by_cases c10 : x18_1 < (t102.length : Int)
      ·rw [if_pos c10] at H
       have c10b0 := decide_eq_true c10; clear c10
       by_cases c11 : 0 ≤ (rd t102 x18_1)
       ·rw [if_pos c11] at H
        have c11b0 := decide_eq_true c11; clear c11
        by_cases c12 : (rd t102 x18_1) < (l0.length : Int)
        ·rw [if_pos c12] at H
         have c12b0 := decide_eq_true c12; clear c12; obtain ⟨ji13, hji13⟩ : ∃ j_ : Int, (wrap64 (x18_1 + 1)) = j_ := ⟨_, rfl⟩; (first | rw [hji13] at H | simp only [hji13] at H)
         have hji13w : (IntKind.i64.wrap (x18_1 + 1)) = ji13 := (i64_w _).trans hji13
         by_cases c14 : 0 ≤ (ji13)
         ·rw [if_pos c14] at H
          have c14b0 := eq_true c14; have c14b1 := decide_eq_true c14; clear c14
          by_cases c15 : (ji13) ≤ (t102.length : Int)
          ·rw [if_pos c15] at H
           have c15b0 := eq_true c15; have c15b1 := decide_eq_true c15; clear c15; obtain ⟨y108, hy108⟩ : ∃ y_ : List Int, y_ = (t102.drop ((ji13) : Int).toNat) := ⟨_, rfl⟩; (first | replace H := qsb hy108 H | rw [← hy108] at H)
           have Ny108 := qO hy108; clear hy108; replace H := Option.bind_eq_some_iff.mp H; obtain ⟨t112, A160, H⟩ := H; have A16 := qO A160; clear A160
           by_cases c17 : t112 = true
           ·subst c17
            rw [if_pos rfl] at H; simp only [Option.some.injEq, Prod.mk.injEq] at H; obtain ⟨rfl, rfl⟩ := H; have p105 : 0 ≤ (x18_1 : Int) := qT qa2; have q105 : x18_1 < (t102.length : Int) := qT qa2; obtain ⟨ad105, e105, hx105_0⟩ := Kd.at_int (Kd.R_reads' HO_16.out).2.2 x18_1 p105 q105
            cases e105
            replace p105 := eq_true p105; replace q105 := eq_true q105; have p106 : 0 ≤ ((rd t102 x18_1) : Int) := qT qa2; have q106 : (rd t102 x18_1) < (l0.length : Int) := qT qa2; obtain ⟨ad106, A106_5, c106_5, A106_6, c106_6, e106, hx106_0, hx106_1, hx106_2, hx106_3, hx106_4, hx106_5, hx106_6, hx106_7, hl106_5, hi106_5, hl106_6, hi106_6⟩ := at_T115 HR0.out (rd t102 x18_1) p106 q106
            cases e106
            replace hx106_0 := (HB.out.cell (qL w _ hx106_0)).trans hx106_0; replace hx106_1 := (HB.out.cell (qL w _ hx106_1)).trans hx106_1; replace hx106_2 := (HB.out.cell (qL w _ hx106_2)).trans hx106_2; replace hx106_3 := (HB.out.cell (qL w _ hx106_3)).trans hx106_3; replace hx106_4 := (HB.out.cell (qL w _ hx106_4)).trans hx106_4; replace hx106_5 := (HB.out.cell (qL w _ hx106_5)).trans hx106_5; replace hx106_6 := (HB.out.cell (qL w _ hx106_6)).trans hx106_6; replace hx106_7 := (HB.out.cell (qL w _ hx106_7)).trans hx106_7; have HR106_5 := qO hi106_5; have HC106_5 := qO hl106_5; clear hi106_5 hl106_5; have HR106_6 := qO hi106_6; have HC106_6 := qO hl106_6; clear hi106_6 hl106_6; replace p106 := eq_true p106; replace q106 := eq_true q106
            go_wp2_with (first | ((with_reducible refine gate_dst (N := 8) rfl ?_); refine qX 8 #[.int .i64 0] 3 ?_; intro gb107 hg w18 hbox hb; have hx_ := qHX HB hb qa0; have NEgb107 : Aside0 (∀ k, ((.slice (some ad105) t102.length co7) : Value).ownBlock = some k → k ≠ gb107) := ⟨fun k hk => by have h_ := Kd.R_lt HO_5.out k hk; first | omega | (rw [hg]; exact Nat.ne_of_lt h_)⟩; have BK107 := qO (hbox); have GW107 := qO ((qa3 : w.heap.size ≤ gb107)); have GE107 := GW107; replace HO_5 := qO (Kd.R_below (qrR HO_5.out) hb); replace HO_16 := qO (Kd.R_below (qrR HO_16.out) hb); replace HB := qO (below_step (below_step HB.out hx_) hb); clear hx_ hb hbox hg; have hcz19_0 := qc0 BK107.out; have hfz19_0 := blk_frozen BK107.out 0) | ((with_reducible refine gate_store (t := 3) (p := 8) rfl ?_); refine store_event (t := 3) (p := 8) (v := ?vo_w20) (w1 := (w18.setCell ⟨gb107, 0, none⟩ (.int .i64 ((rd_T115 l0 (rd t102 x18_1)).f3)))) ?hg ?ho ?hn ?hr ?_; (case ho => rfl); (case hg => rfl); (case hn => rfl); (case hr => exact qa21); intro w20 hw; replace HO_5 : Aside0 (Kd.R (Kd.int .i64) 3 w20 w.heap.size (fun _ => True) (.slice (some ad105) t102.length co7) t102) := ⟨qa19⟩; replace HO_16 : Aside0 (Kd.R (Kd.int .i64) 3 w20 w.heap.size (fun _ => True) (.slice (some ad105) t102.length co7) t102) := ⟨qa18⟩; replace BK107 : Aside0 (w20.heap[gb107]? = some (.cells #[.int .i64 ((rd_T115 l0 (rd t102 x18_1)).f3)] 3 (0, 0))) := ⟨(by rw [hw]; exact (qU BK107.out))⟩; replace HB : Aside0 (Below w.heap.size w w20) := ⟨(by rw [hw]; exact (qH HB.out))⟩; clear hw; have q21 : ((ji13) : Int) ≤ ((t102.length : Int) : Int) := qT qa2; obtain ⟨i021, hi021, _, hsz21, _⟩ := info_parts info3; have hroom21 : t102.length ≤ co7 := (Kd.R_reads' HO_5.out).2.1; have hC21 : Kd.C (Kd.int .i64) _ (some ad105) t102.length t102 := (Kd.R_reads' HO_5.out).2.2; have q021 : (0 : Int) ≤ ((ji13) : Int) := qT qa2; have hcut21 := cut_from (P := Try.prog) 53 3 .i64 Try.underlying53 hi021 1 hsz21 (some ad105) t102.length co7 (ji13) q021 q21; have hr21 := Kd.C_drop (m := ((ji13) : Int).toNat) (c := co7) hC21 qa5 hroom21; obtain ⟨A21, hA21⟩ : ∃ A1, A1 = (if co7 = ((ji13) : Int).toNat then (some ad105) else ((some ad105) : Option Addr).map (·.add (((ji13) : Int).toNat * 1))) := ⟨_, rfl⟩; obtain ⟨c21, hc21⟩ : ∃ c1, c1 = co7 - ((ji13) : Int).toNat := ⟨_, rfl⟩; have hy21 : y108.length = t102.length - ((ji13) : Int).toNat := (by rw [Ny108.out, List.length_drop] <;> omega); rw [show (t102).drop ((ji13) : Int).toNat = y108 from Ny108.out.symm] at hr21; replace hr21 : Kd.C (Kd.int .i64) _ A21 y108.length y108 := (by rw [hA21]; exact hr21); rw [← hy21, ← hA21, ← hc21] at hcut21; have HR111 := qO hr21; have HC111 := qO (show y108.length ≤ c21 from by rw [hy21, hc21]; exact Nat.sub_le_sub_right hroom21 _); clear hr21 hC21 hroom21 hi021 hsz21 hc21; have KY21 := qO hy21; have KA21 := qO hA21; clear hy21 hA21; have KL21 := qO (show ((ji13) : Int).toNat ≤ t102.length from by omega); replace q21 := eq_true q21; have hcz22_0 := qc0 BK107.out; have hfz22_0 := blk_frozen BK107.out 0) | ((with_reducible refine gate_callee (f := 89) rfl ?_); refine qGL 33 Try.func89 #[.slice A21 y108.length c21, .func (.func 90) #[] #[.pointer (some ⟨gb107, 0, none⟩)]] ?_; (with_reducible refine (clo89_90.calls _ _ y108 ((rd_T115 l0 (rd t102 x18_1)).f3) true _ ?side1 ?side2 A16.out gb107 (qk BK107.out)).mono ?_); (case side1 => exact qa16); (case side2 => exact HC111.out); rintro e w23 ⟨rfl, hb⟩; have hx_ := qHX HB hb qa0; refine ⟨_, rfl, ?_⟩; replace HO_5 := qO (Kd.R_below (qrR HO_5.out) hb); replace HO_16 := qO (Kd.R_below (qrR HO_16.out) hb); replace BK107 := qO (qB BK107.out hx_ hb); replace HR111 := qO (Kd.C_below qa17 hb); replace HB := qO (below_step (below_step HB.out hx_) hb); clear hx_ hb))
            go_ret2
            exact ⟨by first | rfl | (simp [errW_none, errW_some] <;> rfl) | (simp only [← hji13]; first | rfl | (simp [errW_none, errW_some] <;> rfl)) | (simp [*, errW_none, errW_some] <;> rfl), qH HB.out⟩
           ·replace c17 := Bool.eq_false_iff.mpr c17
            subst c17; rw [qfn] at H; have H' := qO H; clear H; have p105 : 0 ≤ (x18_1 : Int) := qT qa2; have q105 : x18_1 < (t102.length : Int) := qT qa2; obtain ⟨ad105, e105, hx105_0⟩ := Kd.at_int (Kd.R_reads' HO_16.out).2.2 x18_1 p105 q105
            cases e105
            replace p105 := eq_true p105; replace q105 := eq_true q105; have p106 : 0 ≤ ((rd t102 x18_1) : Int) := qT qa2; have q106 : (rd t102 x18_1) < (l0.length : Int) := qT qa2; obtain ⟨ad106, A106_5, c106_5, A106_6, c106_6, e106, hx106_0, hx106_1, hx106_2, hx106_3, hx106_4, hx106_5, hx106_6, hx106_7, hl106_5, hi106_5, hl106_6, hi106_6⟩ := at_T115 HR0.out (rd t102 x18_1) p106 q106
            cases e106
            replace hx106_0 := (HB.out.cell (qL w _ hx106_0)).trans hx106_0; replace hx106_1 := (HB.out.cell (qL w _ hx106_1)).trans hx106_1; replace hx106_2 := (HB.out.cell (qL w _ hx106_2)).trans hx106_2; replace hx106_3 := (HB.out.cell (qL w _ hx106_3)).trans hx106_3; replace hx106_4 := (HB.out.cell (qL w _ hx106_4)).trans hx106_4; replace hx106_5 := (HB.out.cell (qL w _ hx106_5)).trans hx106_5; replace hx106_6 := (HB.out.cell (qL w _ hx106_6)).trans hx106_6; replace hx106_7 := (HB.out.cell (qL w _ hx106_7)).trans hx106_7; have HR106_5 := qO hi106_5; have HC106_5 := qO hl106_5; clear hi106_5 hl106_5; have HR106_6 := qO hi106_6; have HC106_6 := qO hl106_6; clear hi106_6 hl106_6; replace p106 := eq_true p106; replace q106 := eq_true q106
            go_wp2_with (first | ((with_reducible refine gate_dst (N := 8) rfl ?_); refine qX 8 #[.int .i64 0] 3 ?_; intro gb107 hg w24 hbox hb; have hx_ := qHX HB hb qa0; have NEgb107 : Aside0 (∀ k, ((.slice (some ad105) t102.length co7) : Value).ownBlock = some k → k ≠ gb107) := ⟨fun k hk => by have h_ := Kd.R_lt HO_5.out k hk; first | omega | (rw [hg]; exact Nat.ne_of_lt h_)⟩; have BK107 := qO (hbox); have GW107 := qO ((qa3 : w.heap.size ≤ gb107)); have GE107 := GW107; replace HO_5 := qO (Kd.R_below (qrR HO_5.out) hb); replace HO_16 := qO (Kd.R_below (qrR HO_16.out) hb); replace HB := qO (below_step (below_step HB.out hx_) hb); clear hx_ hb hbox hg; have hcz25_0 := qc0 BK107.out; have hfz25_0 := blk_frozen BK107.out 0) | ((with_reducible refine gate_store (t := 3) (p := 8) rfl ?_); refine store_event (t := 3) (p := 8) (v := ?vo_w26) (w1 := (w24.setCell ⟨gb107, 0, none⟩ (.int .i64 ((rd_T115 l0 (rd t102 x18_1)).f3)))) ?hg ?ho ?hn ?hr ?_; (case ho => rfl); (case hg => rfl); (case hn => rfl); (case hr => exact qa21); intro w26 hw; replace HO_5 : Aside0 (Kd.R (Kd.int .i64) 3 w26 w.heap.size (fun _ => True) (.slice (some ad105) t102.length co7) t102) := ⟨qa19⟩; replace HO_16 : Aside0 (Kd.R (Kd.int .i64) 3 w26 w.heap.size (fun _ => True) (.slice (some ad105) t102.length co7) t102) := ⟨qa18⟩; replace BK107 : Aside0 (w26.heap[gb107]? = some (.cells #[.int .i64 ((rd_T115 l0 (rd t102 x18_1)).f3)] 3 (0, 0))) := ⟨(by rw [hw]; exact (qU BK107.out))⟩; replace HB : Aside0 (Below w.heap.size w w26) := ⟨(by rw [hw]; exact (qH HB.out))⟩; clear hw; have q27 : ((ji13) : Int) ≤ ((t102.length : Int) : Int) := qT qa2; obtain ⟨i027, hi027, _, hsz27, _⟩ := info_parts info3; have hroom27 : t102.length ≤ co7 := (Kd.R_reads' HO_5.out).2.1; have hC27 : Kd.C (Kd.int .i64) _ (some ad105) t102.length t102 := (Kd.R_reads' HO_5.out).2.2; have q027 : (0 : Int) ≤ ((ji13) : Int) := qT qa2; have hcut27 := cut_from (P := Try.prog) 53 3 .i64 Try.underlying53 hi027 1 hsz27 (some ad105) t102.length co7 (ji13) q027 q27; have hr27 := Kd.C_drop (m := ((ji13) : Int).toNat) (c := co7) hC27 qa5 hroom27; obtain ⟨A27, hA27⟩ : ∃ A1, A1 = (if co7 = ((ji13) : Int).toNat then (some ad105) else ((some ad105) : Option Addr).map (·.add (((ji13) : Int).toNat * 1))) := ⟨_, rfl⟩; obtain ⟨c27, hc27⟩ : ∃ c1, c1 = co7 - ((ji13) : Int).toNat := ⟨_, rfl⟩; have hy27 : y108.length = t102.length - ((ji13) : Int).toNat := (by rw [Ny108.out, List.length_drop] <;> omega); rw [show (t102).drop ((ji13) : Int).toNat = y108 from Ny108.out.symm] at hr27; replace hr27 : Kd.C (Kd.int .i64) _ A27 y108.length y108 := (by rw [hA27]; exact hr27); rw [← hy27, ← hA27, ← hc27] at hcut27; have HR111 := qO hr27; have HC111 := qO (show y108.length ≤ c27 from by rw [hy27, hc27]; exact Nat.sub_le_sub_right hroom27 _); clear hr27 hC27 hroom27 hi027 hsz27 hc27; have KY27 := qO hy27; have KA27 := qO hA27; clear hy27 hA27; have KL27 := qO (show ((ji13) : Int).toNat ≤ t102.length from by omega); replace q27 := eq_true q27; have hcz28_0 := qc0 BK107.out; have hfz28_0 := blk_frozen BK107.out 0) | ((with_reducible refine gate_callee (f := 89) rfl ?_); refine qGL 33 Try.func89 #[.slice A27 y108.length c27, .func (.func 90) #[] #[.pointer (some ⟨gb107, 0, none⟩)]] ?_; (with_reducible refine (clo89_90.calls _ _ y108 ((rd_T115 l0 (rd t102 x18_1)).f3) false _ ?side1 ?side2 A16.out gb107 (qk BK107.out)).mono ?_); (case side1 => exact qa16); (case side2 => exact HC111.out); rintro e w29 ⟨rfl, hb⟩; have hx_ := qHX HB hb qa0; refine ⟨_, rfl, ?_⟩; replace HO_5 := qO (Kd.R_below (qrR HO_5.out) hb); replace HO_16 := qO (Kd.R_below (qrR HO_16.out) hb); replace BK107 := qO (qB BK107.out hx_ hb); replace HR111 := qO (Kd.C_below qa17 hb); replace HB := qO (below_step (below_step HB.out hx_) hb); clear hx_ hb))
            go_roundg k1
            case measure => have := HK1.out; omega
            case rel => exact ⟨(ji13), (by first | rfl | (simp; done) | (simp only [← hji13] <;> (first | rfl | simp)) | (simp [*]; done)), H', ⟨qa9⟩, ⟨qrR HO_5.out⟩, ⟨qrR HO_16.out⟩, ⟨qH HB.out⟩⟩
          ·rw [if_neg c15] at H
           exact absurd H qa12
         ·rw [if_neg c14] at H
          exact absurd H qa12
        ·rw [if_neg c12] at H
         exact absurd H qa12
       ·rw [if_neg c11] at H
        exact absurd H qa12
      ·rw [if_neg c10] at H
       exact absurd H qa12
     ·rw [if_neg c9] at H
      exact absurd H qa12
    ·rw [if_neg c8] at H
     have c8b0 := decide_eq_false c8; clear c8; simp only [Option.some.injEq, Prod.mk.injEq] at H; obtain ⟨rfl, rfl⟩ := H; go_wp2
     go_ret2
     exact ⟨qa1, qH HB.out⟩
 ·rw [if_neg c3] at H
  have c3b0 := beq_eq_false_iff_ne.mpr c3; have c3b1 := bne_iff_ne.mpr c3; simp only [Option.some.injEq, Prod.mk.injEq] at H; obtain ⟨rfl, rfl⟩ := H
  go_enter Try.func43, Try.ntmps43
  go_wp2_with (first | ((with_reducible refine gate_callee (f := 72) rfl ?_); refine qGL 10 Try.func72 #[.slice A0 l0.length c0] ?_; (with_reducible refine (impl_historyCode.calls k _ _ l0 t101 _ ?side1 ?side2 A2.out).mono ?_); (case side1 => exact qa63); (case side2 => exact HC0.out); rintro e w30 ⟨rfl, hb⟩; have hx_ := qHX HB hb qa0; refine ⟨_, rfl, ?_⟩; replace HB := qO (below_step (below_step HB.out hx_) hb); clear hx_ hb))
  go_ret2
  exact ⟨qa1, qH HB.out⟩
set_option maxHeartbeats 8000000
set_option maxRecDepth 100000
def laws_FnExactRealTime.j0 : Nat → List (S106) → List (S115) → Bool → Option (Bool)
 | 0, _, _, _ => none
 | k + 1, x0, x6, x34 => if x34 = true then (none) else ((laws_toDoneS.f k x0).bind fun t112 => ((laws_eqDoneS.f k x6 t112).bind fun t115 => (if t115 = true then (some true) else (none))))
def laws_FnExactRealTime.f (k : Nat) (l0 : List (S106)) : Option (Bool) := (laws_szDoneS.f k l0 1048576).bind fun t101 => (if t101 < 0 then (some true) else ((laws_toDoneS.f k l0).bind fun t102 => ((spec_RealTime.f k t102).bind fun bt105 => ((laws_toDoneS.f k l0).bind fun t107 => ((impl_RealTime.f k t107).bind fun bt110 => (if (bt110.1 != bt105.1) = true then (laws_FnExactRealTime.j0 k l0 t107 true) else (laws_FnExactRealTime.j0 k l0 t107 (bt110.2 != bt105.2))))))))
theorem laws_FnExactRealTime.calls (k : Nat) (A0 : Option Addr) (c0 : Nat) (l0 : List (S106)) (r : Bool) (w : World) (hr0 : Kd.C k106 w A0 l0.length l0) (hc0 : l0.length ≤ c0) (h : laws_FnExactRealTime.f k l0 = some r) :
  Calls Try.prog 9 #[.slice A0 l0.length c0] w fun e w' => e = .returned (.bool r) ∧ Below w.heap.size w w' := by
 have HR0 := qO hr0; have HC0 := qO hc0; clear hr0 hc0; have HB := qO (Below.refl w.heap.size w); have H : ((laws_szDoneS.f k l0 1048576).bind fun t101 => (if t101 < 0 then (some true) else ((laws_toDoneS.f k l0).bind fun t102 => ((spec_RealTime.f k t102).bind fun bt105 => ((laws_toDoneS.f k l0).bind fun t107 => ((impl_RealTime.f k t107).bind fun bt110 => (if (bt110.1 != bt105.1) = true then (laws_FnExactRealTime.j0 k l0 t107 true) else (laws_FnExactRealTime.j0 k l0 t107 (bt110.2 != bt105.2))))))))) = some r := h; clear h; replace H := Option.bind_eq_some_iff.mp H; obtain ⟨t101, A20, H⟩ := H; have A2 := qO A20; clear A20
 by_cases c3 : t101 < 0
 ·rw [if_pos c3] at H
  have c3b0 := decide_eq_true c3; clear c3; obtain rfl := Option.some.inj H
  go_enter Try.func9, Try.ntmps9
  go_wp2_with (first | ((with_reducible refine gate_callee (f := 28) rfl ?_); refine qGL 11 Try.func28 #[.slice A0 l0.length c0, .int .i64 1048576] ?_; (with_reducible refine (laws_szDoneS.calls k _ _ l0 1048576 t101 _ ?side1 ?side2 A2.out).mono ?_); (case side1 => exact qa63); (case side2 => exact HC0.out); rintro e w4 ⟨rfl, hb⟩; have hx_ := qHX HB hb qa0; refine ⟨_, rfl, ?_⟩; replace HB := qO (below_step (below_step HB.out hx_) hb); clear hx_ hb))
  go_ret
  exact ⟨qa1, qH HB.out⟩
 ·rw [if_neg c3] at H
  have c3b0 := decide_eq_false c3; clear c3; replace H := Option.bind_eq_some_iff.mp H; obtain ⟨t102, A50, H⟩ := H; have A5 := qO A50; clear A50; replace H := Option.bind_eq_some_iff.mp H; obtain ⟨⟨t105, t106⟩, A60, H⟩ := H; replace H : ((laws_toDoneS.f k l0).bind fun t107 => ((impl_RealTime.f k t107).bind fun bt110 => (if (bt110.1 != t105) = true then (laws_FnExactRealTime.j0 k l0 t107 true) else (laws_FnExactRealTime.j0 k l0 t107 (bt110.2 != t106))))) = some r := H; have A6 := qO A60; clear A60; replace H := Option.bind_eq_some_iff.mp H; obtain ⟨t107, A70, H⟩ := H; have A7 := qO A70; clear A70; replace H := Option.bind_eq_some_iff.mp H; obtain ⟨⟨t110, t111⟩, A80, H⟩ := H; replace H : (if (t110 != t105) = true then (laws_FnExactRealTime.j0 k l0 t107 true) else (laws_FnExactRealTime.j0 k l0 t107 (t111 != t106))) = some r := H; have A8 := qO A80; clear A80; have HC9 := qO H; clear H
  go_enter Try.func9, Try.ntmps9
  go_upto_region 8 with (first | ((with_reducible refine gate_callee (f := 28) rfl ?_); refine qGL 11 Try.func28 #[.slice A0 l0.length c0, .int .i64 1048576] ?_; (with_reducible refine (laws_szDoneS.calls k _ _ l0 1048576 t101 _ ?side1 ?side2 A2.out).mono ?_); (case side1 => exact qa63); (case side2 => exact HC0.out); rintro e w10 ⟨rfl, hb⟩; refine ⟨_, rfl, ?_⟩; replace HB := qO (below_step (qH HB.out) hb); clear hb) | ((with_reducible refine gate_callee (f := 30) rfl ?_); refine qGL 16 Try.func30 #[.slice A0 l0.length c0] ?_; (with_reducible refine (laws_toDoneS.calls k _ _ l0 t102 _ ?side1 ?side2 A5.out).mono ?_); (case side1 => exact qa26); (case side2 => exact HC0.out); rintro e w11 ⟨v103, rfl, ho0, hb⟩; refine ⟨_, rfl, ?_⟩; have HO104 := qO (Kd.R_lower ho0 (below_size (qH HB.out))); replace HB := qO (below_step (qH HB.out) hb); clear hb ho0; obtain ⟨Ao12, co12, eo12⟩ := Kd.R_slice HO104.out; subst eo12) | ((with_reducible refine gate_callee (f := 42) rfl ?_); refine qGL 17 Try.func42 #[.slice Ao12 t102.length co12] ?_; (with_reducible refine (spec_RealTime.calls k _ _ t102 t105 t106 _ ?side1 ?side2 A6.out).mono ?_); (case side1 => exact qkC ((Kd.R_reads' HO104.out).2.2)); (case side2 => exact (Kd.R_reads' HO104.out).2.1); rintro e w13 ⟨rfl, hb⟩; refine ⟨_, rfl, ?_⟩; replace HO104 := qO (Kd.R_below (qrR HO104.out) hb); replace HB := qO (below_step (qH HB.out) hb); clear hb) | ((with_reducible refine gate_callee (f := 30) rfl ?_); refine qGL 21 Try.func30 #[.slice A0 l0.length c0] ?_; (with_reducible refine (laws_toDoneS.calls k _ _ l0 t107 _ ?side1 ?side2 A7.out).mono ?_); (case side1 => exact qa26); (case side2 => exact HC0.out); rintro e w14 ⟨v108, rfl, ho0, hb⟩; refine ⟨_, rfl, ?_⟩; have HO109 := qO (Kd.R_lower (Kd.R_new' ho0 (Kd.R_lt (qrR HO104.out))) (below_size (qH HB.out))); replace HO104 := qO (Kd.R_elder' (qrR HO104.out) (Kd.R_base ho0) hb); replace HB := qO (below_step (qH HB.out) hb); clear hb ho0; obtain ⟨Ao15, co15, eo15⟩ := Kd.R_slice HO109.out; subst eo15) | ((with_reducible refine gate_callee (f := 43) rfl ?_); refine qGL 24 Try.func43 #[.slice Ao15 t107.length co15] ?_; (with_reducible refine (impl_RealTime.calls k _ _ t107 t110 t111 _ ?side1 ?side2 A8.out).mono ?_); (case side1 => exact qkC ((Kd.R_reads' HO109.out).2.2)); (case side2 => exact (Kd.R_reads' HO109.out).2.1); rintro e w16 ⟨rfl, hb⟩; refine ⟨_, rfl, ?_⟩; replace HO104 := qO (Kd.R_below (qrR HO104.out) hb); replace HO109 := qO (Kd.R_below (qrR HO109.out) hb); replace HB := qO (below_step (qH HB.out) hb); clear hb))
  (try simp only [Act.put, qzA, qzB, qzC])
  go_cut [34] (fun v34 wc => ∃ (kq : Nat) (x34_8 : Bool), v34 = .bool x34_8 ∧ Aside0 (laws_FnExactRealTime.j0 kq l0 t107 x34_8 = some r) ∧ Aside0 (kq ≤ k) ∧ Aside0 (Kd.R k115 115 wc w.heap.size (fun _ => True) (.slice Ao15 t107.length co15) t107) ∧ Aside0 (Below w.heap.size w wc))
  case first =>
   have H := HC9.out; clear HC9
   by_cases c17 : (t110 != t105) = true
   ·rw [if_pos c17] at H
    have c17b0 : (t110 != t105) = true := c17; (try (have c17b1 : decide (t110 = t105) = false := by simpa using c17)); (try (have c17b2 : (t110 == t105) = false := by simpa using c17)); (try (have c17b3 : ¬ (t110 = t105) := by simpa using c17)); clear c17; (first | rw [c17b0] | (simp only [i64_w, i32_w]; rw [c17b0]) | skip); have H' := qO H; clear H; go_wp2
    go_meet
    case rel => exact ⟨_, (true), qa4, H', ⟨qa43⟩, ⟨qrR (Kd.R_mono HO109.out (fun _ hk => trivial))⟩, ⟨qH HB.out⟩⟩
   ·rw [if_neg c17] at H
    have c17b0 : (t110 != t105) = false := by simpa using c17
    (try (have c17b1 : decide (t110 = t105) = true := by simpa using c17)); (try (have c17b2 : (t110 == t105) = true := by simpa using c17)); clear c17; (first | rw [c17b0] | (simp only [i64_w, i32_w]; rw [c17b0]) | skip); have H' := qO H; clear H; go_wp2
    go_meet
    case rel => exact ⟨_, ((t111 != t106)), qa4, H', ⟨qa43⟩, ⟨qrR (Kd.R_mono HO109.out (fun _ hk => trivial))⟩, ⟨qH HB.out⟩⟩
  case rest =>
   clear HC9
   obtain ⟨kq, x34_8, rfl, HA, HJ8, HO_6, HB⟩ := hcut
   cases kq with
   | zero => exact absurd HA.out (by simp [laws_FnExactRealTime.j0])
   | succ kj8 =>
    have H := HA.out; clear HA; simp only [laws_FnExactRealTime.j0] at H
    by_cases c18 : x34_8 = true
    ·subst c18
     rw [if_pos rfl] at H
     exact absurd H qa12
    ·replace c18 := Bool.eq_false_iff.mpr c18
     subst c18; rw [qfn] at H; replace H := Option.bind_eq_some_iff.mp H; obtain ⟨t112, A190, H⟩ := H; have A19 := qO A190; clear A190; replace H := Option.bind_eq_some_iff.mp H; obtain ⟨t115, A200, H⟩ := H; have A20 := qO A200; clear A200
     by_cases c21 : t115 = true
     ·subst c21
      rw [if_pos rfl] at H; obtain rfl := Option.some.inj H
      go_wp2_with (first | ((with_reducible refine gate_callee (f := 30) rfl ?_); refine qGL 37 Try.func30 #[.slice A0 l0.length c0] ?_; (with_reducible refine (laws_toDoneS.calls kj8 _ _ l0 t112 _ ?side1 ?side2 A19.out).mono ?_); (case side1 => exact qa26); (case side2 => exact HC0.out); rintro e w22 ⟨v113, rfl, ho0, hb⟩; have hx_ := qHX HB hb qa0; refine ⟨_, rfl, ?_⟩; have HO114 := qO (Kd.R_lower (Kd.R_new' ho0 (Kd.R_lt (qrR HO_6.out))) (below_size (below_step HB.out hx_))); replace HO_6 := qO (Kd.R_elder' (qrR HO_6.out) (Kd.R_base ho0) hb); replace HB := qO (below_step (below_step HB.out hx_) hb); clear hx_ hb ho0; obtain ⟨Ao23, co23, eo23⟩ := Kd.R_slice HO114.out; subst eo23) | ((with_reducible refine gate_callee (f := 33) rfl ?_); refine qGL 38 Try.func33 #[.slice Ao15 t107.length co15, .slice Ao23 t112.length co23] ?_; (with_reducible refine (laws_eqDoneS.calls kj8 _ _ t107 _ _ t112 true _ ?side1 ?side2 ?side3 ?side4 A20.out).mono ?_); (case side1 => exact qkC ((Kd.R_reads' HO_6.out).2.2)); (case side2 => exact (Kd.R_reads' HO_6.out).2.1); (case side3 => exact qkC ((Kd.R_reads' HO114.out).2.2)); (case side4 => exact (Kd.R_reads' HO114.out).2.1); rintro e w24 ⟨rfl, hb⟩; have hx_ := qHX HB hb qa0; refine ⟨_, rfl, ?_⟩; replace HO_6 := qO (Kd.R_below (qrR HO_6.out) hb); replace HO114 := qO (Kd.R_below (qrR HO114.out) hb); replace HB := qO (below_step (below_step HB.out hx_) hb); clear hx_ hb))
      go_ret
      exact ⟨qa1, qH HB.out⟩
     ·replace c21 := Bool.eq_false_iff.mpr c21
      subst c21; rw [qfn] at H
      exact absurd H qa12
end Go.Proofs.Ytfpkooafbeejmaa.Q
namespace Go.Proofs.Ytfpkooafbeejmaa.Q
open Go.RowKit Go.Proofs.YtfpkooafbeejmaaW.PrintWords Go.Proofs.Ytfpkooafbeejmaa.Opens
set_option linter.unusedVariables false
def i30 (x : S30) : Prop := (Lit.int .i64 x.f0).wf = true ∧ (Lit.int .i64 x.f1).wf = true ∧ x.f2.size ≤ 9223372036854775807
theorem o30 : Opens Try.prog 30 k30 i30 := opens_struct (N := 3) Try.underlying30 qa8 (opensF_cons rfl qa8 (opens_int Try.underlying3) (opensF_cons rfl qa8 (opens_int Try.underlying3) (opensF_one rfl rfl qa8 (opens_string Try.underlying9)))) (fun y => ⟨y.1, y.2.1, y.2.2⟩) (fun _ => rfl)
def i77 (x : S77) : Prop := x.f0.size ≤ 9223372036854775807 ∧ i30 x.f1
theorem o77 : Opens Try.prog 77 k77 i77 := opens_struct (N := 4) Try.underlying77 qa8 (opensF_cons rfl qa8 (opens_string Try.underlying9) (opensF_one rfl rfl qa8 o30)) (fun y => ⟨y.1, y.2⟩) (fun _ => rfl)
def i204 (x : S204) : Prop := x.f0.size ≤ 9223372036854775807 ∧ i30 x.f1
theorem o204 : Opens Try.prog 204 k204 i204 := opens_struct (N := 4) Try.underlying204 qa8 (opensF_cons rfl qa8 (opens_string Try.underlying9) (opensF_one rfl rfl qa8 o30)) (fun y => ⟨y.1, y.2⟩) (fun _ => rfl)
def i207 (x : S207) : Prop := True ∧ i30 x.f1
theorem o207 : Opens Try.prog 207 k207 i207 := opens_struct (N := 4) Try.underlying207 qa8 (opensF_cons rfl qa8 (opens_bool Try.underlying4) (opensF_one rfl rfl qa8 o30)) (fun y => ⟨y.1, y.2⟩) (fun _ => rfl)
def i194n : Nat → S194 → Prop
 | 0 => fun _ => False
 | n + 1 => fun x => (Lit.int .i64 x.f0).wf = true ∧ x.f1.size ≤ 9223372036854775807 ∧ x.f2.size ≤ 9223372036854775807 ∧ (x.f3.length ≤ 9223372036854775807 ∧ ∀ y1_ ∈ x.f3, i204 y1_) ∧ (x.f4.length ≤ 9223372036854775807 ∧ ∀ y1_ ∈ x.f4, i207 y1_) ∧ (x.f5.length ≤ 9223372036854775807 ∧ ∀ y1_ ∈ x.f5, i194n n y1_)
def i194 (x : S194) : Prop := ∃ n, i194n n x
theorem o194n : ∀ m, OpensL m Try.prog 194 (Kd.upto F194 6 [194, 204, 207] m) (i194n m)
 | 0 => opensL_none Try.underlying194
 | m + 1 => opensL_struct (N := 6) Try.underlying194 qa8 (opensFL_cons rfl qa8 (Opens.lim (opens_int Try.underlying3) m) (opensFL_cons rfl qa8 (Opens.lim (opens_string Try.underlying9) m) (opensFL_cons rfl qa8 (Opens.lim (opens_string Try.underlying9) m) (opensFL_cons rfl qa8 (Opens.lim (opens_slice Try.underlying191 qa8 o204) m) (opensFL_cons rfl qa8 (Opens.lim (opens_slice Try.underlying192 qa8 o207) m) (opensFL_one rfl rfl qa8 (opensL_slice Try.underlying181 (by rw [sz194]; kernel_rfl) (o194n m)))))))) (fun y => ⟨y.1, y.2.1, y.2.2.1, y.2.2.2.1, y.2.2.2.2.1, y.2.2.2.2.2⟩) (fun _ => rfl)
theorem o194 : Opens Try.prog 194 k194 i194 := opens_fix o194n
def i183 (x : S183) : Prop := (Lit.int .i64 x.f0).wf = true ∧ x.f1.size ≤ 9223372036854775807 ∧ x.f2.size ≤ 9223372036854775807 ∧ (x.f3.length ≤ 9223372036854775807 ∧ ∀ y1_ ∈ x.f3, i194 y1_)
theorem o183 : Opens Try.prog 183 k183 i183 := opens_struct (N := 4) Try.underlying183 qa8 (opensF_cons rfl qa8 (opens_int Try.underlying3) (opensF_cons rfl qa8 (opens_string Try.underlying9) (opensF_cons rfl qa8 (opens_string Try.underlying9) (opensF_one rfl rfl qa8 (opens_slice Try.underlying181 qa8 o194))))) (fun y => ⟨y.1, y.2.1, y.2.2.1, y.2.2.2⟩) (fun _ => rfl)
def i102 (x : S102) : Prop := (x.f0.length ≤ 9223372036854775807 ∧ ∀ y1_ ∈ x.f0, i183 y1_)
theorem o102 : Opens Try.prog 102 k102 i102 := opens_struct (N := 1) Try.underlying102 qa8 (opensF_one rfl rfl qa8 (opens_slice Try.underlying100 qa8 o183)) (fun y => ⟨y⟩) (fun _ => rfl)
def i104 (x : S104) : Prop := i102 x.f0 ∧ (x.f1.length ≤ 9223372036854775807 ∧ ∀ y1_ ∈ x.f1, i77 y1_)
theorem o104 : Opens Try.prog 104 k104 i104 := opens_struct (N := 2) Try.underlying104 qa8 (opensF_cons rfl qa8 o102 (opensF_one rfl rfl qa8 (opens_slice Try.underlying22 qa8 o77))) (fun y => ⟨y.1, y.2⟩) (fun _ => rfl)
def i106 (x : S106) : Prop := (Lit.int .i64 x.f0).wf = true ∧ (Lit.int .i64 x.f1).wf = true ∧ (Lit.int .i64 x.f2).wf = true ∧ (Lit.int .i64 x.f3).wf = true ∧ True ∧ i104 x.f5 ∧ x.f6.size ≤ 9223372036854775807
theorem o106 : Opens Try.prog 106 k106 i106 := opens_struct (N := 8) Try.underlying106 qa8 (opensF_cons rfl qa8 (opens_int Try.underlying3) (opensF_cons rfl qa8 (opens_int Try.underlying3) (opensF_cons rfl qa8 (opens_int Try.underlying3) (opensF_cons rfl qa8 (opens_int Try.underlying3) (opensF_cons rfl qa8 (opens_bool Try.underlying4) (opensF_cons rfl qa8 o104 (opensF_one rfl rfl qa8 (opens_string Try.underlying9)))))))) (fun y => ⟨y.1, y.2.1, y.2.2.1, y.2.2.2.1, y.2.2.2.2.1, y.2.2.2.2.2.1, y.2.2.2.2.2.2⟩) (fun _ => rfl)
def laws_FnExactRealTime.Pure2 : Prop := ∀ (y0 : List (S106)), (y0.length ≤ 9223372036854775807 ∧ ∀ y1_ ∈ y0, i106 y1_) → ∃ k, laws_FnExactRealTime.f k y0 = some true
end Go.Proofs.Ytfpkooafbeejmaa.Q
namespace Go.Proofs.Ytfpkooafbeejmaa.Q
open Go.RowKit Go.Proofs.YtfpkooafbeejmaaW.PrintWords Go.Proofs.YtfpkooafbeejmaaW.PrintLast Go.Proofs.YtfpkooafbeejmaaW.PrintMore
attribute [local go_sem] max2_int min2_int max_two min_two max_three min_three max_four min_four
set_option linter.unusedVariables false
set_option linter.unusedSimpArgs false
set_option maxHeartbeats 8000000
set_option maxRecDepth 100000
def spec_l00Letter.f (a0 : Int) : Option (Bool) := if a0 ≥ 97 then (if a0 ≤ 122 then (some true) else (if a0 ≥ 65 then (if a0 ≤ 90 then (some true) else (some (a0 == 95))) else (some (a0 == 95)))) else (if a0 ≥ 65 then (if a0 ≤ 90 then (some true) else (some (a0 == 95))) else (some (a0 == 95)))
theorem spec_l00Letter.calls (a0 : Int) (r : Bool) (w : World) (h : spec_l00Letter.f a0 = some r) :
  Calls Try.prog 123 #[.int .u8 a0] w fun e w' => e = .returned (.bool r) ∧ Drawn0 w w' := by
 have H : (if a0 ≥ 97 then (if a0 ≤ 122 then (some true) else (if a0 ≥ 65 then (if a0 ≤ 90 then (some true) else (some (a0 == 95))) else (some (a0 == 95)))) else (if a0 ≥ 65 then (if a0 ≤ 90 then (some true) else (some (a0 == 95))) else (some (a0 == 95)))) = some r := h; clear h
 by_cases c2 : a0 ≥ 97
 ·rw [if_pos c2] at H
  have c2b0 := qge c2; clear c2
  by_cases c3 : a0 ≤ 122
  ·rw [if_pos c3] at H
   have c3b0 := decide_eq_true c3; clear c3; obtain rfl := Option.some.inj H
   go_enter Try.func123, Try.ntmps123
   go_wp2
   go_ret
   exact ⟨qa4, qa6⟩
  ·rw [if_neg c3] at H
   have c3b0 := decide_eq_false c3; clear c3
   by_cases c4 : a0 ≥ 65
   ·rw [if_pos c4] at H
    have c4b0 := qge c4; clear c4
    by_cases c5 : a0 ≤ 90
    ·rw [if_pos c5] at H
     have c5b0 := decide_eq_true c5; clear c5; obtain rfl := Option.some.inj H
     go_enter Try.func123, Try.ntmps123
     go_wp2
     go_ret
     exact ⟨qa4, qa6⟩
    ·rw [if_neg c5] at H
     have c5b0 := decide_eq_false c5; clear c5; obtain rfl := Option.some.inj H
     go_enter Try.func123, Try.ntmps123
     go_wp2
     go_ret
     exact ⟨qa4, qa6⟩
   ·rw [if_neg c4] at H
    have c4b0 := qnge c4; clear c4; obtain rfl := Option.some.inj H
    go_enter Try.func123, Try.ntmps123
    go_wp2
    go_ret
    exact ⟨qa4, qa6⟩
 ·rw [if_neg c2] at H
  have c2b0 := qnge c2; clear c2
  by_cases c6 : a0 ≥ 65
  ·rw [if_pos c6] at H
   have c6b0 := qge c6; clear c6
   by_cases c7 : a0 ≤ 90
   ·rw [if_pos c7] at H
    have c7b0 := decide_eq_true c7; clear c7; obtain rfl := Option.some.inj H
    go_enter Try.func123, Try.ntmps123
    go_wp2
    go_ret
    exact ⟨qa4, qa6⟩
   ·rw [if_neg c7] at H
    have c7b0 := decide_eq_false c7; clear c7; obtain rfl := Option.some.inj H
    go_enter Try.func123, Try.ntmps123
    go_wp2
    go_ret
    exact ⟨qa4, qa6⟩
  ·rw [if_neg c6] at H
   have c6b0 := qnge c6; clear c6; obtain rfl := Option.some.inj H
   go_enter Try.func123, Try.ntmps123
   go_wp2
   go_ret
   exact ⟨qa4, qa6⟩
set_option maxHeartbeats 8000000
set_option maxRecDepth 100000
def spec_l00Digit.f (a0 : Int) : Option (Bool) := if a0 ≥ 48 then (some (decide (a0 ≤ 57))) else (some false)
theorem spec_l00Digit.calls (a0 : Int) (r : Bool) (w : World) (h : spec_l00Digit.f a0 = some r) :
  Calls Try.prog 124 #[.int .u8 a0] w fun e w' => e = .returned (.bool r) ∧ Drawn0 w w' := by
 have H : (if a0 ≥ 48 then (some (decide (a0 ≤ 57))) else (some false)) = some r := h; clear h
 by_cases c2 : a0 ≥ 48
 ·rw [if_pos c2] at H
  have c2b0 := qge c2; clear c2; obtain rfl := Option.some.inj H
  go_enter Try.func124, Try.ntmps124
  go_wp2
  go_ret
  exact ⟨qa4, qa6⟩
 ·rw [if_neg c2] at H
  have c2b0 := qnge c2; clear c2; obtain rfl := Option.some.inj H
  go_enter Try.func124, Try.ntmps124
  go_wp2
  go_ret
  exact ⟨qa4, qa6⟩
set_option maxHeartbeats 8000000
set_option maxRecDepth 100000
mutual
def spec_l00Word.j0 : Nat → ByteArray → Bool → Option (Bool)
 | 0, _, _ => none
 | k + 1, x0, x17 => if x17 = true then (some false) else (spec_l00Word.l0 k x0 1)
def spec_l00Word.l0 : Nat → ByteArray → Int → Option (Bool)
 | 0, _, _ => none
 | k + 1, x0, x3 => if x3 < (x0.size : Int) then (if 0 ≤ x3 then ((spec_l00Letter.f (bt x0 x3)).bind fun t102 => (if t102 = true then (spec_l00Word.l0 k x0 (wrap64 (x3 + 1))) else ((spec_l00Digit.f (bt x0 x3)).bind fun t103 => (if t103 = true then (spec_l00Word.l0 k x0 (wrap64 (x3 + 1))) else (some false))))) else (none)) else (some true)
end
def spec_l00Word.f (k : Nat) (a0 : ByteArray) : Option (Bool) := if (a0.size : Int) < 1 then (spec_l00Word.j0 k a0 true) else (if (a0.size : Int) > 40 then (spec_l00Word.j0 k a0 true) else (if 0 < (a0.size : Int) then ((spec_l00Letter.f (bt a0 0)).bind fun t101 => (spec_l00Word.j0 k a0 (!t101))) else (none)))
theorem spec_l00Word.calls (k : Nat) (a0 : ByteArray) (r : Bool) (w : World) (h : spec_l00Word.f k a0 = some r) :
  Calls Try.prog 92 #[.string a0] w fun e w' => e = .returned (.bool r) ∧ Drawn0 w w' := by
 have H : (if (a0.size : Int) < 1 then (spec_l00Word.j0 k a0 true) else (if (a0.size : Int) > 40 then (spec_l00Word.j0 k a0 true) else (if 0 < (a0.size : Int) then ((spec_l00Letter.f (bt a0 0)).bind fun t101 => (spec_l00Word.j0 k a0 (!t101))) else (none)))) = some r := h; clear h; have HC2 := qO H; clear H
 go_enter Try.func92, Try.ntmps92
 go_upto_region 1 with (fail)
 go_cut [17] (fun v17 wc => ∃ (kq : Nat) (x17_1 : Bool), v17 = .bool x17_1 ∧ Aside0 (spec_l00Word.j0 kq a0 x17_1 = some r) ∧ Aside0 (kq ≤ k) ∧ Drawn0 w wc)
 case first =>
  have H := HC2.out; clear HC2
  by_cases c3 : (a0.size : Int) < 1
  ·rw [if_pos c3] at H
   have c3b0 := decide_eq_true c3; have c3b1 : decide (a0.size < 1) = true := decide_eq_true qa5; clear c3; (first | rw [c3b0] | (simp only [i64_w, i32_w]; rw [c3b0]) | skip); have H' := qO H; clear H; go_wp2
   go_meet
   case rel => exact ⟨_, (true), qa4, H', ⟨qa43⟩, qa6⟩
  ·rw [if_neg c3] at H
   have c3b0 := decide_eq_false c3; have c3b1 : decide (a0.size < 1) = false := decide_eq_false qa5; clear c3; (first | rw [c3b0] | (simp only [i64_w, i32_w]; rw [c3b0]) | skip)
   by_cases c4 : (a0.size : Int) > 40
   ·rw [if_pos c4] at H
    have c4b0 := qgt c4; have c4b1 : decide (40 < a0.size) = true := decide_eq_true qa5; clear c4; have H' := qO H; clear H; go_wp2
    go_meet
    case rel => exact ⟨_, (true), qa4, H', ⟨qa43⟩, qa6⟩
   ·rw [if_neg c4] at H
    have c4b0 := qngt c4; have c4b1 : decide (40 < a0.size) = false := decide_eq_false qa5; clear c4
    by_cases c5 : 0 < (a0.size : Int)
    ·rw [if_pos c5] at H
     have c5b0 := decide_eq_true c5; have c5b1 : decide (0 < a0.size) = true := decide_eq_true qa5; clear c5; replace H := Option.bind_eq_some_iff.mp H; obtain ⟨t101, A70, H⟩ := H; have A7 := qO A70; clear A70; have H' := qO H; clear H; have p6 : 0 ≤ (0 : Int) := qa5; have q6 : 0 < a0.size := (by have : (0 : Int) < (a0.size : Int) := qT qa2; omega); have hx6 : ∀ h : 0 < a0.size, ((a0[0]'h).toNat : Int) = bt a0 0 := bt_at a0 0; clear p6; have qi6 : (0 < (a0.size : Int)) = True := eq_true (qT qa2); replace q6 := eq_true q6
     go_wp2_with (first | (go_at_call 123; (with_reducible refine (spec_l00Letter.calls (bt a0 0) t101 _ A7.out).mono ?_); rintro e w' ⟨rfl, ⟨nd, rfl⟩⟩))
     go_meet
     case rel => exact ⟨_, (!t101), qa4, H', ⟨qa43⟩, qa6⟩
    ·rw [if_neg c5] at H
     exact absurd H qa12
 case rest =>
  clear HC2
  obtain ⟨kq, x17_1, rfl, HA, HJ1, ⟨mc1, rfl⟩⟩ := hcut
  cases kq with
  | zero => exact absurd HA.out (by simp [spec_l00Word.j0])
  | succ kj1 =>
   have H := HA.out; clear HA; simp only [spec_l00Word.j0] at H
   by_cases c8 : x17_1 = true
   ·subst c8
    rw [if_pos rfl] at H; obtain rfl := Option.some.inj H; go_wp2
    go_ret
    exact ⟨qa4, qa6⟩
   ·replace c8 := Bool.eq_false_iff.mpr c8
    subst c8; rw [qfn] at H; have H' := qO H; clear H; go_wp2
    go_loopg [3] kj1 (fun kq v3 w' => ∃ (x3_2 : Int), v3 = .int .i64 x3_2 ∧ Aside0 (spec_l00Word.l0 kq a0 x3_2 = some r) ∧ Aside0 (kq ≤ kj1) ∧ Drawn0 w w')
    case atStart => exact ⟨(1), qa4, H', ⟨Nat.le_refl _⟩, qa6⟩
    case round =>
     clear H'
     obtain ⟨x3_2, rfl, HA, HK2, ⟨m2, rfl⟩⟩ := hrel
     cases gk with
     | zero => exact absurd HA.out (by simp [spec_l00Word.l0])
     | succ k2 =>
      have H := HA.out; clear HA; simp only [spec_l00Word.l0] at H
      by_cases c9 : x3_2 < (a0.size : Int)
      ·rw [if_pos c9] at H
       have c9b0 := decide_eq_true c9; clear c9
       by_cases c10 : 0 ≤ x3_2
       ·rw [if_pos c10] at H
        have c10b0 := decide_eq_true c10; clear c10; replace H := Option.bind_eq_some_iff.mp H; obtain ⟨t102, A120, H⟩ := H; have A12 := qO A120; clear A120
        by_cases c13 : t102 = true
        ·subst c13
         rw [if_pos rfl] at H; have H' := qO H; clear H; have p11 : 0 ≤ (x3_2 : Int) := qT qa2; have q11 : x3_2 < (a0.size : Int) := qT qa2; have hx11 := bt_at a0 x3_2; replace p11 := eq_true p11; replace q11 := eq_true q11
         go_wp2_with (first | ((with_reducible refine gate_callee (f := 123) rfl ?_); refine qGL 27 Try.func123 #[.int .u8 (bt a0 x3_2)] ?_; (with_reducible refine (spec_l00Letter.calls (bt a0 x3_2) true _ A12.out).mono ?_); rintro e w' ⟨rfl, ⟨nd, rfl⟩⟩; refine ⟨_, rfl, ?_⟩))
         go_roundg k2
         case measure => have := HJ1.out; have := HK2.out; omega
         case rel => exact ⟨(wrap64 (x3_2 + 1)), qa4, H', ⟨by have := HJ1.out; have := HK2.out; omega⟩, qa6⟩
        ·replace c13 := Bool.eq_false_iff.mpr c13
         subst c13; rw [qfn] at H; replace H := Option.bind_eq_some_iff.mp H; obtain ⟨t103, A150, H⟩ := H; have A15 := qO A150; clear A150
         by_cases c16 : t103 = true
         ·subst c16
          rw [if_pos rfl] at H; have H' := qO H; clear H; have p11 : 0 ≤ (x3_2 : Int) := qT qa2; have q11 : x3_2 < (a0.size : Int) := qT qa2; have hx11 := bt_at a0 x3_2; replace p11 := eq_true p11; replace q11 := eq_true q11
          go_wp2_with (first | ((with_reducible refine gate_callee (f := 123) rfl ?_); refine qGL 27 Try.func123 #[.int .u8 (bt a0 x3_2)] ?_; (with_reducible refine (spec_l00Letter.calls (bt a0 x3_2) false _ A12.out).mono ?_); rintro e w' ⟨rfl, ⟨nd, rfl⟩⟩; refine ⟨_, rfl, ?_⟩; have p14 : 0 ≤ (x3_2 : Int) := qT qa2; have q14 : x3_2 < (a0.size : Int) := qT qa2; have hx14 := bt_at a0 x3_2; replace p14 := eq_true p14; replace q14 := eq_true q14) | (go_at_call 124; (with_reducible refine (spec_l00Digit.calls (bt a0 x3_2) true _ A15.out).mono ?_); rintro e w' ⟨rfl, ⟨nd, rfl⟩⟩))
          go_roundg k2
          case measure => have := HJ1.out; have := HK2.out; omega
          case rel => exact ⟨(wrap64 (x3_2 + 1)), qa4, H', ⟨by have := HJ1.out; have := HK2.out; omega⟩, qa6⟩
         ·replace c16 := Bool.eq_false_iff.mpr c16
          subst c16; rw [qfn] at H; obtain rfl := Option.some.inj H; have p11 : 0 ≤ (x3_2 : Int) := qT qa2; have q11 : x3_2 < (a0.size : Int) := qT qa2; have hx11 := bt_at a0 x3_2; replace p11 := eq_true p11; replace q11 := eq_true q11
          go_wp2_with (first | ((with_reducible refine gate_callee (f := 123) rfl ?_); refine qGL 27 Try.func123 #[.int .u8 (bt a0 x3_2)] ?_; (with_reducible refine (spec_l00Letter.calls (bt a0 x3_2) false _ A12.out).mono ?_); rintro e w' ⟨rfl, ⟨nd, rfl⟩⟩; refine ⟨_, rfl, ?_⟩; have p14 : 0 ≤ (x3_2 : Int) := qT qa2; have q14 : x3_2 < (a0.size : Int) := qT qa2; have hx14 := bt_at a0 x3_2; replace p14 := eq_true p14; replace q14 := eq_true q14) | (go_at_call 124; (with_reducible refine (spec_l00Digit.calls (bt a0 x3_2) false _ A15.out).mono ?_); rintro e w' ⟨rfl, ⟨nd, rfl⟩⟩))
          go_ret
          exact ⟨qa4, qa6⟩
       ·rw [if_neg c10] at H
        exact absurd H qa12
      ·rw [if_neg c9] at H
       have c9b0 := decide_eq_false c9; clear c9; obtain rfl := Option.some.inj H; go_wp2
       go_ret
       exact ⟨qa4, qa6⟩
set_option maxHeartbeats 8000000
set_option maxRecDepth 100000
def spec_NameOK.f (k : Nat) (a0 : ByteArray) : Option (Bool) := (spec_l00Word.f k a0).bind fun t101 => (some t101)
theorem spec_NameOK.calls (k : Nat) (a0 : ByteArray) (r : Bool) (w : World) (h : spec_NameOK.f k a0 = some r) :
  Calls Try.prog 47 #[.string a0] w fun e w' => e = .returned (.bool r) ∧ Drawn0 w w' := by
 have H : ((spec_l00Word.f k a0).bind fun t101 => (some t101)) = some r := h; clear h; replace H := Option.bind_eq_some_iff.mp H; obtain ⟨t101, A20, H⟩ := H; have A2 := qO A20; clear A20; obtain rfl := Option.some.inj H
 go_enter Try.func47, Try.ntmps47
 go_wp2_with (first | ((with_reducible refine gate_callee (f := 92) rfl ?_); refine qGL 4 Try.func92 #[.string a0] ?_; (with_reducible refine (spec_l00Word.calls k a0 t101 _ A2.out).mono ?_); rintro e w' ⟨rfl, ⟨nd, rfl⟩⟩; refine ⟨_, rfl, ?_⟩))
 go_ret
 exact ⟨qa4, qa6⟩
set_option maxHeartbeats 8000000
set_option maxRecDepth 100000
def impl_isLetter.f (a0 : Int) : Option (Bool) := if a0 ≥ 97 then (if a0 ≤ 122 then (some true) else (if a0 ≥ 65 then (if a0 ≤ 90 then (some true) else (some (a0 == 95))) else (some (a0 == 95)))) else (if a0 ≥ 65 then (if a0 ≤ 90 then (some true) else (some (a0 == 95))) else (some (a0 == 95)))
theorem impl_isLetter.calls (a0 : Int) (r : Bool) (w : World) (h : impl_isLetter.f a0 = some r) :
  Calls Try.prog 96 #[.int .u8 a0] w fun e w' => e = .returned (.bool r) ∧ Drawn0 w w' := by
 have H : (if a0 ≥ 97 then (if a0 ≤ 122 then (some true) else (if a0 ≥ 65 then (if a0 ≤ 90 then (some true) else (some (a0 == 95))) else (some (a0 == 95)))) else (if a0 ≥ 65 then (if a0 ≤ 90 then (some true) else (some (a0 == 95))) else (some (a0 == 95)))) = some r := h; clear h
 by_cases c2 : a0 ≥ 97
 ·rw [if_pos c2] at H
  have c2b0 := qge c2; clear c2
  by_cases c3 : a0 ≤ 122
  ·rw [if_pos c3] at H
   have c3b0 := decide_eq_true c3; clear c3; obtain rfl := Option.some.inj H
   go_enter Try.func96, Try.ntmps96
   go_wp2
   go_ret
   exact ⟨qa4, qa6⟩
  ·rw [if_neg c3] at H
   have c3b0 := decide_eq_false c3; clear c3
   by_cases c4 : a0 ≥ 65
   ·rw [if_pos c4] at H
    have c4b0 := qge c4; clear c4
    by_cases c5 : a0 ≤ 90
    ·rw [if_pos c5] at H
     have c5b0 := decide_eq_true c5; clear c5; obtain rfl := Option.some.inj H
     go_enter Try.func96, Try.ntmps96
     go_wp2
     go_ret
     exact ⟨qa4, qa6⟩
    ·rw [if_neg c5] at H
     have c5b0 := decide_eq_false c5; clear c5; obtain rfl := Option.some.inj H
     go_enter Try.func96, Try.ntmps96
     go_wp2
     go_ret
     exact ⟨qa4, qa6⟩
   ·rw [if_neg c4] at H
    have c4b0 := qnge c4; clear c4; obtain rfl := Option.some.inj H
    go_enter Try.func96, Try.ntmps96
    go_wp2
    go_ret
    exact ⟨qa4, qa6⟩
 ·rw [if_neg c2] at H
  have c2b0 := qnge c2; clear c2
  by_cases c6 : a0 ≥ 65
  ·rw [if_pos c6] at H
   have c6b0 := qge c6; clear c6
   by_cases c7 : a0 ≤ 90
   ·rw [if_pos c7] at H
    have c7b0 := decide_eq_true c7; clear c7; obtain rfl := Option.some.inj H
    go_enter Try.func96, Try.ntmps96
    go_wp2
    go_ret
    exact ⟨qa4, qa6⟩
   ·rw [if_neg c7] at H
    have c7b0 := decide_eq_false c7; clear c7; obtain rfl := Option.some.inj H
    go_enter Try.func96, Try.ntmps96
    go_wp2
    go_ret
    exact ⟨qa4, qa6⟩
  ·rw [if_neg c6] at H
   have c6b0 := qnge c6; clear c6; obtain rfl := Option.some.inj H
   go_enter Try.func96, Try.ntmps96
   go_wp2
   go_ret
   exact ⟨qa4, qa6⟩
set_option maxHeartbeats 8000000
set_option maxRecDepth 100000
def impl_isDigit.f (a0 : Int) : Option (Bool) := if a0 ≥ 48 then (some (decide (a0 ≤ 57))) else (some false)
theorem impl_isDigit.calls (a0 : Int) (r : Bool) (w : World) (h : impl_isDigit.f a0 = some r) :
  Calls Try.prog 97 #[.int .u8 a0] w fun e w' => e = .returned (.bool r) ∧ Drawn0 w w' := by
 have H : (if a0 ≥ 48 then (some (decide (a0 ≤ 57))) else (some false)) = some r := h; clear h
 by_cases c2 : a0 ≥ 48
 ·rw [if_pos c2] at H
  have c2b0 := qge c2; clear c2; obtain rfl := Option.some.inj H
  go_enter Try.func97, Try.ntmps97
  go_wp2
  go_ret
  exact ⟨qa4, qa6⟩
 ·rw [if_neg c2] at H
  have c2b0 := qnge c2; clear c2; obtain rfl := Option.some.inj H
  go_enter Try.func97, Try.ntmps97
  go_wp2
  go_ret
  exact ⟨qa4, qa6⟩
set_option maxHeartbeats 8000000
set_option maxRecDepth 100000
def impl_NameOK.l0 : Nat → ByteArray → Int → Int → Option (Bool)
 | 0, _, _, _ => none
 | k + 1, x0, x5, x6 => if x6 < x5 then (if 0 ≤ x6 then (if x6 < (x0.size : Int) then ((impl_isLetter.f (bt x0 x6)).bind fun t102 => (if t102 = true then (impl_NameOK.l0 k x0 x5 (wrap64 (x6 + 1))) else (if x6 = 0 then (some false) else ((impl_isDigit.f (bt x0 x6)).bind fun t103 => (if t103 = true then (impl_NameOK.l0 k x0 x5 (wrap64 (x6 + 1))) else (some false)))))) else (none)) else (none)) else ((impl_within.f (x0.size : Int) 1 40).bind fun t101 => (some t101))
def impl_NameOK.f (k : Nat) (a0 : ByteArray) : Option (Bool) := impl_NameOK.l0 k a0 (a0.size : Int) 0
theorem impl_NameOK.calls (k : Nat) (a0 : ByteArray) (r : Bool) (w : World) (h : impl_NameOK.f k a0 = some r) :
  Calls Try.prog 52 #[.string a0] w fun e w' => e = .returned (.bool r) ∧ Drawn0 w w' := by
 have H : (impl_NameOK.l0 k a0 (a0.size : Int) 0) = some r := h; clear h; have H' := qO H; clear H
 go_enter Try.func52, Try.ntmps52
 go_wp2
 go_loopg [6] k (fun kq v6 w' => ∃ (x6_1 : Int), v6 = .int .i64 x6_1 ∧ Aside0 (impl_NameOK.l0 kq a0 (a0.size : Int) x6_1 = some r) ∧ Aside0 (kq ≤ k) ∧ Drawn0 w w')
 case atStart => exact ⟨(0), qa4, H', ⟨Nat.le_refl _⟩, qa6⟩
 case round =>
  clear H'; obtain ⟨x6_1, rfl, HA, HK1, ⟨m1, rfl⟩⟩ := hrel
  cases gk with
  | zero => exact absurd HA.out (by simp [impl_NameOK.l0])
  | succ k1 =>
   have H := HA.out; clear HA; simp only [impl_NameOK.l0] at H
   by_cases c2 : x6_1 < (a0.size : Int)
   ·rw [if_pos c2] at H
    have c2b0 := decide_eq_true c2; clear c2
    by_cases c3 : 0 ≤ x6_1
    ·rw [if_pos c3] at H
     have c3b0 := decide_eq_true c3; clear c3
     by_cases c4 : x6_1 < (a0.size : Int)
     ·rw [if_pos c4] at H
      have c4b0 := decide_eq_true c4; clear c4; replace H := Option.bind_eq_some_iff.mp H; obtain ⟨t102, A60, H⟩ := H; have A6 := qO A60; clear A60
      by_cases c7 : t102 = true
      ·subst c7
       rw [if_pos rfl] at H; have H' := qO H; clear H; have p5 : 0 ≤ (x6_1 : Int) := qT qa2; have q5 : x6_1 < (a0.size : Int) := qT qa2; have hx5 := bt_at a0 x6_1; replace p5 := eq_true p5; replace q5 := eq_true q5
       go_wp2_with (first | ((with_reducible refine gate_callee (f := 96) rfl ?_); refine qGL 12 Try.func96 #[.int .u8 (bt a0 x6_1)] ?_; (with_reducible refine (impl_isLetter.calls (bt a0 x6_1) true _ A6.out).mono ?_); rintro e w' ⟨rfl, ⟨nd, rfl⟩⟩; refine ⟨_, rfl, ?_⟩))
       go_roundg k1
       case measure => have := HK1.out; omega
       case rel => exact ⟨(wrap64 (x6_1 + 1)), qa4, H', ⟨qa9⟩, qa6⟩
      ·replace c7 := Bool.eq_false_iff.mpr c7
       subst c7; rw [qfn] at H
       by_cases c8 : x6_1 = 0
       ·rw [if_pos c8] at H
        have c8b0 := beq_iff_eq.mpr c8; have c8b1 := bne_eq_false_iff_eq.mpr c8; clear c8; obtain rfl := Option.some.inj H; have p5 : 0 ≤ (x6_1 : Int) := qT qa2; have q5 : x6_1 < (a0.size : Int) := qT qa2; have hx5 := bt_at a0 x6_1; replace p5 := eq_true p5; replace q5 := eq_true q5
        go_wp2_with (first | ((with_reducible refine gate_callee (f := 96) rfl ?_); refine qGL 12 Try.func96 #[.int .u8 (bt a0 x6_1)] ?_; (with_reducible refine (impl_isLetter.calls (bt a0 x6_1) false _ A6.out).mono ?_); rintro e w' ⟨rfl, ⟨nd, rfl⟩⟩; refine ⟨_, rfl, ?_⟩))
        go_ret
        exact ⟨qa4, qa6⟩
       ·rw [if_neg c8] at H
        have c8b0 := beq_eq_false_iff_ne.mpr c8; have c8b1 := bne_iff_ne.mpr c8; replace H := Option.bind_eq_some_iff.mp H; obtain ⟨t103, A100, H⟩ := H; have A10 := qO A100; clear A100
        by_cases c11 : t103 = true
        ·subst c11
         rw [if_pos rfl] at H; have H' := qO H; clear H; have p5 : 0 ≤ (x6_1 : Int) := qT qa2; have q5 : x6_1 < (a0.size : Int) := qT qa2; have hx5 := bt_at a0 x6_1; replace p5 := eq_true p5; replace q5 := eq_true q5
         go_wp2_with (first | ((with_reducible refine gate_callee (f := 96) rfl ?_); refine qGL 12 Try.func96 #[.int .u8 (bt a0 x6_1)] ?_; (with_reducible refine (impl_isLetter.calls (bt a0 x6_1) false _ A6.out).mono ?_); rintro e w' ⟨rfl, ⟨nd, rfl⟩⟩; refine ⟨_, rfl, ?_⟩; have p9 : 0 ≤ (x6_1 : Int) := qT qa2; have q9 : x6_1 < (a0.size : Int) := qT qa2; have hx9 := bt_at a0 x6_1; replace p9 := eq_true p9; replace q9 := eq_true q9) | (go_at_call 97; (with_reducible refine (impl_isDigit.calls (bt a0 x6_1) true _ A10.out).mono ?_); rintro e w' ⟨rfl, ⟨nd, rfl⟩⟩))
         go_roundg k1
         case measure => have := HK1.out; omega
         case rel => exact ⟨(wrap64 (x6_1 + 1)), qa4, H', ⟨qa9⟩, qa6⟩
        ·replace c11 := Bool.eq_false_iff.mpr c11
         subst c11; rw [qfn] at H; obtain rfl := Option.some.inj H; have p5 : 0 ≤ (x6_1 : Int) := qT qa2; have q5 : x6_1 < (a0.size : Int) := qT qa2; have hx5 := bt_at a0 x6_1; replace p5 := eq_true p5; replace q5 := eq_true q5
         go_wp2_with (first | ((with_reducible refine gate_callee (f := 96) rfl ?_); refine qGL 12 Try.func96 #[.int .u8 (bt a0 x6_1)] ?_; (with_reducible refine (impl_isLetter.calls (bt a0 x6_1) false _ A6.out).mono ?_); rintro e w' ⟨rfl, ⟨nd, rfl⟩⟩; refine ⟨_, rfl, ?_⟩; have p9 : 0 ≤ (x6_1 : Int) := qT qa2; have q9 : x6_1 < (a0.size : Int) := qT qa2; have hx9 := bt_at a0 x6_1; replace p9 := eq_true p9; replace q9 := eq_true q9) | (go_at_call 97; (with_reducible refine (impl_isDigit.calls (bt a0 x6_1) false _ A10.out).mono ?_); rintro e w' ⟨rfl, ⟨nd, rfl⟩⟩))
         go_ret
         exact ⟨qa4, qa6⟩
     ·rw [if_neg c4] at H
      exact absurd H qa12
    ·rw [if_neg c3] at H
     exact absurd H qa12
   ·rw [if_neg c2] at H
    have c2b0 := decide_eq_false c2; clear c2; replace H := Option.bind_eq_some_iff.mp H; obtain ⟨t101, A120, H⟩ := H; have A12 := qO A120; clear A120; obtain rfl := Option.some.inj H
    go_wp2_with (first | ((with_reducible refine gate_callee (f := 98) rfl ?_); refine qGL 28 Try.func98 #[.int .i64 (a0.size : Int), .int .i64 1, .int .i64 40] ?_; (with_reducible refine (impl_within.calls (a0.size : Int) 1 40 t101 _ A12.out).mono ?_); rintro e w' ⟨rfl, ⟨nd, rfl⟩⟩; refine ⟨_, rfl, ?_⟩))
    go_ret
    exact ⟨qa4, qa6⟩
end Go.Proofs.Ytfpkooafbeejmaa.Q
namespace Go.Proofs.Ytfpkooafbeejmaa.Pure2
open Go.RowKit Go.Proofs.Ytfpkooafbeejmaa.Q Go.Proofs.YtfpkooafbeejmaaW.PrintWords Go.Proofs.YtfpkooafbeejmaaW.PrintLast
set_option linter.unusedVariables false
set_option linter.unusedSimpArgs false
/-! small words -/
theorem wsucc {j n : Nat} (h : j < n) (hn : n ≤ 4611686018427387904) : wrap64 ((j : Int) + 1) = ((j + 1 : Nat) : Int) := by unfold wrap64; omega
theorem ev_step {α : Type} {g f : Nat → Option α} {r : α} (h : ∃ K, ∀ k, K ≤ k → g (k + 1) = f k) (k : Ev f r) : Ev g r := by
  obtain ⟨K, h⟩ := h
  obtain ⟨K', k⟩ := k
  refine ⟨max K K' + 1, fun n hn => ?_⟩
  obtain ⟨m, rfl⟩ : ∃ m, n = m + 1 := ⟨n - 1, qa5⟩
  rw [h m qa5, k m qa5]
theorem ev_now {α : Type} {g : Nat → Option α} {r : α} (h : ∃ K, ∀ k, K ≤ k → g (k + 1) = some r) : Ev g r := ev_step (f := fun _ => some r) h (Ev.now r)
theorem ev_same {α : Type} {g f : Nat → Option α} {r : α} (h : ∃ K, ∀ k, K ≤ k → g k = f k) (k : Ev f r) : Ev g r := by
  obtain ⟨K, h⟩ := h
  obtain ⟨K', k⟩ := k
  exact ⟨max K K', fun n hn => by rw [h n qa5, k n qa5]⟩
theorem ev_two {α β : Type} {g : Nat → Option α} {f : Nat → Option β} {r : α} {q : β} (h : Ev g r) (k : Ev f q) : ∃ K, ∀ n, K ≤ n → g n = some r ∧ f n = some q := by
  obtain ⟨K, h⟩ := h
  obtain ⟨K', k⟩ := k
  exact ⟨max K K', fun n hn => ⟨h n qa5, k n qa5⟩⟩
theorem ev_mk {α : Type} {g : Nat → Option α} {r : α} (K : Nat) (h : ∀ k, K ≤ k → g k = some r) : Ev g r := ⟨K, h⟩
theorem ev_at {α : Type} {g : Nat → Option α} {r : α} (h : Ev g r) : ∃ K, ∀ k, K ≤ k → g k = some r := h
/-- A loop that counts up to n: from the end back. -/
theorem count_loop {ρ : Type} (n : Nat) (L : Nat → Int → Option ρ) (Post : Nat → ρ → Prop) (hend : ∃ r, Post n r ∧ Ev (fun k => L k (n : Int)) r)
    (hstep : ∀ j, j < n → ∀ r, Post (j + 1) r → Ev (fun k => L k ((j + 1 : Nat) : Int)) r → ∃ r', Post j r' ∧ Ev (fun k => L k (j : Int)) r') :
    ∀ j, j ≤ n → ∃ r, Post j r ∧ Ev (fun k => L k (j : Int)) r := by
  have key : ∀ d j, j ≤ n → n - j = d → ∃ r, Post j r ∧ Ev (fun k => L k (j : Int)) r := by
    intro d
    induction d with
    | zero => intro j hj hd; obtain rfl : j = n := by omega
              exact hend
    | succ d ih =>
      intro j hj hd
      obtain ⟨r, hp, he⟩ := ih (j + 1) qa5 qa5
      exact hstep j qa5 r hp he
  intro j hj
  exact key _ j hj rfl
/-- A loop that carries a state up to n. -/
theorem state_loop {σ ρ : Type} (n : Nat) (L : Nat → σ → Int → Option ρ) (Inv : Nat → σ → Prop) (Post : Nat → σ → ρ → Prop) (hend : ∀ s, Inv n s → ∃ r, Post n s r ∧ Ev (fun k => L k s (n : Int)) r)
    (hstep : ∀ j s, j < n → Inv j s → (∃ r, Post j s r ∧ Ev (fun k => L k s (j : Int)) r) ∨ ∃ s', Inv (j + 1) s' ∧ (∀ r, Post (j + 1) s' r → Post j s r) ∧ ∃ K, ∀ k, K ≤ k → L (k + 1) s (j : Int) = L k s' ((j + 1 : Nat) : Int)) :
    ∀ j s, j ≤ n → Inv j s → ∃ r, Post j s r ∧ Ev (fun k => L k s (j : Int)) r := by
  have key : ∀ d j s, j ≤ n → n - j = d → Inv j s → ∃ r, Post j s r ∧ Ev (fun k => L k s (j : Int)) r := by
    intro d
    induction d with
    | zero => intro j s hj hd hi; obtain rfl : j = n := by omega
              exact hend s hi
    | succ d ih =>
      intro j s hj hd hi
      rcases hstep j s qa5 hi with h | ⟨s', hi', hp, hk⟩
      · exact h
      · obtain ⟨r, hr, he⟩ := ih (j + 1) s' qa5 qa5 hi'
        exact ⟨r, hp r hr, ev_step hk he⟩
  intro j s hj hi
  exact key _ j s hj rfl hi
/-- A loop that fills a row of its own. -/
theorem fill_loop {α β : Type} (xs : List α) (z : α) (g : α → β) (L : Nat → List β → Int → Option (List β)) (hend : ∀ y : List β, y.length = xs.length → ∃ K, ∀ k, K ≤ k → L (k + 1) y (xs.length : Int) = some y)
    (hstep : ∀ (j : Nat) (y : List β), j < xs.length → y.length = xs.length → ∃ K, ∀ k, K ≤ k → L (k + 1) y (j : Int) = L k (y.set j (g (xs.getD j z))) ((j + 1 : Nat) : Int)) (y : List β) (hy : y.length = xs.length) :
    Ev (fun k => L k y 0) (xs.map g) := by
  obtain ⟨r, hr, he⟩ := state_loop xs.length L (fun j y => y.length = xs.length ∧ ∀ i, i < j → y[i]? = (xs.map g)[i]?) (fun _ _ r => r = xs.map g) (fun y hi => ⟨y, List.ext_getElem? fun i => by
      by_cases hi' : i < xs.length
      · exact hi.2 i hi'
      · rw [List.getElem?_eq_none qa5, List.getElem?_eq_none qa44], ev_now (hend y hi.1)⟩) (fun j y hj hi => .inr ⟨_, ⟨by simp [hi.1], fun i hij => by
      by_cases he : i = j
      · subst he
        rw [List.getElem?_set_self qa5]
        simp [List.getD_eq_getElem?_getD, List.getElem?_eq_getElem hj]
      · rw [List.getElem?_set_ne qa5]
        exact hi.2 i qa5⟩, fun r h => h, hstep j y hj hi.1⟩) 0 y qa5 ⟨hy, fun i hi => by omega⟩
  subst hr
  exact he
theorem spec_in (a b c : Int) : spec_l01In.f a b c = some (decide (b ≤ a ∧ a ≤ c)) := by
  unfold spec_l01In.f
  by_cases h : b ≤ a
  · rw [if_pos h]; simp [h]
  · rw [if_neg h]; simp [h]
theorem impl_in (a b c : Int) : impl_within.f a b c = some (decide (b ≤ a ∧ a ≤ c)) := spec_in a b c
/-- A letter or _; a digit. -/
def isL (b : Int) : Bool := decide (97 ≤ b ∧ b ≤ 122 ∨ 65 ≤ b ∧ b ≤ 90 ∨ b = 95)
def isD (b : Int) : Bool := decide (48 ≤ b ∧ b ≤ 57)
/-- What a name is. -/
def IsName (s : ByteArray) : Prop := 1 ≤ s.size ∧ s.size ≤ 40 ∧ isL (bt s 0) = true ∧ ∀ i : Int, 1 ≤ i → i < s.size → isL (bt s i) = true ∨ isD (bt s i) = true
theorem beq95 (b : Int) (h : ¬ (97 ≤ b ∧ b ≤ 122)) (h' : ¬ (65 ≤ b ∧ b ≤ 90)) : (b == 95) = isL b := by
  unfold isL
  by_cases e : b = 95
  · subst e; rfl
  · rw [beq_eq_false_iff_ne.mpr e]; symm; simp only [decide_eq_false_iff_not]; omega
theorem impl_letter (b : Int) : impl_isLetter.f b = some (isL b) := by
  unfold impl_isLetter.f
  by_cases h1 : b ≥ 97 <;> by_cases h2 : b ≤ 122 <;> by_cases h3 : b ≥ 65 <;> by_cases h4 : b ≤ 90 <;> simp only [h1, h2, h3, h4, if_true, if_false, Option.some.injEq] <;>
    first | exact beq95 b qa5 qa5 | (symm; unfold isL; simp only [decide_eq_true_eq]; omega)
theorem spec_letter (b : Int) : spec_l00Letter.f b = some (isL b) := impl_letter b
theorem impl_digit (b : Int) : impl_isDigit.f b = some (isD b) := by
  unfold impl_isDigit.f isD
  by_cases h1 : b ≥ 48
  · rw [if_pos h1]; simp only [Option.some.injEq, decide_eq_decide]; omega
  · rw [if_neg h1]; simp only [Option.some.injEq]; symm; rw [decide_eq_false_iff_not]; omega
theorem spec_digit (b : Int) : spec_l00Digit.f b = some (isD b) := impl_digit b
/-- The reference's loop, from i on. -/
theorem spec_word_from (s : ByteArray) (hn : s.size ≤ 1048576) (d : Nat) : ∀ (k : Nat) (i : Int), 0 ≤ i → i ≤ s.size → (s.size : Int) - i = d → d < k →
    ∃ r, spec_l00Word.l0 k s i = some r ∧ (r = true ↔ ∀ j : Int, i ≤ j → j < s.size → isL (bt s j) = true ∨ isD (bt s j) = true) := by
  induction d with
  | zero =>
    intro k i h0 h1 hd hk
    obtain ⟨k, rfl⟩ : ∃ m, k = m + 1 := ⟨k - 1, qa5⟩
    refine ⟨true, ?_, ⟨fun _ j h2 h3 => by omega, fun _ => rfl⟩⟩
    simp only [spec_l00Word.l0]; rw [if_neg qa5]
  | succ d ih =>
    intro k i h0 h1 hd hk
    obtain ⟨k, rfl⟩ : ∃ m, k = m + 1 := ⟨k - 1, qa5⟩
    have hw : wrap64 (i + 1) = i + 1 := by unfold wrap64; omega
    obtain ⟨r, e, hr⟩ := ih k (i + 1) qa5 qa5 qa5 qa5
    have step : (isL (bt s i) = true ∨ isD (bt s i) = true) → (r = true ↔ ∀ j : Int, i ≤ j → j < s.size → isL (bt s j) = true ∨ isD (bt s j) = true) := by
      intro hh
      rw [hr]
      constructor
      · intro h j h2 h3
        rcases Int.lt_or_eq_of_le h2 with h4 | h4
        · exact h j qa5 h3
        · rw [← h4]; exact hh
      · intro h j h2 h3; exact h j qa5 h3
    simp only [spec_l00Word.l0]; rw [if_pos qa5, if_pos h0, spec_letter]; simp only [Option.bind_some]
    by_cases hl : isL (bt s i) = true
    · rw [if_pos hl, hw]; exact ⟨r, e, step (.inl hl)⟩
    · rw [if_neg hl, spec_digit]; simp only [Option.bind_some]
      by_cases hdg : isD (bt s i) = true
      · rw [if_pos hdg, hw]; exact ⟨r, e, step (.inr hdg)⟩
      · rw [if_neg hdg]
        exact ⟨false, rfl, ⟨fun h => qa64, fun h => absurd (h i (Int.le_refl _) qa5) (fun h => h.elim hl hdg)⟩⟩
theorem spec_name (s : ByteArray) (hn : s.size ≤ 1048576) : ∃ r, (∀ k, s.size + 1 < k → spec_NameOK.f k s = some r) ∧ (r = true ↔ IsName s) := by
  by_cases h1 : (s.size : Int) < 1
  · refine ⟨false, fun k hk => ?_, ⟨fun h => qa64, fun h => absurd h.1 qa5⟩⟩
    obtain ⟨k, rfl⟩ : ∃ m, k = m + 1 := ⟨k - 1, qa5⟩
    unfold spec_NameOK.f spec_l00Word.f
    rw [if_pos h1]; rfl
  · by_cases h2 : (s.size : Int) > 40
    · refine ⟨false, fun k hk => ?_, ⟨fun h => qa64, fun h => absurd h.2.1 qa5⟩⟩
      obtain ⟨k, rfl⟩ : ∃ m, k = m + 1 := ⟨k - 1, qa5⟩
      unfold spec_NameOK.f spec_l00Word.f
      rw [if_neg h1, if_pos h2]; rfl
    · by_cases hl : isL (bt s 0) = true
      · obtain ⟨r, _, hr⟩ := spec_word_from s hn (s.size - 1) (s.size + 1) 1 qa5 qa5 qa5 qa5
        refine ⟨r, fun k hk => ?_, ?_⟩
        · obtain ⟨k, rfl⟩ : ∃ m, k = m + 1 := ⟨k - 1, qa5⟩
          obtain ⟨r', e', hr'⟩ := spec_word_from s hn (s.size - 1) k 1 qa5 qa5 qa5 qa5
          have : r' = r := by rw [Bool.eq_iff_iff, hr, hr']
          subst this
          unfold spec_NameOK.f spec_l00Word.f
          rw [if_neg h1, if_neg h2, if_pos qa5, spec_letter]; simp only [Option.bind_some, hl, Bool.not_true, spec_l00Word.j0]
          rw [if_neg qa12, e']; rfl
        · rw [hr]; exact ⟨fun h => ⟨qa5, qa5, hl, h⟩, fun h => h.2.2.2⟩
      · refine ⟨false, fun k hk => ?_, ⟨fun h => qa64, fun h => absurd h.2.2.1 hl⟩⟩
        obtain ⟨k, rfl⟩ : ∃ m, k = m + 1 := ⟨k - 1, qa5⟩
        unfold spec_NameOK.f spec_l00Word.f
        rw [if_neg h1, if_neg h2, if_pos qa5, spec_letter]; simp only [Option.bind_some]
        have : isL (bt s 0) = false := by simpa using hl
        rw [this]; rfl
/-- The program's loop, from i on. -/
theorem impl_name_from (s : ByteArray) (hn : s.size ≤ 1048576) (d : Nat) : ∀ (k : Nat) (i : Int), 0 ≤ i → i ≤ s.size → (s.size : Int) - i = d → d < k →
    ∃ r, impl_NameOK.l0 k s s.size i = some r ∧ (r = true ↔ (1 ≤ s.size ∧ s.size ≤ 40) ∧ ∀ j : Int, i ≤ j → j < s.size → isL (bt s j) = true ∨ j ≠ 0 ∧ isD (bt s j) = true) := by
  induction d with
  | zero =>
    intro k i h0 h1 hd hk
    obtain ⟨k, rfl⟩ : ∃ m, k = m + 1 := ⟨k - 1, qa5⟩
    simp only [impl_NameOK.l0]; rw [if_neg qa5]
    unfold impl_within.f
    by_cases h2 : (s.size : Int) ≥ 1
    · rw [if_pos h2]
      refine ⟨_, rfl, ?_⟩
      simp only [decide_eq_true_eq]
      exact ⟨fun h => ⟨⟨qa5, qa5⟩, fun j _ _ => by omega⟩, fun h => by omega⟩
    · rw [if_neg h2]
      refine ⟨_, rfl, ?_⟩
      exact ⟨fun h => by simp at h, fun h => by omega⟩
  | succ d ih =>
    intro k i h0 h1 hd hk
    obtain ⟨k, rfl⟩ : ∃ m, k = m + 1 := ⟨k - 1, qa5⟩
    have hw : wrap64 (i + 1) = i + 1 := by unfold wrap64; omega
    obtain ⟨r, e, hr⟩ := ih k (i + 1) qa5 qa5 qa5 qa5
    have step : (isL (bt s i) = true ∨ i ≠ 0 ∧ isD (bt s i) = true) → (r = true ↔ (1 ≤ s.size ∧ s.size ≤ 40) ∧ ∀ j : Int, i ≤ j → j < s.size → isL (bt s j) = true ∨ j ≠ 0 ∧ isD (bt s j) = true) := by
      intro hh
      rw [hr]
      constructor
      · intro ⟨h', h⟩
        refine ⟨h', fun j h2 h3 => ?_⟩
        rcases Int.lt_or_eq_of_le h2 with h4 | h4
        · exact h j qa5 h3
        · rw [← h4]; exact hh
      · intro ⟨h', h⟩; exact ⟨h', fun j h2 h3 => h j qa5 h3⟩
    simp only [impl_NameOK.l0]; rw [if_pos qa5, if_pos h0, if_pos qa5, impl_letter]; simp only [Option.bind_some]
    by_cases hl : isL (bt s i) = true
    · rw [if_pos hl, hw]; exact ⟨r, e, step (.inl hl)⟩
    · rw [if_neg hl]
      by_cases hz : i = 0
      · rw [if_pos hz]
        exact ⟨false, rfl, ⟨fun h => qa64, fun h => absurd (h.2 i (Int.le_refl _) qa5) (fun h => h.elim hl (fun h => h.1 hz))⟩⟩
      · rw [if_neg hz, impl_digit]; simp only [Option.bind_some]
        by_cases hdg : isD (bt s i) = true
        · rw [if_pos hdg, hw]; exact ⟨r, e, step (.inr ⟨hz, hdg⟩)⟩
        · rw [if_neg hdg]
          exact ⟨false, rfl, ⟨fun h => qa64, fun h => absurd (h.2 i (Int.le_refl _) qa5) (fun h => h.elim hl (fun h => hdg h.2))⟩⟩
theorem impl_name (s : ByteArray) (hn : s.size ≤ 1048576) : ∃ r, (∀ k, s.size + 1 < k → impl_NameOK.f k s = some r) ∧ (r = true ↔ IsName s) := by
  obtain ⟨r, _, hr⟩ := impl_name_from s hn s.size (s.size + 1) 0 qa5 qa5 qa5 qa5
  refine ⟨r, fun k hk => ?_, ?_⟩
  · obtain ⟨r', e', hr'⟩ := impl_name_from s hn s.size k 0 qa5 qa5 qa5 qa5
    have : r' = r := by rw [Bool.eq_iff_iff, hr, hr']
    subst this
    exact e'
  · rw [hr]
    constructor
    · rintro ⟨⟨h1, h2⟩, h⟩
      refine ⟨h1, h2, ?_, fun j hj hj' => ?_⟩
      · have := h 0 qa5 qa5
        simpa using this
      · rcases h j qa5 hj' with h | h
        · exact .inl h
        · exact .inr h.2
    · rintro ⟨h1, h2, h3, h⟩
      refine ⟨⟨h1, h2⟩, fun j hj hj' => ?_⟩
      by_cases hz : j = 0
      · subst hz; exact .inl h3
      · rcases h j qa5 hj' with h | h
        · exact .inl h
        · exact .inr ⟨hz, h⟩
/-- Both say the same. -/
theorem names_agree (s : ByteArray) (hn : s.size ≤ 1048576) : ∃ r, (∀ k, s.size + 1 < k → spec_NameOK.f k s = some r ∧ impl_NameOK.f k s = some r) ∧ (r = true ↔ IsName s) := by
  obtain ⟨r, e, hr⟩ := spec_name s hn
  obtain ⟨r', e', hr'⟩ := impl_name s hn
  have : r' = r := by rw [Bool.eq_iff_iff, hr, hr']
  subst this
  exact ⟨r', fun k hk => ⟨e k hk, e' k hk⟩, hr⟩
theorem names_ev (s : ByteArray) (hn : s.size ≤ 1048576) : ∃ r, Ev (fun k => spec_NameOK.f k s) r ∧ Ev (fun k => impl_NameOK.f k s) r ∧ (r = true ↔ IsName s) := by
  obtain ⟨r, h, hr⟩ := names_agree s hn
  exact ⟨r, ev_mk (s.size + 2) (fun k hk => (h k qa5).1), ev_mk (s.size + 2) (fun k hk => (h k qa5).2), hr⟩
end Go.Proofs.Ytfpkooafbeejmaa.Pure2
namespace Go.Proofs.Ytfpkooafbeejmaa.Q
open Go.RowKit Go.Proofs.YtfpkooafbeejmaaW.PrintWords Go.Proofs.YtfpkooafbeejmaaW.PrintLast Go.Proofs.YtfpkooafbeejmaaW.PrintMore
attribute [local go_sem] max2_int min2_int max_two min_two max_three min_three max_four min_four
set_option linter.unusedVariables false
set_option linter.unusedSimpArgs false
set_option maxHeartbeats 8000000
set_option maxRecDepth 100000
def laws_markText.l0 : Nat → Int → ByteArray → Option (ByteArray)
 | 0, _, _ => none
 | k + 1, x0, x3 => if x0 > 0 then ((some (([(wrap64 (48 + (Int.tmod x0 10))) % 256] : List Int) : List Int)).bind fun y101 => (if (strOfNums y101).size + x3.size ≤ 9223372036854775807 then (laws_markText.l0 k (wrap64 (Int.tdiv x0 10)) ((strOfNums y101) ++ x3)) else (none))) else (if 1 + x3.size ≤ 9223372036854775807 then (some ((⟨#[109]⟩ : ByteArray) ++ x3)) else (none))
def laws_markText.f (k : Nat) (a0 : Int) : Option (ByteArray) := if a0 ≤ 0 then (some (⟨#[109, 48]⟩ : ByteArray)) else (laws_markText.l0 k a0 (⟨#[]⟩ : ByteArray))
theorem laws_markText.calls (k : Nat) (a0 : Int) (r : ByteArray) (w : World) (h : laws_markText.f k a0 = some r) :
  Calls Try.prog 77 #[.int .i64 a0] w fun e w' => e = .returned (.string r) ∧ Below w.heap.size w w' := by
 have HB := qO (Below.refl w.heap.size w); have H : (if a0 ≤ 0 then (some (⟨#[109, 48]⟩ : ByteArray)) else (laws_markText.l0 k a0 (⟨#[]⟩ : ByteArray))) = some r := h; clear h
 by_cases c2 : a0 ≤ 0
 ·rw [if_pos c2] at H
  have c2b0 := decide_eq_true c2; clear c2; obtain rfl := Option.some.inj H
  go_enter Try.func77, Try.ntmps77
  go_wp2
  go_ret
  exact ⟨qa1, qH HB.out⟩
 ·rw [if_neg c2] at H
  have c2b0 := decide_eq_false c2; clear c2; have H' := qO H; clear H
  go_enter Try.func77, Try.ntmps77
  go_wp2
  go_loopg [0, 3] k (fun kq v0 v3 w' => ∃ (x0_1 : Int) (x3_1 : ByteArray), v0 = .int .i64 x0_1 ∧ v3 = .string x3_1 ∧ Aside0 (laws_markText.l0 kq x0_1 x3_1 = some r) ∧ Aside0 (kq ≤ k) ∧ Aside0 (Below w.heap.size w w'))
  case atStart => exact ⟨(a0), ((⟨#[]⟩ : ByteArray)), qa4, qa4, H', ⟨Nat.le_refl _⟩, ⟨qH HB.out⟩⟩
  case round =>
   clear H'
   obtain ⟨x0_1, x3_1, rfl, rfl, HA, HK1, HB⟩ := hrel
   cases gk with
   | zero => exact absurd HA.out (by simp [laws_markText.l0])
   | succ k1 =>
    have H := HA.out; clear HA; simp only [laws_markText.l0] at H
    by_cases c3 : x0_1 > 0
    ·rw [if_pos c3] at H
     have c3b0 := qgt c3; clear c3; obtain ⟨y101, hy101⟩ : ∃ y_ : List Int, y_ = (([(wrap64 (48 + (Int.tmod x0_1 10))) % 256] : List Int)) := ⟨_, rfl⟩; (first | replace H := qsb hy101 H | rw [← hy101] at H)
     have Ny101 := qO hy101; clear hy101
     by_cases c4 : (strOfNums y101).size + x3_1.size ≤ 9223372036854775807
     ·rw [if_pos c4] at H
      have c4b0 := eq_true c4; have c4b1 := decide_eq_true c4
      try have c4b2 : (9223372036854775807 < (strOfNums y101).size + x3_1.size) = False := eq_false (Nat.not_lt.2 c4)
      have H' := qO H; clear H
      go_wp2_with (first | ((with_reducible refine gate_dst (N := 12) rfl ?_); refine Kd.R_lit (Kd.int .u8) _ 5 ?hg (N := 12) ?hd (xs := ([(wrap64 (48 + (Int.tmod x0_1 10))) % 256] : List Int)) (inner := [.int .u8 ((wrap64 (48 + (Int.tmod x0_1 10))) % 256)]) (ok := fun _ => True) (okp := fun _ => True) ?hr ?hp (fun _ hk => hk) trivial (Below.refl _ _) (Nat.le_refl _) qa12 ?_; (case hd => rfl); (case hg => rfl); (case hr => exact qa21); (case hp => exact (Reps.one (show Kd.M (Kd.int .u8) _ _ _ ((wrap64 (48 + (Int.tmod x0_1 10))) % 256) [.int .u8 ((wrap64 (48 + (Int.tmod x0_1 10))) % 256)] from rfl) (Reps.none _ _))); intro v102 w5 ho6 hb hg_ hnew_; clear hg_ hnew_; (first | rw [← Ny101.out] at ho6 | (simp only [Int.reduceToNat] at ho6; rw [← Ny101.out] at ho6)); have HO103 := qO (Kd.R_lower ho6 (below_size (qH HB.out))); replace HB := qO (below_step (qH HB.out) hb); clear hb ho6; have hcv7 := own_string (P := Try.prog) Try.underlying143 Try.underlying5 Try.underlying9 (Kd.own_of_R HO103.out)))
      go_roundg k1
      case measure => have := HK1.out; omega
      case rel => exact ⟨(wrap64 (Int.tdiv x0_1 10)), ((strOfNums y101) ++ x3_1), qa4, qa4, H', ⟨qa9⟩, ⟨qH HB.out⟩⟩
     ·rw [if_neg c4] at H
      exact absurd H qa12
    ·rw [if_neg c3] at H
     have c3b0 := qngt c3; clear c3
     by_cases c8 : 1 + x3_1.size ≤ 9223372036854775807
     ·rw [if_pos c8] at H
      have c8b0 := eq_true c8; have c8b1 := decide_eq_true c8
      try have c8b2 : (9223372036854775807 < 1 + x3_1.size) = False := eq_false (Nat.not_lt.2 c8)
      obtain rfl := Option.some.inj H; go_wp2
      go_ret
      exact ⟨qa1, qH HB.out⟩
     ·rw [if_neg c8] at H
      exact absurd H qa12
set_option maxHeartbeats 8000000
set_option maxRecDepth 100000
def wk_Sk (ok : Nat → Prop) (d w : World) : Prop := (w.os = d.os ∧ w.tape = d.tape ∧ w.output = d.output) ∧ Kept d w ok ∧ ∀ (k : Nat) (cs : Array Value) (t : TypeId), d.heap[k]? = some (.cells cs t (0, 0)) → ∃ cs', w.heap[k]? = some (.cells cs' t (0, 0)) ∧ cs'.size = cs.size ∧ ∀ (j : Nat) (A : Option Addr) (n c : Nat), cs[j]? = some (Value.slice A n c) → cs'[j]? = some (Value.slice A n c)
theorem wk_refl (ok : Nat → Prop) (d : World) : wk_Sk ok d d := ⟨⟨rfl, rfl, rfl⟩, Kept.refl d ok, fun _ cs _ h => ⟨cs, h, rfl, fun _ _ _ _ h => h⟩⟩
theorem wk_below {ok : Nat → Prop} {d w w1 : World} (h : wk_Sk ok d w) (hb : Below w.heap.size w w1) : wk_Sk ok d w1 :=
 ⟨⟨hb.os.trans h.1.1, hb.tape.trans h.1.2.1, hb.output.trans h.1.2.2⟩, h.2.1.below hb, fun k cs t hk => by
  obtain ⟨cs', h1, h2, h3⟩ := h.2.2 k cs t hk
  exact ⟨cs', blk_below h1 hb, h2, h3⟩⟩
theorem wk_set {ok : Nat → Prop} {d w : World} {g j : Nat} {cs : Array Value} {t : TypeId} {v : Value} (h : wk_Sk ok d w) (hg : d.heap[g]? = some (.cells cs t (0, 0))) (hok : ok g) (hc : d.cell? ⟨g, j, none⟩ = some v) (hv : ∀ A n c, v ≠ .slice A n c) (u : Value) : wk_Sk ok d (w.setCell ⟨g, j, none⟩ u) := by
 refine ⟨⟨h.1.1, h.1.2.1, h.1.2.2⟩, Kept.setCell h.2.1 (.inl hok) u, fun k cs1 t1 hk => ?_⟩; obtain ⟨cs', h1, h2, h3⟩ := h.2.2 k cs1 t1 hk
 by_cases e : k = g
 ·subst e
  refine ⟨_, blk_set h1 j u, by simpa using h2, fun j' A n c hj' => ?_⟩
  by_cases e' : j = j'
  ·subst e'
   rw [blk_cell hk] at hc; rw [hj'] at hc
   exact absurd (Option.some.inj hc).symm (hv A n c)
  ·rw [Array.getElem?_setIfInBounds_ne e']
   exact h3 j' A n c hj'
 ·exact ⟨cs', blk_far h1 (p := ⟨g, j, none⟩) e u, h2, h3⟩
theorem wk_mono {ok ok' : Nat → Prop} {d w : World} (h : wk_Sk ok d w) (ho : ∀ k, ok k → ok' k) : wk_Sk ok' d w := ⟨h.1, h.2.1.mono ho, h.2.2⟩
theorem wk_froz {ok : Nat → Prop} {d w : World} {g : Nat} {cs : Array Value} {t : TypeId} (h : wk_Sk ok d w) (hg : d.heap[g]? = some (.cells cs t (0, 0))) (j : Nat) : w.frozen? ⟨g, j, none⟩ = false := by
 obtain ⟨cs', h1, _, _⟩ := h.2.2 g cs t hg
 exact blk_frozen h1 j
theorem wk_some {ok : Nat → Prop} {d w : World} {g j : Nat} {cs : Array Value} {t : TypeId} {v : Value} (h : wk_Sk ok d w) (hg : d.heap[g]? = some (.cells cs t (0, 0))) (hc : d.cell? ⟨g, j, none⟩ = some v) : ∃ u, w.cell? ⟨g, j, none⟩ = some u := by
 obtain ⟨cs', h1, h2, _⟩ := h.2.2 g cs t hg; rw [blk_cell hg] at hc; rw [blk_cell h1]; have := (Array.getElem?_eq_some_iff.1 hc).1
 exact ⟨_, Array.getElem?_eq_getElem qa5⟩
theorem wk_slice {ok : Nat → Prop} {d w : World} {g j n c : Nat} {A : Option Addr} {cs : Array Value} {t : TypeId} (h : wk_Sk ok d w) (hg : d.heap[g]? = some (.cells cs t (0, 0))) (hc : d.cell? ⟨g, j, none⟩ = some (.slice A n c)) : w.cell? ⟨g, j, none⟩ = some (.slice A n c) := by
 obtain ⟨cs', h1, _, h3⟩ := h.2.2 g cs t hg; rw [blk_cell hg] at hc; rw [blk_cell h1]
 exact h3 j A n c hc
theorem wk_Below {B : Nat} {ok : Nat → Prop} {w0 d w : World} (hB : Below B w0 d) (h : wk_Sk ok d w) (hok : ∀ k, ok k → B ≤ k) (hs : B ≤ d.heap.size) : Below B w0 w :=
 ⟨h.1.1.trans hB.os, h.1.2.1.trans hB.tape, h.1.2.2.trans hB.output, Nat.le_trans hB.size h.2.1.1, fun k hk => (h.2.1.2 k (Nat.lt_of_lt_of_le hk hs) (fun ho => by have := hok k ho; omega)).trans (hB.block k hk)⟩
def laws_markArgS.l0 : Nat → List (S172) → Int → Int → Option Int
 | 0, _, _, _ => none
 | k + 1, l, m, i => if i < (l.length : Int) then (if 0 ≤ i then ((laws_markText.f k m).bind fun t1_ => ((laws_markText.f k (wrap64 ((wrap64 ((wrap64 (m + 1)) + 1)) + 1))).bind fun t2_ => laws_markArgS.l0 k l (wrap64 ((wrap64 ((wrap64 ((wrap64 (m + 1)) + 1)) + 1)) + 1)) (wrap64 (i + 1)))) else none) else some m
def laws_markArgS.f (k : Nat) (l0 : List (S172)) (a1 : Int) : Option Int := laws_markArgS.l0 k l0 a1 0
theorem laws_markArgS.callsW (k : Nat) : ∀ (ok : Nat → Prop) (base : Nat) (v : Value) (l : List (S172)) (m r : Int) (d w : World) (hR : Kd.R (k172) 172 d base ok v l) (hS : wk_Sk ok d w) (h : laws_markArgS.l0 k l m 0 = some r),
  Calls Try.prog 128 #[v, .int .i64 m] w fun e w' => e = .returned (.int .i64 r) ∧ wk_Sk ok d w' := by
 induction k using Nat.strongRecOn with
 | _ k ih =>
 intro ok base v l m r d w hR hS h; have hu32 := Try.underlying32; have hu172 := Try.underlying172; obtain ⟨A0, c0, e0⟩ := Kd.R_slice hR; subst e0; have HR := qO hR; have HS0 := qO hS; have H0' := qO h; clear h hR hS
 go_enter Try.func128, Try.ntmps128
 go_wp2
 go_loopg [1, 5] k (fun kq v1 v5 w' => ∃ (m i : Int), v1 = .int .i64 m ∧ v5 = .int .i64 i ∧ Aside0 (laws_markArgS.l0 kq l m i = some r) ∧ Aside0 (kq ≤ k) ∧ Aside0 (wk_Sk ok d w'))
 case atStart => exact ⟨m, 0, rfl, rfl, H0', ⟨Nat.le_refl _⟩, HS0⟩
 case round =>
  clear H0' HS0; obtain ⟨m, i, rfl, rfl, HA, HK1, HSwr⟩ := hrel
  cases gk with
  | zero => exact absurd HA.out (by simp [laws_markArgS.l0])
  | succ k1 =>
   have H := HA.out; clear HA; simp only [laws_markArgS.l0] at H
   by_cases c1 : i < (l.length : Int)
   ·rw [if_pos c1] at H
    by_cases c2 : 0 ≤ i
    ·rw [if_pos c2] at H
     obtain ⟨xe, hxe⟩ : ∃ xe, xe = rd_T172 l i := ⟨_, rfl⟩; (try rw [← hxe] at H); replace H := Option.bind_eq_some_iff.mp H; obtain ⟨t1_, A1_0, H⟩ := H; have A1_ := qO A1_0; clear A1_0; replace H := Option.bind_eq_some_iff.mp H; obtain ⟨t2_, A2_0, H⟩ := H; have A2_ := qO A2_0; clear A2_0; have H' := qO (show laws_markArgS.l0 k1 l (wrap64 ((wrap64 ((wrap64 ((wrap64 (m + 1)) + 1)) + 1)) + 1)) (wrap64 (i + 1)) = some r from H); clear H; have c1b := decide_eq_true c1; have c2b := decide_eq_true c2; obtain ⟨go, co, eo, gb, gl, cl, HG⟩ := Kd.R_form HR.out qa5; (first | cases eo | (injection eo with ea_ en_ ec_; (first | subst ea_ | (injection ea_ with ea_; subst ea_)); subst ec_; clear en_)); have HOK := qO (HR.out.1 go rfl); have HGd := qO HG; obtain ⟨ce, hcl, hM, hcc, hfr⟩ := Kd.R_elem HR.out z172 i c2 c1; rw [show List.getD l i.toNat z172 = xe from hxe.symm] at hM; clear hxe; obtain rfl := k172_openM hM; have hd0 : d.cell? ⟨go, i.toNat * 4, none⟩ = some (.string (xe.f0)) := hcc 0 _ rfl; have hd1 : d.cell? ⟨go, i.toNat * 4 + 1, none⟩ = some (.int .i64 (xe.f1.f0)) := hcc 1 _ rfl; have hd2 : d.cell? ⟨go, i.toNat * 4 + 2, none⟩ = some (.int .i64 (xe.f1.f1)) := hcc 2 _ rfl; have hd3 : d.cell? ⟨go, i.toNat * 4 + 3, none⟩ = some (.string (xe.f1.f2)) := hcc 3 _ rfl
     
     obtain ⟨uwr_0, hxwr_0⟩ := wk_some HSwr.out HGd.out hd0; obtain ⟨uwr_1, hxwr_1⟩ := wk_some HSwr.out HGd.out hd1; obtain ⟨uwr_2, hxwr_2⟩ := wk_some HSwr.out HGd.out hd2; obtain ⟨uwr_3, hxwr_3⟩ := wk_some HSwr.out HGd.out hd3; have hfwr_0 : wr.frozen? ⟨go, i.toNat * 4, none⟩ = false := wk_froz HSwr.out HGd.out _; have hfwr_1 : wr.frozen? ⟨go, i.toNat * 4 + 1, none⟩ = false := wk_froz HSwr.out HGd.out _; have hfwr_2 : wr.frozen? ⟨go, i.toNat * 4 + 2, none⟩ = false := wk_froz HSwr.out HGd.out _; have hfwr_3 : wr.frozen? ⟨go, i.toNat * 4 + 3, none⟩ = false := wk_froz HSwr.out HGd.out _; clear hcc hfr hcl HG gb gl; (try clear hM); replace c1 := eq_true c1; replace c2 := eq_true c2
     go_wp2_with (first | ((with_reducible refine gate_callee (f := 77) rfl ?_); refine goesL_ (some 15) rfl rfl Try.func77 qa8 rfl #[.int .i64 m] rfl qa7 ?_; (with_reducible refine (laws_markText.calls k1 m t1_ _ A1_.out).mono ?_); rintro e w1x ⟨rfl, hd_⟩; have HSw1x := qO (wk_below HSwr.out hd_); clear hd_; refine ⟨_, rfl, ?_⟩; obtain ⟨uw1x_0, hxw1x_0⟩ := wk_some HSw1x.out HGd.out hd0; obtain ⟨uw1x_1, hxw1x_1⟩ := wk_some HSw1x.out HGd.out hd1; obtain ⟨uw1x_2, hxw1x_2⟩ := wk_some HSw1x.out HGd.out hd2; obtain ⟨uw1x_3, hxw1x_3⟩ := wk_some HSw1x.out HGd.out hd3; have hfw1x_0 : w1x.frozen? ⟨go, i.toNat * 4, none⟩ = false := wk_froz HSw1x.out HGd.out _; have hfw1x_1 : w1x.frozen? ⟨go, i.toNat * 4 + 1, none⟩ = false := wk_froz HSw1x.out HGd.out _; have hfw1x_2 : w1x.frozen? ⟨go, i.toNat * 4 + 2, none⟩ = false := wk_froz HSw1x.out HGd.out _; have hfw1x_3 : w1x.frozen? ⟨go, i.toNat * 4 + 3, none⟩ = false := wk_froz HSw1x.out HGd.out _) | ((with_reducible refine gate_callee (f := 77) rfl ?_); refine goesL_ (some 39) rfl rfl Try.func77 qa8 rfl #[.int .i64 (wrap64 ((wrap64 ((wrap64 (m + 1)) + 1)) + 1))] rfl qa7 ?_; (with_reducible refine (laws_markText.calls k1 (wrap64 ((wrap64 ((wrap64 (m + 1)) + 1)) + 1)) t2_ _ A2_.out).mono ?_); rintro e w2x ⟨rfl, hd_⟩; have HSw2x := qO (wk_below (wk_set (wk_set (wk_set HSw1x.out HGd.out HOK.out hd0 qa11 _) HGd.out HOK.out hd1 qa11 _) HGd.out HOK.out hd2 qa11 _) hd_); clear hd_; refine ⟨_, rfl, ?_⟩; obtain ⟨uw2x_0, hxw2x_0⟩ := wk_some HSw2x.out HGd.out hd0; obtain ⟨uw2x_1, hxw2x_1⟩ := wk_some HSw2x.out HGd.out hd1; obtain ⟨uw2x_2, hxw2x_2⟩ := wk_some HSw2x.out HGd.out hd2; obtain ⟨uw2x_3, hxw2x_3⟩ := wk_some HSw2x.out HGd.out hd3; have hfw2x_0 : w2x.frozen? ⟨go, i.toNat * 4, none⟩ = false := wk_froz HSw2x.out HGd.out _; have hfw2x_1 : w2x.frozen? ⟨go, i.toNat * 4 + 1, none⟩ = false := wk_froz HSw2x.out HGd.out _; have hfw2x_2 : w2x.frozen? ⟨go, i.toNat * 4 + 2, none⟩ = false := wk_froz HSw2x.out HGd.out _; have hfw2x_3 : w2x.frozen? ⟨go, i.toNat * 4 + 3, none⟩ = false := wk_froz HSw2x.out HGd.out _))
     go_roundg k1
     case measure => have := HK1.out; omega
     case rel => exact ⟨(wrap64 ((wrap64 ((wrap64 ((wrap64 (m + 1)) + 1)) + 1)) + 1)), wrap64 (i + 1), qa4, qa4, H', ⟨qa9⟩, ⟨(wk_set HSw2x.out HGd.out HOK.out hd3 qa11 _)⟩⟩
    ·rw [if_neg c2] at H
     exact absurd H qa12
   ·rw [if_neg c1] at H
    have c1b := decide_eq_false c1; clear c1; simp only [Option.some.injEq] at H; subst H; go_wp2
    go_ret
    exact ⟨rfl, HSwr.out⟩
theorem laws_markArgS.calls (k : Nat) (P0_ : Nat → Prop) (u9000_ : Value) (l0 : List (S172)) (a1 : Int) (r1 : Int) (w0 w : World) (hB : Below w0.heap.size w0 w) (ho0 : Kd.R (k172) 172 w w0.heap.size P0_ u9000_ l0) (h : laws_markArgS.f k l0 a1 = some r1) :
  Calls Try.prog 128 #[u9000_, .int .i64 a1] w fun e w' => e = .returned (.int .i64 r1) ∧ Below w0.heap.size w0 w' ∧ Kept w w' (fun k_ => P0_ k_) := by
 refine (laws_markArgS.callsW k (fun k_ => P0_ k_ ∧ w0.heap.size ≤ k_) w0.heap.size u9000_ l0 a1 r1 w w (Kd.R_mono (Kd.R_bound ho0) (fun k_ hk_ => ⟨hk_.1, hk_.2.1⟩)) (wk_refl _ _) h).mono ?_; rintro e w' ⟨rfl, hS⟩
 exact ⟨rfl, wk_Below hB hS (fun k_ hk_ => hk_.2) hB.size, hS.2.1.mono (fun k_ hk_ => hk_.1)⟩
set_option maxHeartbeats 8000000
set_option maxRecDepth 100000
def laws_markDirS.l0 : Nat → List (S174) → Int → Int → Option Int
 | 0, _, _, _ => none
 | k + 1, l, m, i => if i < (l.length : Int) then (if 0 ≤ i then ((laws_markText.f k (wrap64 ((wrap64 ((wrap64 (m + 1)) + 1)) + 1))).bind fun t1_ => laws_markDirS.l0 k l (wrap64 ((wrap64 ((wrap64 ((wrap64 (m + 1)) + 1)) + 1)) + 1)) (wrap64 (i + 1))) else none) else some m
def laws_markDirS.f (k : Nat) (l0 : List (S174)) (a1 : Int) : Option Int := laws_markDirS.l0 k l0 a1 0
theorem laws_markDirS.callsW (k : Nat) : ∀ (ok : Nat → Prop) (base : Nat) (v : Value) (l : List (S174)) (m r : Int) (d w : World) (hR : Kd.R (k174) 174 d base ok v l) (hS : wk_Sk ok d w) (h : laws_markDirS.l0 k l m 0 = some r),
  Calls Try.prog 129 #[v, .int .i64 m] w fun e w' => e = .returned (.int .i64 r) ∧ wk_Sk ok d w' := by
 induction k using Nat.strongRecOn with
 | _ k ih =>
 intro ok base v l m r d w hR hS h; have hu32 := Try.underlying32; have hu174 := Try.underlying174; obtain ⟨A0, c0, e0⟩ := Kd.R_slice hR; subst e0; have HR := qO hR; have HS0 := qO hS; have H0' := qO h; clear h hR hS
 go_enter Try.func129, Try.ntmps129
 go_wp2
 go_loopg [1, 5] k (fun kq v1 v5 w' => ∃ (m i : Int), v1 = .int .i64 m ∧ v5 = .int .i64 i ∧ Aside0 (laws_markDirS.l0 kq l m i = some r) ∧ Aside0 (kq ≤ k) ∧ Aside0 (wk_Sk ok d w'))
 case atStart => exact ⟨m, 0, rfl, rfl, H0', ⟨Nat.le_refl _⟩, HS0⟩
 case round =>
  clear H0' HS0; obtain ⟨m, i, rfl, rfl, HA, HK1, HSwr⟩ := hrel
  cases gk with
  | zero => exact absurd HA.out (by simp [laws_markDirS.l0])
  | succ k1 =>
   have H := HA.out; clear HA; simp only [laws_markDirS.l0] at H
   by_cases c1 : i < (l.length : Int)
   ·rw [if_pos c1] at H
    by_cases c2 : 0 ≤ i
    ·rw [if_pos c2] at H
     obtain ⟨xe, hxe⟩ : ∃ xe, xe = rd_T174 l i := ⟨_, rfl⟩; (try rw [← hxe] at H); replace H := Option.bind_eq_some_iff.mp H; obtain ⟨t1_, A1_0, H⟩ := H; have A1_ := qO A1_0; clear A1_0; have H' := qO (show laws_markDirS.l0 k1 l (wrap64 ((wrap64 ((wrap64 ((wrap64 (m + 1)) + 1)) + 1)) + 1)) (wrap64 (i + 1)) = some r from H); clear H; have c1b := decide_eq_true c1; have c2b := decide_eq_true c2; obtain ⟨go, co, eo, gb, gl, cl, HG⟩ := Kd.R_form HR.out qa5; (first | cases eo | (injection eo with ea_ en_ ec_; (first | subst ea_ | (injection ea_ with ea_; subst ea_)); subst ec_; clear en_)); have HOK := qO (HR.out.1 go rfl); have HGd := qO HG; obtain ⟨ce, hcl, hM, hcc, hfr⟩ := Kd.R_elem HR.out z174 i c2 c1; rw [show List.getD l i.toNat z174 = xe from hxe.symm] at hM; clear hxe; obtain rfl := k174_openM hM; have hd0 : d.cell? ⟨go, i.toNat * 4, none⟩ = some (.bool (xe.f0)) := hcc 0 _ rfl; have hd1 : d.cell? ⟨go, i.toNat * 4 + 1, none⟩ = some (.int .i64 (xe.f1.f0)) := hcc 1 _ rfl; have hd2 : d.cell? ⟨go, i.toNat * 4 + 2, none⟩ = some (.int .i64 (xe.f1.f1)) := hcc 2 _ rfl; have hd3 : d.cell? ⟨go, i.toNat * 4 + 3, none⟩ = some (.string (xe.f1.f2)) := hcc 3 _ rfl
     
     obtain ⟨uwr_0, hxwr_0⟩ := wk_some HSwr.out HGd.out hd0; obtain ⟨uwr_1, hxwr_1⟩ := wk_some HSwr.out HGd.out hd1; obtain ⟨uwr_2, hxwr_2⟩ := wk_some HSwr.out HGd.out hd2; obtain ⟨uwr_3, hxwr_3⟩ := wk_some HSwr.out HGd.out hd3; have hfwr_0 : wr.frozen? ⟨go, i.toNat * 4, none⟩ = false := wk_froz HSwr.out HGd.out _; have hfwr_1 : wr.frozen? ⟨go, i.toNat * 4 + 1, none⟩ = false := wk_froz HSwr.out HGd.out _; have hfwr_2 : wr.frozen? ⟨go, i.toNat * 4 + 2, none⟩ = false := wk_froz HSwr.out HGd.out _; have hfwr_3 : wr.frozen? ⟨go, i.toNat * 4 + 3, none⟩ = false := wk_froz HSwr.out HGd.out _; clear hcc hfr hcl HG gb gl; (try clear hM); replace c1 := eq_true c1; replace c2 := eq_true c2
     go_wp2_with (first | ((with_reducible refine gate_callee (f := 77) rfl ?_); refine goesL_ (some 40) rfl rfl Try.func77 qa8 rfl #[.int .i64 (wrap64 ((wrap64 ((wrap64 (m + 1)) + 1)) + 1))] rfl qa7 ?_; (with_reducible refine (laws_markText.calls k1 (wrap64 ((wrap64 ((wrap64 (m + 1)) + 1)) + 1)) t1_ _ A1_.out).mono ?_); rintro e w1x ⟨rfl, hd_⟩; have HSw1x := qO (wk_below (wk_set (wk_set (wk_set HSwr.out HGd.out HOK.out hd0 qa11 _) HGd.out HOK.out hd1 qa11 _) HGd.out HOK.out hd2 qa11 _) hd_); clear hd_; refine ⟨_, rfl, ?_⟩; obtain ⟨uw1x_0, hxw1x_0⟩ := wk_some HSw1x.out HGd.out hd0; obtain ⟨uw1x_1, hxw1x_1⟩ := wk_some HSw1x.out HGd.out hd1; obtain ⟨uw1x_2, hxw1x_2⟩ := wk_some HSw1x.out HGd.out hd2; obtain ⟨uw1x_3, hxw1x_3⟩ := wk_some HSw1x.out HGd.out hd3; have hfw1x_0 : w1x.frozen? ⟨go, i.toNat * 4, none⟩ = false := wk_froz HSw1x.out HGd.out _; have hfw1x_1 : w1x.frozen? ⟨go, i.toNat * 4 + 1, none⟩ = false := wk_froz HSw1x.out HGd.out _; have hfw1x_2 : w1x.frozen? ⟨go, i.toNat * 4 + 2, none⟩ = false := wk_froz HSw1x.out HGd.out _; have hfw1x_3 : w1x.frozen? ⟨go, i.toNat * 4 + 3, none⟩ = false := wk_froz HSw1x.out HGd.out _))
     go_roundg k1
     case measure => have := HK1.out; omega
     case rel => exact ⟨(wrap64 ((wrap64 ((wrap64 ((wrap64 (m + 1)) + 1)) + 1)) + 1)), wrap64 (i + 1), qa4, qa4, H', ⟨qa9⟩, ⟨(wk_set HSw1x.out HGd.out HOK.out hd3 qa11 _)⟩⟩
    ·rw [if_neg c2] at H
     exact absurd H qa12
   ·rw [if_neg c1] at H
    have c1b := decide_eq_false c1; clear c1; simp only [Option.some.injEq] at H; subst H; go_wp2
    go_ret
    exact ⟨rfl, HSwr.out⟩
theorem laws_markDirS.calls (k : Nat) (P0_ : Nat → Prop) (u9000_ : Value) (l0 : List (S174)) (a1 : Int) (r1 : Int) (w0 w : World) (hB : Below w0.heap.size w0 w) (ho0 : Kd.R (k174) 174 w w0.heap.size P0_ u9000_ l0) (h : laws_markDirS.f k l0 a1 = some r1) :
  Calls Try.prog 129 #[u9000_, .int .i64 a1] w fun e w' => e = .returned (.int .i64 r1) ∧ Below w0.heap.size w0 w' ∧ Kept w w' (fun k_ => P0_ k_) := by
 refine (laws_markDirS.callsW k (fun k_ => P0_ k_ ∧ w0.heap.size ≤ k_) w0.heap.size u9000_ l0 a1 r1 w w (Kd.R_mono (Kd.R_bound ho0) (fun k_ hk_ => ⟨hk_.1, hk_.2.1⟩)) (wk_refl _ _) h).mono ?_; rintro e w' ⟨rfl, hS⟩
 exact ⟨rfl, wk_Below hB hS (fun k_ hk_ => hk_.2) hB.size, hS.2.1.mono (fun k_ hk_ => hk_.1)⟩
set_option maxHeartbeats 8000000
set_option maxRecDepth 100000
def laws_markBindingS.l0 : Nat → List (S80) → Int → Int → Option Int
 | 0, _, _, _ => none
 | k + 1, l, m, i => if i < (l.length : Int) then (if 0 ≤ i then ((laws_markText.f k m).bind fun t1_ => ((laws_markText.f k (wrap64 ((wrap64 ((wrap64 (m + 1)) + 1)) + 1))).bind fun t2_ => laws_markBindingS.l0 k l (wrap64 ((wrap64 ((wrap64 ((wrap64 (m + 1)) + 1)) + 1)) + 1)) (wrap64 (i + 1)))) else none) else some m
def laws_markBindingS.f (k : Nat) (l0 : List (S80)) (a1 : Int) : Option Int := laws_markBindingS.l0 k l0 a1 0
theorem laws_markBindingS.callsW (k : Nat) : ∀ (ok : Nat → Prop) (base : Nat) (v : Value) (l : List (S80)) (m r : Int) (d w : World) (hR : Kd.R (k80) 80 d base ok v l) (hS : wk_Sk ok d w) (h : laws_markBindingS.l0 k l m 0 = some r),
  Calls Try.prog 76 #[v, .int .i64 m] w fun e w' => e = .returned (.int .i64 r) ∧ wk_Sk ok d w' := by
 induction k using Nat.strongRecOn with
 | _ k ih =>
 intro ok base v l m r d w hR hS h; have hu32 := Try.underlying32; have hu80 := Try.underlying80; obtain ⟨A0, c0, e0⟩ := Kd.R_slice hR; subst e0; have HR := qO hR; have HS0 := qO hS; have H0' := qO h; clear h hR hS
 go_enter Try.func76, Try.ntmps76
 go_wp2
 go_loopg [1, 5] k (fun kq v1 v5 w' => ∃ (m i : Int), v1 = .int .i64 m ∧ v5 = .int .i64 i ∧ Aside0 (laws_markBindingS.l0 kq l m i = some r) ∧ Aside0 (kq ≤ k) ∧ Aside0 (wk_Sk ok d w'))
 case atStart => exact ⟨m, 0, rfl, rfl, H0', ⟨Nat.le_refl _⟩, HS0⟩
 case round =>
  clear H0' HS0; obtain ⟨m, i, rfl, rfl, HA, HK1, HSwr⟩ := hrel
  cases gk with
  | zero => exact absurd HA.out (by simp [laws_markBindingS.l0])
  | succ k1 =>
   have H := HA.out; clear HA; simp only [laws_markBindingS.l0] at H
   by_cases c1 : i < (l.length : Int)
   ·rw [if_pos c1] at H
    by_cases c2 : 0 ≤ i
    ·rw [if_pos c2] at H
     obtain ⟨xe, hxe⟩ : ∃ xe, xe = rd_T80 l i := ⟨_, rfl⟩; (try rw [← hxe] at H); replace H := Option.bind_eq_some_iff.mp H; obtain ⟨t1_, A1_0, H⟩ := H; have A1_ := qO A1_0; clear A1_0; replace H := Option.bind_eq_some_iff.mp H; obtain ⟨t2_, A2_0, H⟩ := H; have A2_ := qO A2_0; clear A2_0; have H' := qO (show laws_markBindingS.l0 k1 l (wrap64 ((wrap64 ((wrap64 ((wrap64 (m + 1)) + 1)) + 1)) + 1)) (wrap64 (i + 1)) = some r from H); clear H; have c1b := decide_eq_true c1; have c2b := decide_eq_true c2; obtain ⟨go, co, eo, gb, gl, cl, HG⟩ := Kd.R_form HR.out qa5; (first | cases eo | (injection eo with ea_ en_ ec_; (first | subst ea_ | (injection ea_ with ea_; subst ea_)); subst ec_; clear en_)); have HOK := qO (HR.out.1 go rfl); have HGd := qO HG; obtain ⟨ce, hcl, hM, hcc, hfr⟩ := Kd.R_elem HR.out z80 i c2 c1; rw [show List.getD l i.toNat z80 = xe from hxe.symm] at hM; clear hxe; obtain rfl := k80_openM hM; have hd0 : d.cell? ⟨go, i.toNat * 4, none⟩ = some (.string (xe.f0)) := hcc 0 _ rfl; have hd1 : d.cell? ⟨go, i.toNat * 4 + 1, none⟩ = some (.int .i64 (xe.f1.f0)) := hcc 1 _ rfl; have hd2 : d.cell? ⟨go, i.toNat * 4 + 2, none⟩ = some (.int .i64 (xe.f1.f1)) := hcc 2 _ rfl; have hd3 : d.cell? ⟨go, i.toNat * 4 + 3, none⟩ = some (.string (xe.f1.f2)) := hcc 3 _ rfl
     
     obtain ⟨uwr_0, hxwr_0⟩ := wk_some HSwr.out HGd.out hd0; obtain ⟨uwr_1, hxwr_1⟩ := wk_some HSwr.out HGd.out hd1; obtain ⟨uwr_2, hxwr_2⟩ := wk_some HSwr.out HGd.out hd2; obtain ⟨uwr_3, hxwr_3⟩ := wk_some HSwr.out HGd.out hd3; have hfwr_0 : wr.frozen? ⟨go, i.toNat * 4, none⟩ = false := wk_froz HSwr.out HGd.out _; have hfwr_1 : wr.frozen? ⟨go, i.toNat * 4 + 1, none⟩ = false := wk_froz HSwr.out HGd.out _; have hfwr_2 : wr.frozen? ⟨go, i.toNat * 4 + 2, none⟩ = false := wk_froz HSwr.out HGd.out _; have hfwr_3 : wr.frozen? ⟨go, i.toNat * 4 + 3, none⟩ = false := wk_froz HSwr.out HGd.out _; clear hcc hfr hcl HG gb gl; (try clear hM); replace c1 := eq_true c1; replace c2 := eq_true c2
     go_wp2_with (first | ((with_reducible refine gate_callee (f := 77) rfl ?_); refine goesL_ (some 15) rfl rfl Try.func77 qa8 rfl #[.int .i64 m] rfl qa7 ?_; (with_reducible refine (laws_markText.calls k1 m t1_ _ A1_.out).mono ?_); rintro e w1x ⟨rfl, hd_⟩; have HSw1x := qO (wk_below HSwr.out hd_); clear hd_; refine ⟨_, rfl, ?_⟩; obtain ⟨uw1x_0, hxw1x_0⟩ := wk_some HSw1x.out HGd.out hd0; obtain ⟨uw1x_1, hxw1x_1⟩ := wk_some HSw1x.out HGd.out hd1; obtain ⟨uw1x_2, hxw1x_2⟩ := wk_some HSw1x.out HGd.out hd2; obtain ⟨uw1x_3, hxw1x_3⟩ := wk_some HSw1x.out HGd.out hd3; have hfw1x_0 : w1x.frozen? ⟨go, i.toNat * 4, none⟩ = false := wk_froz HSw1x.out HGd.out _; have hfw1x_1 : w1x.frozen? ⟨go, i.toNat * 4 + 1, none⟩ = false := wk_froz HSw1x.out HGd.out _; have hfw1x_2 : w1x.frozen? ⟨go, i.toNat * 4 + 2, none⟩ = false := wk_froz HSw1x.out HGd.out _; have hfw1x_3 : w1x.frozen? ⟨go, i.toNat * 4 + 3, none⟩ = false := wk_froz HSw1x.out HGd.out _) | ((with_reducible refine gate_callee (f := 77) rfl ?_); refine goesL_ (some 39) rfl rfl Try.func77 qa8 rfl #[.int .i64 (wrap64 ((wrap64 ((wrap64 (m + 1)) + 1)) + 1))] rfl qa7 ?_; (with_reducible refine (laws_markText.calls k1 (wrap64 ((wrap64 ((wrap64 (m + 1)) + 1)) + 1)) t2_ _ A2_.out).mono ?_); rintro e w2x ⟨rfl, hd_⟩; have HSw2x := qO (wk_below (wk_set (wk_set (wk_set HSw1x.out HGd.out HOK.out hd0 qa11 _) HGd.out HOK.out hd1 qa11 _) HGd.out HOK.out hd2 qa11 _) hd_); clear hd_; refine ⟨_, rfl, ?_⟩; obtain ⟨uw2x_0, hxw2x_0⟩ := wk_some HSw2x.out HGd.out hd0; obtain ⟨uw2x_1, hxw2x_1⟩ := wk_some HSw2x.out HGd.out hd1; obtain ⟨uw2x_2, hxw2x_2⟩ := wk_some HSw2x.out HGd.out hd2; obtain ⟨uw2x_3, hxw2x_3⟩ := wk_some HSw2x.out HGd.out hd3; have hfw2x_0 : w2x.frozen? ⟨go, i.toNat * 4, none⟩ = false := wk_froz HSw2x.out HGd.out _; have hfw2x_1 : w2x.frozen? ⟨go, i.toNat * 4 + 1, none⟩ = false := wk_froz HSw2x.out HGd.out _; have hfw2x_2 : w2x.frozen? ⟨go, i.toNat * 4 + 2, none⟩ = false := wk_froz HSw2x.out HGd.out _; have hfw2x_3 : w2x.frozen? ⟨go, i.toNat * 4 + 3, none⟩ = false := wk_froz HSw2x.out HGd.out _))
     go_roundg k1
     case measure => have := HK1.out; omega
     case rel => exact ⟨(wrap64 ((wrap64 ((wrap64 ((wrap64 (m + 1)) + 1)) + 1)) + 1)), wrap64 (i + 1), qa4, qa4, H', ⟨qa9⟩, ⟨(wk_set HSw2x.out HGd.out HOK.out hd3 qa11 _)⟩⟩
    ·rw [if_neg c2] at H
     exact absurd H qa12
   ·rw [if_neg c1] at H
    have c1b := decide_eq_false c1; clear c1; simp only [Option.some.injEq] at H; subst H; go_wp2
    go_ret
    exact ⟨rfl, HSwr.out⟩
theorem laws_markBindingS.calls (k : Nat) (P0_ : Nat → Prop) (u9000_ : Value) (l0 : List (S80)) (a1 : Int) (r1 : Int) (w0 w : World) (hB : Below w0.heap.size w0 w) (ho0 : Kd.R (k80) 80 w w0.heap.size P0_ u9000_ l0) (h : laws_markBindingS.f k l0 a1 = some r1) :
  Calls Try.prog 76 #[u9000_, .int .i64 a1] w fun e w' => e = .returned (.int .i64 r1) ∧ Below w0.heap.size w0 w' ∧ Kept w w' (fun k_ => P0_ k_) := by
 refine (laws_markBindingS.callsW k (fun k_ => P0_ k_ ∧ w0.heap.size ≤ k_) w0.heap.size u9000_ l0 a1 r1 w w (Kd.R_mono (Kd.R_bound ho0) (fun k_ hk_ => ⟨hk_.1, hk_.2.1⟩)) (wk_refl _ _) h).mono ?_; rintro e w' ⟨rfl, hS⟩
 exact ⟨rfl, wk_Below hB hS (fun k_ hk_ => hk_.2) hB.size, hS.2.1.mono (fun k_ hk_ => hk_.1)⟩
end Go.Proofs.Ytfpkooafbeejmaa.Q
namespace Go.Proofs.Ytfpkooafbeejmaa.Pure2
open Go.RowKit Go.Proofs.Ytfpkooafbeejmaa.Q Go.Proofs.YtfpkooafbeejmaaW.PrintWords Go.Proofs.YtfpkooafbeejmaaW.PrintLast
set_option linter.unusedVariables false
set_option linter.unusedSimpArgs false
/-! loops over lists -/
theorem getD_mem {α : Type} (l : List α) (z : α) (j : Nat) (h : j < l.length) : l.getD j z ∈ l := by rw [List.getD_eq_getElem?_getD, List.getElem?_eq_getElem h]; exact List.getElem_mem h
theorem wsub (a : Int) (n : Nat) (h0 : 0 ≤ a) (h1 : a ≤ 1048576) (hn : n ≤ 9223372036854775807) : wrap64 (a - (n : Int)) = a - (n : Int) := by unfold wrap64; omega
theorem sz_loop {α : Type} (l : List α) (z : α) (P : α → Prop) (a : Int) (h0 : 0 ≤ a) (L : Nat → Int → Int → Option Int) (hend : ∀ k s, L (k + 1) s (l.length : Int) = some s)
    (hx : ∀ j, j < l.length → ∀ s, 0 ≤ s → s ≤ a → ∃ t, (t < 0 ∨ 0 ≤ t ∧ t ≤ s ∧ P (l.getD j z)) ∧ ∃ K, ∀ k, K ≤ k → L (k + 1) s (j : Int) = if t < 0 then some (-1) else L k t ((j + 1 : Nat) : Int)) :
    ∃ r, Ev (fun k => L k a 0) r ∧ (r < 0 ∨ 0 ≤ r ∧ r ≤ a ∧ ∀ x ∈ l, P x) := by
  obtain ⟨r, hr, he⟩ := state_loop l.length L (fun j s => 0 ≤ s ∧ s ≤ a ∧ ∀ i, i < j → P (l.getD i z)) (fun _ _ r => r < 0 ∨ 0 ≤ r ∧ r ≤ a ∧ ∀ i, i < l.length → P (l.getD i z))
    (fun s hi => ⟨s, .inr hi, ev_now ⟨0, fun k _ => hend k s⟩⟩)
    (fun j s hj hi => by
      obtain ⟨t, ht, K, hk⟩ := hx j hj s hi.1 hi.2.1
      rcases ht with ht | ⟨t0, t1, t2⟩
      · exact .inl ⟨-1, .inl qa5, ev_now ⟨K, fun k h => by rw [hk k h, if_pos ht]⟩⟩
      · refine .inr ⟨t, ⟨t0, qa5, fun i hij => ?_⟩, fun r h => h, K, fun k h => by rw [hk k h, if_neg qa5]⟩
        rcases Nat.lt_or_eq_of_le (Nat.le_of_lt_succ hij) with h' | rfl
        · exact hi.2.2 i h'
        · exact t2) 0 a qa5 ⟨h0, qa5, fun i hi => by omega⟩
  refine ⟨r, he, ?_⟩
  rcases hr with hr | ⟨h2, h3, h4⟩
  · exact .inl hr
  · refine .inr ⟨h2, h3, fun x hx' => ?_⟩
    obtain ⟨i, hi, rfl⟩ := List.getElem_of_mem hx'
    have := h4 i hi
    rw [List.getD_eq_getElem?_getD, List.getElem?_eq_getElem hi] at this
    exact this
theorem eq_loop {α : Type} (n : Nat) (L : Nat → Int → Option Bool) (hend : ∀ k, L (k + 1) (n : Int) = some true) (hs : ∀ j, j < n → ∃ K, ∀ k, K ≤ k → L (k + 1) (j : Int) = L k ((j + 1 : Nat) : Int)) : Ev (fun k => L k 0) true := by
  obtain ⟨r, hr, he⟩ := count_loop n L (fun _ r => r = true) ⟨true, rfl, ev_now ⟨0, fun k _ => hend k⟩⟩ (fun j hj r hr he => ⟨r, hr, ev_step (hs j hj) he⟩) 0 qa5
  subst hr
  exact he
/-! loops over lists, counted by what they hold -/
theorem psum_succ {α : Type} (f : α → Nat) (l : List α) (z : α) (j : Nat) (h : j < l.length) : ((l.take (j + 1)).map f).sum = ((l.take j).map f).sum + f (l.getD j z) := by
  rw [List.take_succ_eq_append_getElem h, List.map_append, List.sum_append]
  simp [List.getD_eq_getElem?_getD, List.getElem?_eq_getElem h]
theorem psum_le {α : Type} (f : α → Nat) (l : List α) (j : Nat) : ((l.take j).map f).sum ≤ (l.map f).sum := by
  have h : (l.map f).sum = ((l.take j).map f).sum + ((l.drop j).map f).sum := by rw [← List.sum_append, ← List.map_append, List.take_append_drop]
  omega
theorem psum_len {α : Type} (f : α → Nat) (l : List α) : ((l.take l.length).map f).sum = (l.map f).sum := by rw [List.take_length]
theorem sum_one {α : Type} (c : α → Nat) : ∀ l : List α, (l.map (fun x => 1 + c x)).sum = l.length + (l.map c).sum
  | [] => rfl
  | a :: l => by simp only [List.map_cons, List.sum_cons, List.length_cons, sum_one c l]; omega
theorem sum_ones {α : Type} : ∀ l : List α, (l.map (fun _ : α => 1)).sum = l.length
  | [] => rfl
  | a :: l => by simp only [List.map_cons, List.sum_cons, List.length_cons, sum_ones l]; omega
theorem mem_sum {α : Type} (c : α → Nat) : ∀ (l : List α) (x : α), x ∈ l → c x ≤ (l.map c).sum
  | a :: l, x, h => by
    rcases List.mem_cons.1 h with h | h
    · subst h; simp only [List.map_cons, List.sum_cons]; omega
    · have := mem_sum c l x h; simp only [List.map_cons, List.sum_cons]; omega
theorem ev_shift {α : Type} {g f : Nat → Option α} {r : α} (m : Nat) (h : ∃ K, ∀ k, K ≤ k → g (k + m) = f k) (k : Ev f r) : Ev g r := by
  obtain ⟨K, h⟩ := h
  obtain ⟨K', k⟩ := k
  refine ⟨max K K' + m, fun n hn => ?_⟩
  obtain ⟨q, rfl⟩ : ∃ q, n = q + m := ⟨n - m, qa5⟩
  rw [h q qa5, k q qa5]
theorem state_loop2 {σ ρ : Type} (n : Nat) (L : Nat → σ → Int → Option ρ) (Inv : Nat → σ → Prop) (Post : ρ → Prop) (hend : ∀ s, Inv n s → ∃ r, Post r ∧ Ev (fun k => L k s (n : Int)) r)
    (hstep : ∀ j s, j < n → Inv j s → (∃ r, Post r ∧ Ev (fun k => L k s (j : Int)) r) ∨ ∃ s', Inv (j + 1) s' ∧ ∀ r, Ev (fun k => L k s' ((j + 1 : Nat) : Int)) r → Ev (fun k => L k s (j : Int)) r) :
    ∀ j s, j ≤ n → Inv j s → ∃ r, Post r ∧ Ev (fun k => L k s (j : Int)) r := by
  have key : ∀ d j s, j ≤ n → n - j = d → Inv j s → ∃ r, Post r ∧ Ev (fun k => L k s (j : Int)) r := by
    intro d
    induction d with
    | zero => intro j s hj hd hi; obtain rfl : j = n := by omega
              exact hend s hi
    | succ d ih =>
      intro j s hj hd hi
      rcases hstep j s qa5 hi with h | ⟨s', hi', hk⟩
      · exact h
      · obtain ⟨r, hr, he⟩ := ih (j + 1) s' qa5 qa5 hi'
        exact ⟨r, hr, hk r he⟩
  intro j s hj hi
  exact key _ j s hj rfl hi
/-- The measure of a list. -/
theorem szs {α : Type} (z : α) (c : α → Nat) (F : Nat → Option Int) (L : Nat → Int → Int → Option Int) (l : List α) (a : Int) (h0 : 0 ≤ a) (h1 : a ≤ 1048576)
    (hneg : a - (l.length : Int) < 0 → Ev F (-1)) (hpos : ¬ a - (l.length : Int) < 0 → ∀ r, Ev (fun k => L k (a - (l.length : Int)) 0) r → Ev F r)
    (hL0 : ∀ k s, L (k + 1) s (l.length : Int) = some s)
    (hL1 : ∀ j, j < l.length → l.length ≤ 1048576 → ∀ s : Int, 0 ≤ s → s ≤ 1048576 → ∃ t : Int, (t < 0 ∨ 0 ≤ t ∧ t + (c (l.getD j z) : Nat) ≤ s) ∧ ∃ K, ∀ k, K ≤ k → L (k + 1) s (j : Int) = if t < 0 then some (-1) else L k t ((j + 1 : Nat) : Int)) :
    ∃ r : Int, Ev F r ∧ (r < 0 ∨ 0 ≤ r ∧ r + ((l.map (fun x => 1 + c x)).sum : Nat) ≤ a) := by
  rw [sum_one]
  by_cases h : a - (l.length : Int) < 0
  · exact ⟨-1, hneg h, .inl qa5⟩
  · obtain ⟨r, hr, he⟩ := state_loop2 l.length L (fun j s => 0 ≤ s ∧ s + (((l.take j).map c).sum : Nat) ≤ a - (l.length : Int)) (fun r => r < 0 ∨ 0 ≤ r ∧ r + ((l.map c).sum : Nat) ≤ a - (l.length : Int))
      (fun s hi => ⟨s, .inr ⟨hi.1, by have := hi.2; rw [psum_len] at this; exact this⟩, ev_now ⟨0, fun k _ => hL0 k s⟩⟩)
      (fun j s hj hi => by
        obtain ⟨t, ht, K, hK⟩ := hL1 j hj qa5 s hi.1 (by have := hi.2; omega)
        have ps := psum_succ c l z j hj
        rcases ht with ht | ⟨t0, t1⟩
        · exact .inl ⟨-1, .inl qa5, ev_now ⟨K, fun k hk => by rw [hK k hk, if_pos ht]⟩⟩
        · exact .inr ⟨t, ⟨t0, by have := hi.2; omega⟩, fun r hr => ev_shift 1 ⟨K, fun k hk => by rw [hK k hk, if_neg qa5]⟩ hr⟩) 0 (a - l.length) qa5 ⟨qa5, qa12⟩
    refine ⟨r, hpos h r he, ?_⟩
    rcases hr with hr | hr
    · exact .inl hr
    · exact .inr ⟨hr.1, qa5⟩
/-- Marks of a list: only how far they count. -/
theorem mks {α : Type} (z : α) (c : α → Nat) (L : Nat → Int → Int → Option Int) (l : List α) (m0 : Int) (h1 : 1 ≤ m0) (hB : m0 + 6 * ((l.map c).sum : Nat) ≤ 1099511627776)
    (hL0 : ∀ k m, L (k + 1) m (l.length : Int) = some m)
    (hL1 : ∀ j, j < l.length → ∀ m : Int, 1 ≤ m → m + 6 * (c (l.getD j z) : Nat) ≤ 1099511627776 → ∃ m' : Int, m ≤ m' ∧ m' ≤ m + 6 * (c (l.getD j z) : Nat) ∧ ∃ K, ∀ k, K ≤ k → L (k + 1) m (j : Int) = L k m' ((j + 1 : Nat) : Int)) :
    ∃ r : Int, Ev (fun k => L k m0 0) r ∧ m0 ≤ r ∧ r ≤ m0 + 6 * ((l.map c).sum : Nat) := by
  obtain ⟨r, ⟨hr1, hr2⟩, he⟩ := state_loop2 l.length L (fun j m => m0 ≤ m ∧ m ≤ m0 + 6 * (((l.take j).map c).sum : Nat)) (fun r => m0 ≤ r ∧ r ≤ m0 + 6 * ((l.map c).sum : Nat))
    (fun m hi => ⟨m, by have := hi.2; rw [psum_len] at this; exact ⟨hi.1, this⟩, ev_now ⟨0, fun k _ => hL0 k m⟩⟩)
    (fun j m hj hi => by
      have ps := psum_succ c l z j hj
      have hle := psum_le c l (j + 1)
      obtain ⟨m', a1, a2, K, hK⟩ := hL1 j hj m qa5 qa5
      exact .inr ⟨m', ⟨qa5, qa5⟩, fun r hr => ev_shift 1 ⟨K, hK⟩ hr⟩) 0 m0 qa5 ⟨qa5, qa12⟩
  exact ⟨r, he, hr1, hr2⟩
theorem mark_text_from : ∀ (d : Nat) (a : Nat) (s : ByteArray), a < d → d ≤ 4611686018427387904 → s.size + d ≤ 4611686018427387904 → ∃ t, Ev (fun k => laws_markText.l0 k (a : Int) s) t := by
  intro d
  induction d with
  | zero => intro a s h; omega
  | succ d ih =>
    intro a s h h1 h2
    by_cases hz : a = 0
    · subst hz
      exact ⟨_, ev_now ⟨0, fun k _ => by simp only [laws_markText.l0]; rw [if_neg qa5, if_pos qa5]⟩⟩
    · have e2 : wrap64 (Int.tdiv (a : Int) 10) = ((a / 10 : Nat) : Int) := by rw [Int.tdiv_eq_ediv_of_nonneg qa5]; unfold wrap64; omega
      have hs : ∀ x : Int, (strOfNums [x]).size = 1 := fun x => rfl
      obtain ⟨t, ht⟩ := ih (a / 10) ((strOfNums ([(wrap64 (48 + (Int.tmod (a : Int) 10))) % 256] : List Int)) ++ s) qa5 qa5 (by rw [ByteArray.size_append, hs]; omega)
      refine ⟨t, ev_step ⟨0, fun k _ => ?_⟩ ht⟩
      simp only [laws_markText.l0, Option.bind_some]
      rw [if_pos qa5, if_pos (by rw [hs]; omega), e2]
theorem mark_text (a : Int) (h1 : a ≤ 4611686018427387903) : ∃ t, Ev (fun k => laws_markText.f k a) t := by
  by_cases h : a ≤ 0
  · exact ⟨_, ev_mk 0 fun k _ => by unfold laws_markText.f; rw [if_pos h]⟩
  · obtain ⟨t, ht⟩ := mark_text_from (a.toNat + 1) a.toNat (⟨#[]⟩ : ByteArray) qa5 qa5 (by show 0 + _ ≤ _; omega)
    refine ⟨t, ev_same ⟨0, fun k _ => ?_⟩ ht⟩
    unfold laws_markText.f
    rw [if_neg h, show ((a.toNat : Nat) : Int) = a by omega]
theorem w1 (m : Int) (h : 0 ≤ m) (h1 : m ≤ 4611686018427387903) : wrap64 (m + 1) = m + 1 := by unfold wrap64; omega
theorem sz_Arg (x : S204) (s : Int) (h0 : 0 ≤ s) (h1 : s ≤ 1048576) (hi : i204 x) : ∃ t, laws_szArg.f x.f0 x.f1.f0 x.f1.f1 x.f1.f2 s = some t ∧ (t < 0 ∨ 0 ≤ t ∧ t + (0 : Nat) ≤ s) := by
  have hw := wsub s x.f0.size h0 h1 hi.1
  unfold laws_szArg.f
  rw [hw]
  by_cases h : s - (x.f0.size : Int) < 0
  · rw [if_pos h]; exact ⟨_, rfl, .inl qa5⟩
  · rw [if_neg h]
    have hw2 := wsub (s - (x.f0.size : Int)) x.f1.f2.size qa5 qa5 hi.2.2.2
    unfold laws_szValue.f
    rw [hw2]
    by_cases h2 : s - (x.f0.size : Int) - (x.f1.f2.size : Int) < 0
    · rw [if_pos h2]; exact ⟨-1, rfl, .inl qa5⟩
    · rw [if_neg h2]; simp only [Option.bind_some]; rw [if_neg h2]; exact ⟨_, rfl, .inr qa5⟩
theorem sz_ArgS (l : List S204) (a : Int) (h0 : 0 ≤ a) (h1 : a ≤ 1048576) (hl : l.length ≤ 9223372036854775807) (hx : ∀ x ∈ l, i204 x) : ∃ r, Ev (fun k => laws_szArgS.f k l a) r ∧ (r < 0 ∨ 0 ≤ r ∧ r + (l.length : Nat) ≤ a) := by
  have hw := wsub a l.length h0 h1 hl
  obtain ⟨r, he, hr⟩ := szs z204 (fun _ => 0) (fun k => laws_szArgS.f k l a) (fun k s i => laws_szArgS.l0 k l s i) l a h0 h1
    (fun h => ev_mk 0 fun k _ => by unfold laws_szArgS.f; rw [hw, if_pos h])
    (fun h r he => ev_same ⟨0, fun k _ => by unfold laws_szArgS.f; rw [hw, if_neg h]⟩ he)
    (fun k s => by simp only [laws_szArgS.l0]; rw [if_neg qa5])
    (fun j hj hl' s s0 s1 => by
      obtain ⟨t, e, ht⟩ := sz_Arg (l.getD j z204) s s0 s1 (hx _ (getD_mem l _ j hj))
      refine ⟨t, ht, 0, fun k _ => ?_⟩
      simp only [laws_szArgS.l0]
      rw [if_pos qa5, if_pos qa5, show rd_T204 l (j : Int) = l.getD j z204 from rfl, e]; simp only [Option.bind_some]; rw [wsucc hj qa5])
  refine ⟨r, he, hr.imp (fun h => h) (fun h => ⟨h.1, ?_⟩)⟩
  have := h.2
  rw [sum_one] at this
  omega
def cvArg (x : S204) : S172 := ⟨x.f0, ⟨x.f1.f0, x.f1.f1, x.f1.f2⟩⟩
theorem to_ArgS (l : List S204) (hl : l.length ≤ 1048576) : Ev (fun k => laws_toArgS.f k l) (l.map cvArg) := by
  have h := fill_loop l z204 cvArg (fun k y i => laws_toArgS.l0 k l y i) (fun y hy => ⟨0, fun k _ => by simp only [laws_toArgS.l0]; rw [if_neg qa5]⟩)
    (fun j y hj hy => ⟨0, fun k _ => by
      simp only [laws_toArgS.l0, laws_toArg.f, laws_toValue.f, Option.bind_some]; rw [if_pos qa5, if_pos qa5, if_pos qa5, wsucc hj qa5]; rfl⟩) (List.replicate l.length z172) qa12
  refine ev_same ⟨0, fun k _ => ?_⟩ h
  unfold laws_toArgS.f
  rw [if_pos qa5, if_pos qa44, Int.toNat_natCast]
theorem eq_Arg (x : S172) : laws_eqArg.f x.f0 x.f1.f0 x.f1.f1 x.f1.f2 x.f0 x.f1.f0 x.f1.f1 x.f1.f2 = some true := by
  unfold laws_eqArg.f laws_eqValue.f
  simp
theorem eq_ArgS (l : List S172) (hl : l.length ≤ 1048576) : Ev (fun k => laws_eqArgS.f k l l) true := by
  refine ev_same ⟨0, fun k _ => ?_⟩ (eq_loop (α := S172) l.length (fun k i => laws_eqArgS.l0 k l l i) (fun k => by simp only [laws_eqArgS.l0]; rw [if_neg qa5])
    (fun j hj => ⟨0, fun k _ => by simp only [laws_eqArgS.l0]; rw [if_pos qa5, if_pos qa5, if_pos qa5, eq_Arg]; simp only [Option.bind_some, if_true]; rw [wsucc hj qa5]⟩))
  unfold laws_eqArgS.f
  rw [if_pos rfl]
theorem mk_ArgS (l : List S172) (m0 : Int) (h1 : 1 ≤ m0) (hB : m0 + 6 * (l.length : Int) ≤ 1099511627776) : ∃ r, Ev (fun k => laws_markArgS.l0 k l m0 0) r ∧ m0 ≤ r ∧ r ≤ m0 + 6 * (l.length : Int) := by
  have hs : (l.map (fun _ : S172 => 1)).sum = l.length := sum_ones l
  obtain ⟨r, he, a1, a2⟩ := mks z172 (fun _ => 1) (fun k m i => laws_markArgS.l0 k l m i) l m0 h1 (by rw [hs]; exact hB)
    (fun k m => by simp only [laws_markArgS.l0]; rw [if_neg qa5])
    (fun j hj m m1 m2 => by
      have w1a := w1 m qa5 qa5
      have w1b := w1 (m + 1) qa5 qa5
      have w1c := w1 (m + 1 + 1) qa5 qa5
      have w1d := w1 (m + 1 + 1 + 1) qa5 qa5
      obtain ⟨t0, et0⟩ := mark_text m qa5
      obtain ⟨K0, hK0⟩ := ev_at et0
      obtain ⟨t1, et1⟩ := mark_text (m + 1 + 1 + 1) qa5
      obtain ⟨K1, hK1⟩ := ev_at et1
      refine ⟨m + 1 + 1 + 1 + 1, qa5, qa5, K0 + K1, fun k hk => ?_⟩
      simp only [laws_markArgS.l0]
      rw [if_pos qa5, if_pos qa5, w1a, w1b, w1c]; rw [hK0 k qa5]; simp only [Option.bind_some]; rw [hK1 k qa5]; simp only [Option.bind_some]; rw [w1d, wsucc hj qa5])
  rw [hs] at a2
  exact ⟨r, he, a1, a2⟩
theorem sz_Dir (x : S207) (s : Int) (h0 : 0 ≤ s) (h1 : s ≤ 1048576) (hi : i207 x) : ∃ t, laws_szDir.f x.f0 x.f1.f0 x.f1.f1 x.f1.f2 s = some t ∧ (t < 0 ∨ 0 ≤ t ∧ t + (0 : Nat) ≤ s) := by
  have hw2 := wsub s x.f1.f2.size h0 h1 hi.2.2.2
  unfold laws_szDir.f laws_szValue.f
  rw [hw2]
  by_cases h2 : s - (x.f1.f2.size : Int) < 0
  · rw [if_pos h2]; exact ⟨-1, rfl, .inl qa5⟩
  · rw [if_neg h2]; simp only [Option.bind_some]; rw [if_neg h2]; exact ⟨_, rfl, .inr qa5⟩
theorem sz_DirS (l : List S207) (a : Int) (h0 : 0 ≤ a) (h1 : a ≤ 1048576) (hl : l.length ≤ 9223372036854775807) (hx : ∀ x ∈ l, i207 x) : ∃ r, Ev (fun k => laws_szDirS.f k l a) r ∧ (r < 0 ∨ 0 ≤ r ∧ r + (l.length : Nat) ≤ a) := by
  have hw := wsub a l.length h0 h1 hl
  obtain ⟨r, he, hr⟩ := szs z207 (fun _ => 0) (fun k => laws_szDirS.f k l a) (fun k s i => laws_szDirS.l0 k l s i) l a h0 h1
    (fun h => ev_mk 0 fun k _ => by unfold laws_szDirS.f; rw [hw, if_pos h])
    (fun h r he => ev_same ⟨0, fun k _ => by unfold laws_szDirS.f; rw [hw, if_neg h]⟩ he)
    (fun k s => by simp only [laws_szDirS.l0]; rw [if_neg qa5])
    (fun j hj hl' s s0 s1 => by
      obtain ⟨t, e, ht⟩ := sz_Dir (l.getD j z207) s s0 s1 (hx _ (getD_mem l _ j hj))
      refine ⟨t, ht, 0, fun k _ => ?_⟩
      simp only [laws_szDirS.l0]
      rw [if_pos qa5, if_pos qa5, show rd_T207 l (j : Int) = l.getD j z207 from rfl, e]; simp only [Option.bind_some]; rw [wsucc hj qa5])
  refine ⟨r, he, hr.imp (fun h => h) (fun h => ⟨h.1, ?_⟩)⟩
  have := h.2
  rw [sum_one] at this
  omega
def cvDir (x : S207) : S174 := ⟨x.f0, ⟨x.f1.f0, x.f1.f1, x.f1.f2⟩⟩
theorem to_DirS (l : List S207) (hl : l.length ≤ 1048576) : Ev (fun k => laws_toDirS.f k l) (l.map cvDir) := by
  have h := fill_loop l z207 cvDir (fun k y i => laws_toDirS.l0 k l y i) (fun y hy => ⟨0, fun k _ => by simp only [laws_toDirS.l0]; rw [if_neg qa5]⟩)
    (fun j y hj hy => ⟨0, fun k _ => by
      simp only [laws_toDirS.l0, laws_toDir.f, laws_toValue.f, Option.bind_some]; rw [if_pos qa5, if_pos qa5, if_pos qa5, wsucc hj qa5]; rfl⟩) (List.replicate l.length z174) qa12
  refine ev_same ⟨0, fun k _ => ?_⟩ h
  unfold laws_toDirS.f
  rw [if_pos qa5, if_pos qa44, Int.toNat_natCast]
theorem eq_Dir (x : S174) : laws_eqDir.f x.f0 x.f1.f0 x.f1.f1 x.f1.f2 x.f0 x.f1.f0 x.f1.f1 x.f1.f2 = some true := by
  unfold laws_eqDir.f laws_eqValue.f
  simp
theorem eq_DirS (l : List S174) (hl : l.length ≤ 1048576) : Ev (fun k => laws_eqDirS.f k l l) true := by
  refine ev_same ⟨0, fun k _ => ?_⟩ (eq_loop (α := S174) l.length (fun k i => laws_eqDirS.l0 k l l i) (fun k => by simp only [laws_eqDirS.l0]; rw [if_neg qa5])
    (fun j hj => ⟨0, fun k _ => by simp only [laws_eqDirS.l0]; rw [if_pos qa5, if_pos qa5, if_pos qa5, eq_Dir]; simp only [Option.bind_some, if_true]; rw [wsucc hj qa5]⟩))
  unfold laws_eqDirS.f
  rw [if_pos rfl]
theorem mk_DirS (l : List S174) (m0 : Int) (h1 : 1 ≤ m0) (hB : m0 + 6 * (l.length : Int) ≤ 1099511627776) : ∃ r, Ev (fun k => laws_markDirS.l0 k l m0 0) r ∧ m0 ≤ r ∧ r ≤ m0 + 6 * (l.length : Int) := by
  have hs : (l.map (fun _ : S174 => 1)).sum = l.length := sum_ones l
  obtain ⟨r, he, a1, a2⟩ := mks z174 (fun _ => 1) (fun k m i => laws_markDirS.l0 k l m i) l m0 h1 (by rw [hs]; exact hB)
    (fun k m => by simp only [laws_markDirS.l0]; rw [if_neg qa5])
    (fun j hj m m1 m2 => by
      have w1a := w1 m qa5 qa5
      have w1b := w1 (m + 1) qa5 qa5
      have w1c := w1 (m + 1 + 1) qa5 qa5
      have w1d := w1 (m + 1 + 1 + 1) qa5 qa5
      obtain ⟨t0, et0⟩ := mark_text (m + 1 + 1 + 1) qa5
      obtain ⟨K0, hK0⟩ := ev_at et0
      refine ⟨m + 1 + 1 + 1 + 1, qa5, qa5, K0, fun k hk => ?_⟩
      simp only [laws_markDirS.l0]
      rw [if_pos qa5, if_pos qa5, w1a, w1b, w1c]; rw [hK0 k qa5]; simp only [Option.bind_some]; rw [w1d, wsucc hj qa5])
  rw [hs] at a2
  exact ⟨r, he, a1, a2⟩
theorem sz_Binding (x : S77) (s : Int) (h0 : 0 ≤ s) (h1 : s ≤ 1048576) (hi : i77 x) : ∃ t, laws_szBinding.f x.f0 x.f1.f0 x.f1.f1 x.f1.f2 s = some t ∧ (t < 0 ∨ 0 ≤ t ∧ t + (0 : Nat) ≤ s) := by
  have hw := wsub s x.f0.size h0 h1 hi.1
  unfold laws_szBinding.f
  rw [hw]
  by_cases h : s - (x.f0.size : Int) < 0
  · rw [if_pos h]; exact ⟨_, rfl, .inl qa5⟩
  · rw [if_neg h]
    have hw2 := wsub (s - (x.f0.size : Int)) x.f1.f2.size qa5 qa5 hi.2.2.2
    unfold laws_szValue.f
    rw [hw2]
    by_cases h2 : s - (x.f0.size : Int) - (x.f1.f2.size : Int) < 0
    · rw [if_pos h2]; exact ⟨-1, rfl, .inl qa5⟩
    · rw [if_neg h2]; simp only [Option.bind_some]; rw [if_neg h2]; exact ⟨_, rfl, .inr qa5⟩
theorem sz_BindingS (l : List S77) (a : Int) (h0 : 0 ≤ a) (h1 : a ≤ 1048576) (hl : l.length ≤ 9223372036854775807) (hx : ∀ x ∈ l, i77 x) : ∃ r, Ev (fun k => laws_szBindingS.f k l a) r ∧ (r < 0 ∨ 0 ≤ r ∧ r + (l.length : Nat) ≤ a) := by
  have hw := wsub a l.length h0 h1 hl
  obtain ⟨r, he, hr⟩ := szs z77 (fun _ => 0) (fun k => laws_szBindingS.f k l a) (fun k s i => laws_szBindingS.l0 k l s i) l a h0 h1
    (fun h => ev_mk 0 fun k _ => by unfold laws_szBindingS.f; rw [hw, if_pos h])
    (fun h r he => ev_same ⟨0, fun k _ => by unfold laws_szBindingS.f; rw [hw, if_neg h]⟩ he)
    (fun k s => by simp only [laws_szBindingS.l0]; rw [if_neg qa5])
    (fun j hj hl' s s0 s1 => by
      obtain ⟨t, e, ht⟩ := sz_Binding (l.getD j z77) s s0 s1 (hx _ (getD_mem l _ j hj))
      refine ⟨t, ht, 0, fun k _ => ?_⟩
      simp only [laws_szBindingS.l0]
      rw [if_pos qa5, if_pos qa5, show rd_T77 l (j : Int) = l.getD j z77 from rfl, e]; simp only [Option.bind_some]; rw [wsucc hj qa5])
  refine ⟨r, he, hr.imp (fun h => h) (fun h => ⟨h.1, ?_⟩)⟩
  have := h.2
  rw [sum_one] at this
  omega
def cvBinding (x : S77) : S80 := ⟨x.f0, ⟨x.f1.f0, x.f1.f1, x.f1.f2⟩⟩
theorem to_BindingS (l : List S77) (hl : l.length ≤ 1048576) : Ev (fun k => laws_toBindingS.f k l) (l.map cvBinding) := by
  have h := fill_loop l z77 cvBinding (fun k y i => laws_toBindingS.l0 k l y i) (fun y hy => ⟨0, fun k _ => by simp only [laws_toBindingS.l0]; rw [if_neg qa5]⟩)
    (fun j y hj hy => ⟨0, fun k _ => by
      simp only [laws_toBindingS.l0, laws_toBinding.f, laws_toValue.f, Option.bind_some]; rw [if_pos qa5, if_pos qa5, if_pos qa5, wsucc hj qa5]; rfl⟩) (List.replicate l.length z80) qa12
  refine ev_same ⟨0, fun k _ => ?_⟩ h
  unfold laws_toBindingS.f
  rw [if_pos qa5, if_pos qa44, Int.toNat_natCast]
theorem eq_Binding (x : S80) : laws_eqBinding.f x.f0 x.f1.f0 x.f1.f1 x.f1.f2 x.f0 x.f1.f0 x.f1.f1 x.f1.f2 = some true := by
  unfold laws_eqBinding.f laws_eqValue.f
  simp
theorem eq_BindingS (l : List S80) (hl : l.length ≤ 1048576) : Ev (fun k => laws_eqBindingS.f k l l) true := by
  refine ev_same ⟨0, fun k _ => ?_⟩ (eq_loop (α := S80) l.length (fun k i => laws_eqBindingS.l0 k l l i) (fun k => by simp only [laws_eqBindingS.l0]; rw [if_neg qa5])
    (fun j hj => ⟨0, fun k _ => by simp only [laws_eqBindingS.l0]; rw [if_pos qa5, if_pos qa5, if_pos qa5, eq_Binding]; simp only [Option.bind_some, if_true]; rw [wsucc hj qa5]⟩))
  unfold laws_eqBindingS.f
  rw [if_pos rfl]
theorem mk_BindingS (l : List S80) (m0 : Int) (h1 : 1 ≤ m0) (hB : m0 + 6 * (l.length : Int) ≤ 1099511627776) : ∃ r, Ev (fun k => laws_markBindingS.l0 k l m0 0) r ∧ m0 ≤ r ∧ r ≤ m0 + 6 * (l.length : Int) := by
  have hs : (l.map (fun _ : S80 => 1)).sum = l.length := sum_ones l
  obtain ⟨r, he, a1, a2⟩ := mks z80 (fun _ => 1) (fun k m i => laws_markBindingS.l0 k l m i) l m0 h1 (by rw [hs]; exact hB)
    (fun k m => by simp only [laws_markBindingS.l0]; rw [if_neg qa5])
    (fun j hj m m1 m2 => by
      have w1a := w1 m qa5 qa5
      have w1b := w1 (m + 1) qa5 qa5
      have w1c := w1 (m + 1 + 1) qa5 qa5
      have w1d := w1 (m + 1 + 1 + 1) qa5 qa5
      obtain ⟨t0, et0⟩ := mark_text m qa5
      obtain ⟨K0, hK0⟩ := ev_at et0
      obtain ⟨t1, et1⟩ := mark_text (m + 1 + 1 + 1) qa5
      obtain ⟨K1, hK1⟩ := ev_at et1
      refine ⟨m + 1 + 1 + 1 + 1, qa5, qa5, K0 + K1, fun k hk => ?_⟩
      simp only [laws_markBindingS.l0]
      rw [if_pos qa5, if_pos qa5, w1a, w1b, w1c]; rw [hK0 k qa5]; simp only [Option.bind_some]; rw [hK1 k qa5]; simp only [Option.bind_some]; rw [w1d, wsucc hj qa5])
  rw [hs] at a2
  exact ⟨r, he, a1, a2⟩
end Go.Proofs.Ytfpkooafbeejmaa.Pure2
