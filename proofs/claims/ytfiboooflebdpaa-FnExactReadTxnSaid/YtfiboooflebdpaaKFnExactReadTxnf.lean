/- Texts of the claim on FnExactReadTxn, gathered by a program of this session: what the program's functions compute (proved by walks), and the plain part. -/
import Derived.Test.YtfiboooflebdpaaKFnExactReadTxne
namespace Go.Proofs.Ytfiboooflebdpaa.Pure2
open Go.RowKit Go.Proofs.Ytfiboooflebdpaa.Q Go.Proofs.YtfiboooflebdpaaW.PrintWords Go.Proofs.YtfiboooflebdpaaW.PrintLast
set_option linter.unusedVariables false
set_option linter.unusedSimpArgs false
/-! marks of rows of versions -/
def mkV (m : Int) (n : Nat) : List S43 := (List.range n).map (fun (j : Nat) => ⟨m + 2 * (j : Int), m + 2 * (j : Int) + 1⟩)
theorem mkV_len (m : Int) (n : Nat) : (mkV m n).length = n := by simp [mkV]
theorem mkV_at (m : Int) (n i : Nat) (h : i < n) : (mkV m n)[i]? = some ⟨m + 2 * (i : Int), m + 2 * (i : Int) + 1⟩ := by simp [mkV, h]
theorem mark_row (l : List S43) (m : Int) (h0 : 0 ≤ m) (hm : m ≤ 4611686018427387904) (hl : l.length ≤ 1048576) : Ev (fun k => laws_markVersionS.f k l m) (m + 2 * (l.length : Int), mkV m l.length) := by
  obtain ⟨r, hr, he⟩ := state_loop l.length (fun k (s : List S43 × Int) i => laws_markVersionS.l0 k s.1 s.2 i) (fun j s => s.2 = m + 2 * (j : Int) ∧ s.1.length = l.length ∧ ∀ i, i < j → s.1[i]? = some ⟨m + 2 * (i : Int), m + 2 * (i : Int) + 1⟩) (fun _ _ r => r = (m + 2 * (l.length : Int), mkV m l.length))
    (fun s hi => ⟨(s.2, s.1), by
      obtain ⟨h1, h2, h3⟩ := hi
      refine Prod.ext h1 (List.ext_getElem? fun i => ?_)
      by_cases h : i < l.length
      · rw [h3 i h, mkV_at m _ i h]
      · rw [List.getElem?_eq_none (show s.1.length ≤ i by omega), List.getElem?_eq_none (by rw [mkV_len]; omega)], ev_now ⟨0, fun k _ => by
        have h2 := hi.2.1
        simp only [laws_markVersionS.l0]; rw [if_neg qa27]⟩⟩)
    (fun j s hj hi => by
      obtain ⟨h1, h2, h3⟩ := hi
      have hw : wrap64 (s.2 + 1) = s.2 + 1 := by unfold wrap64; omega
      have hw2 : wrap64 ((wrap64 (s.2 + 1)) + 1) = s.2 + 2 := by rw [hw]; unfold wrap64; omega
      have hg : ((s.1.set j (⟨s.2, (s.1.getD j z43).f1⟩ : S43)).getD j z43) = ⟨s.2, (s.1.getD j z43).f1⟩ := by
        rw [List.getD_eq_getElem?_getD, List.getElem?_set_self qa27]; rfl
      refine .inr ⟨((s.1.set j (⟨s.2, (s.1.getD j z43).f1⟩ : S43)).set j (⟨s.2, s.2 + 1⟩ : S43), s.2 + 2), ⟨by show s.2 + 2 = _; omega, by simp [h2], fun i hij => ?_⟩, fun r h => h, 0, fun k _ => ?_⟩
      · by_cases he : i = j
        · subst he
          rw [List.getElem?_set_self qa143, h1]
        · rw [List.getElem?_set_ne qa27, List.getElem?_set_ne qa27]
          exact h3 i qa27
      · simp only [laws_markVersionS.l0]
        rw [if_pos qa27, if_pos qa27]
        simp only [Option.bind_some]
        rw [hw2, wsucc hj qa27, hw]
        show laws_markVersionS.l0 k ((s.1.set j (⟨s.2, (s.1.getD j z43).f1⟩ : S43)).set j (⟨((s.1.set j (⟨s.2, (s.1.getD j z43).f1⟩ : S43)).getD j z43).f0, s.2 + 1⟩ : S43)) (s.2 + 2) _ = _
        rw [hg]) 0 (l, m) qa27 ⟨by show m = _; omega, rfl, fun i hi => by omega⟩
  subst hr
  exact ev_same ⟨0, fun k _ => by unfold laws_markVersionS.f; rfl⟩ he
def posV (m : Int) (ls : List (List S43)) (i : Nat) : Int := m + 2 * ((((ls.take i).map List.length).sum : Nat) : Int)
theorem posV_zero (m : Int) (ls : List (List S43)) : posV m ls 0 = m := by simp [posV]
theorem posV_succ (m : Int) (ls : List (List S43)) (i : Nat) (h : i < ls.length) : posV m ls (i + 1) = posV m ls i + 2 * (((ls.getD i []).length : Nat) : Int) := by
  unfold posV
  rw [List.take_add_one, List.getElem?_eq_getElem h, List.getD_eq_getElem?_getD, List.getElem?_eq_getElem h]
  simp only [Option.toList, List.map_append, List.map_cons, List.map_nil, List.sum_append, List.sum_cons, List.sum_nil, Option.getD_some]
  omega
theorem posV_bound (m : Int) (ls : List (List S43)) (hx : ∀ x ∈ ls, x.length ≤ 1048576) : ∀ i, i ≤ ls.length → m ≤ posV m ls i ∧ posV m ls i ≤ m + 2097152 * (i : Int) := by
  intro i
  induction i with
  | zero => intro _; rw [posV_zero]; omega
  | succ i ih =>
    intro h
    have hm : (ls.getD i []) ∈ ls := by rw [List.getD_eq_getElem?_getD, List.getElem?_eq_getElem qa27]; exact List.getElem_mem qa27
    have := ih qa27
    have := hx _ hm
    rw [posV_succ m ls i qa27]
    omega
def mkS (m : Int) (ls : List (List S43)) : List (List S43) := (List.range ls.length).map (fun (i : Nat) => mkV (posV m ls i) (ls.getD i []).length)
theorem mkS_len (m : Int) (ls : List (List S43)) : (mkS m ls).length = ls.length := by simp [mkS]
theorem mkS_at (m : Int) (ls : List (List S43)) (i : Nat) (h : i < ls.length) : (mkS m ls)[i]? = some (mkV (posV m ls i) (ls.getD i []).length) := by simp [mkS, h]
theorem mark_rows (ls : List (List S43)) (m : Int) (h0 : 0 ≤ m) (hm : m ≤ 1099511627776) (hl : ls.length ≤ 1048576) (hx : ∀ x ∈ ls, x.length ≤ 1048576) : Ev (fun k => laws_markVersionSS.f k ls m) (posV m ls ls.length, mkS m ls) := by
  obtain ⟨r, hr, he⟩ := state_loop ls.length (fun k (s : List (List S43) × Int) i => laws_markVersionSS.l0 k s.1 s.2 i) (fun j s => s.2 = posV m ls j ∧ s.1.length = ls.length ∧ (∀ i, i < j → s.1[i]? = (mkS m ls)[i]?) ∧ ∀ i, j ≤ i → s.1[i]? = ls[i]?) (fun _ _ r => r = (posV m ls ls.length, mkS m ls))
    (fun s hi => ⟨(s.2, s.1), by
      obtain ⟨h1, h2, h3, _⟩ := hi
      refine Prod.ext h1 (List.ext_getElem? fun i => ?_)
      by_cases h : i < ls.length
      · exact h3 i h
      · rw [List.getElem?_eq_none (show s.1.length ≤ i by omega), List.getElem?_eq_none (by rw [mkS_len]; omega)], ev_now ⟨0, fun k _ => by
        have h2 := hi.2.1
        simp only [laws_markVersionSS.l0]; rw [if_neg qa27]⟩⟩)
    (fun j s hj hi => by
      obtain ⟨h1, h2, h3, h4⟩ := hi
      have hmem : (ls.getD j []) ∈ ls := by rw [List.getD_eq_getElem?_getD, List.getElem?_eq_getElem hj]; exact List.getElem_mem hj
      have hb := posV_bound m ls hx j qa27
      have hrow : s.1.getD j [] = ls.getD j [] := by rw [List.getD_eq_getElem?_getD, List.getD_eq_getElem?_getD, h4 j (Nat.le_refl _)]
      obtain ⟨K, hk⟩ := ev_at (mark_row (ls.getD j []) (posV m ls j) qa27 qa27 (hx _ hmem))
      refine .inr ⟨(s.1.set j (mkV (posV m ls j) (ls.getD j []).length), posV m ls (j + 1)), ⟨rfl, by simp [h2], fun i hij => ?_, fun i hij => ?_⟩, fun r h => h, K, fun k hK => ?_⟩
      · by_cases he : i = j
        · subst he
          rw [List.getElem?_set_self qa27, mkS_at m ls i hj]
        · rw [List.getElem?_set_ne qa27]
          exact h3 i qa27
      · rw [List.getElem?_set_ne qa27]
        exact h4 i qa27
      · have e' : laws_markVersionS.f k (s.1.getD j []) s.2 = some (posV m ls j + 2 * ((ls.getD j []).length : Int), mkV (posV m ls j) (ls.getD j []).length) := by rw [hrow, h1]; exact hk k hK
        simp only [laws_markVersionSS.l0]
        rw [if_pos qa27, if_pos qa27]
        show (laws_markVersionS.f k (s.1.getD j []) s.2).bind _ = _
        rw [e']
        simp only [Option.bind_some, Int.toNat_natCast]
        rw [wsucc hj qa27, posV_succ m ls j hj]) 0 (ls, m) qa27 ⟨(posV_zero m ls).symm, rfl, fun i hi => by omega, fun i _ => rfl⟩
  subst hr
  exact ev_same ⟨0, fun k _ => by unfold laws_markVersionSS.f; rfl⟩ he
theorem held_row (n : Nat) (m : Int) (h0 : 0 ≤ m) (hm : m ≤ 4611686018427387904) (hl : n ≤ 1048576) : Ev (fun k => laws_heldVersionS.f k (mkV m n) m) (m + 2 * (n : Int)) := by
  have hlen := mkV_len m n
  obtain ⟨r, hr, he⟩ := state_loop n (fun k (s : Int) i => laws_heldVersionS.l0 k (mkV m n) s i) (fun j s => s = m + 2 * (j : Int)) (fun _ _ r => r = m + 2 * (n : Int))
    (fun s hi => ⟨s, hi, ev_now ⟨0, fun k _ => by simp only [laws_heldVersionS.l0]; rw [if_neg qa27]⟩⟩)
    (fun j s hj hi => by
      have hw : wrap64 (s + 1) = s + 1 := by unfold wrap64; omega
      have hw2 : wrap64 ((wrap64 (s + 1)) + 1) = s + 2 := by rw [hw]; unfold wrap64; omega
      have hg : rd_T43 (mkV m n) (j : Int) = ⟨m + 2 * (j : Int), m + 2 * (j : Int) + 1⟩ := by
        show (mkV m n).getD j z43 = _
        rw [List.getD_eq_getElem?_getD, mkV_at m n j hj]; rfl
      refine .inr ⟨s + 2, by show s + 2 = _; omega, fun r h => h, 0, fun k _ => ?_⟩
      simp only [laws_heldVersionS.l0]
      rw [if_pos qa27, if_pos qa27, hg, if_pos hi.symm, hw, if_pos (by show m + 2 * (j : Int) + 1 = _; omega), wsucc hj qa27]
      have : wrap64 (s + 1 + 1) = s + 2 := by unfold wrap64; omega
      rw [this]) 0 m qa27 qa27
  subst hr
  exact ev_same ⟨0, fun k _ => by unfold laws_heldVersionS.f; rfl⟩ he
theorem held_rows (ls : List (List S43)) (m : Int) (h0 : 0 ≤ m) (hm : m ≤ 1099511627776) (hl : ls.length ≤ 1048576) (hx : ∀ x ∈ ls, x.length ≤ 1048576) : Ev (fun k => laws_heldVersionSS.f k (mkS m ls) m) (posV m ls ls.length) := by
  have hlen := mkS_len m ls
  obtain ⟨r, hr, he⟩ := state_loop ls.length (fun k (s : Int) i => laws_heldVersionSS.l0 k (mkS m ls) s i) (fun j s => s = posV m ls j) (fun _ _ r => r = posV m ls ls.length)
    (fun s hi => ⟨s, hi, ev_now ⟨0, fun k _ => by simp only [laws_heldVersionSS.l0]; rw [if_neg qa27]⟩⟩)
    (fun j s hj hi => by
      have hmem : (ls.getD j []) ∈ ls := by rw [List.getD_eq_getElem?_getD, List.getElem?_eq_getElem hj]; exact List.getElem_mem hj
      have hb := posV_bound m ls hx j qa27
      have hg : (mkS m ls).getD j [] = mkV (posV m ls j) (ls.getD j []).length := by rw [List.getD_eq_getElem?_getD, mkS_at m ls j hj]; rfl
      obtain ⟨K, hk⟩ := ev_at (held_row (ls.getD j []).length (posV m ls j) qa27 qa27 (hx _ hmem))
      refine .inr ⟨posV m ls (j + 1), rfl, fun r h => h, K, fun k hK => ?_⟩
      have e' : laws_heldVersionS.f k ((mkS m ls).getD j []) s = some (posV m ls (j + 1)) := by rw [hg, hi, posV_succ m ls j hj]; exact hk k hK
      have hb2 := posV_bound m ls hx (j + 1) qa27
      simp only [laws_heldVersionSS.l0]
      rw [if_pos qa27, if_pos qa27]
      show (laws_heldVersionS.f k ((mkS m ls).getD j []) s).bind _ = _
      rw [e']
      simp only [Option.bind_some]
      rw [if_neg qa27, wsucc hj qa27]) 0 m qa27 (posV_zero m ls).symm
  subst hr
  exact ev_same ⟨0, fun k _ => by unfold laws_heldVersionSS.f; rfl⟩ he
theorem mark_store (ls : List (List S43)) (n : Int) (hl : ls.length ≤ 1048576) (hx : ∀ x ∈ ls, x.length ≤ 1048576) : ∃ m l', Ev (fun k => laws_markStore.f k ls n 1) (m, l') ∧ Ev (fun k => laws_heldStore.f k l' n 1) m ∧ 0 ≤ m := by
  have hb := posV_bound 1 ls hx ls.length (Nat.le_refl _)
  refine ⟨_, _, mark_rows ls 1 qa27 qa27 hl hx, ?_, qa27⟩
  obtain ⟨K, hk⟩ := ev_at (held_rows ls 1 qa27 qa27 hl hx)
  exact ev_mk K fun k hK => by unfold laws_heldStore.f; rw [hk k hK]; simp only [Option.bind_some]; rw [if_neg qa27]
theorem mark_store_arg (ls : List (List S43)) (n : Int) (hl : ls.length ≤ 1048576) (hx : ∀ x ∈ ls, x.length ≤ 1048576) : ∃ m, Ev (fun k => laws_markStore.f k ls n 1) (m, mkS 1 ls) ∧ 0 ≤ m ∧ m ≤ 4398046511104 := by
  have hb := posV_bound 1 ls hx ls.length (Nat.le_refl _)
  exact ⟨_, mark_rows ls 1 qa27 qa27 hl hx, qa27, qa27⟩
end Go.Proofs.Ytfiboooflebdpaa.Pure2
namespace Go.Proofs.Ytfiboooflebdpaa.Pure2
open Go.RowKit Go.Proofs.Ytfiboooflebdpaa.Q Go.Proofs.YtfiboooflebdpaaW.PrintWords Go.Proofs.YtfiboooflebdpaaW.PrintLast
set_option linter.unusedVariables false
set_option linter.unusedSimpArgs false
/-! marks of whole numbers -/
def mkI (m : Int) (n : Nat) : List Int := (List.range n).map (fun (j : Nat) => m + (j : Int))
theorem mkI_len (m : Int) (n : Nat) : (mkI m n).length = n := by simp [mkI]
theorem mkI_at (m : Int) (n i : Nat) (h : i < n) : (mkI m n)[i]? = some (m + (i : Int)) := by simp [mkI, h]
theorem mark_ints (l : List Int) (m : Int) (h0 : 0 ≤ m) (hm : m ≤ 4611686018427387904) (hl : l.length ≤ 1048576) : Ev (fun k => laws_markIntS.f k l m) (m + (l.length : Int), mkI m l.length) := by
  obtain ⟨r, hr, he⟩ := state_loop l.length (fun k (s : List Int × Int) i => laws_markIntS.l0 k s.1 s.2 i) (fun j s => s.2 = m + (j : Int) ∧ s.1.length = l.length ∧ ∀ i, i < j → s.1[i]? = some (m + (i : Int))) (fun _ _ r => r = (m + (l.length : Int), mkI m l.length))
    (fun s hi => ⟨(s.2, s.1), by
      obtain ⟨h1, h2, h3⟩ := hi
      refine Prod.ext h1 (List.ext_getElem? fun i => ?_)
      by_cases h : i < l.length
      · rw [h3 i h, mkI_at m _ i h]
      · rw [List.getElem?_eq_none (show s.1.length ≤ i by omega), List.getElem?_eq_none (by rw [mkI_len]; omega)], ev_now ⟨0, fun k _ => by
        have h2 := hi.2.1
        simp only [laws_markIntS.l0]; rw [if_neg qa27]⟩⟩)
    (fun j s hj hi => by
      obtain ⟨h1, h2, h3⟩ := hi
      have hw : wrap64 (s.2 + 1) = s.2 + 1 := by unfold wrap64; omega
      refine .inr ⟨(s.1.set j s.2, s.2 + 1), ⟨by show s.2 + 1 = _; omega, by simp [h2], fun i hij => ?_⟩, fun r h => h, 0, fun k _ => ?_⟩
      · by_cases he : i = j
        · subst he
          rw [List.getElem?_set_self qa27, h1]
        · rw [List.getElem?_set_ne qa27]
          exact h3 i qa27
      · simp only [laws_markIntS.l0]
        rw [if_pos qa27, if_pos qa27, hw, wsucc hj qa27, Int.toNat_natCast]) 0 (l, m) qa27 ⟨by show m = _; omega, rfl, fun i hi => by omega⟩
  subst hr
  exact ev_same ⟨0, fun k _ => by unfold laws_markIntS.f; rfl⟩ he
theorem held_ints (n : Nat) (m : Int) (h0 : 0 ≤ m) (hm : m ≤ 4611686018427387904) (hl : n ≤ 1048576) : Ev (fun k => laws_heldIntS.f k (mkI m n) m) (m + (n : Int)) := by
  have hlen := mkI_len m n
  obtain ⟨r, hr, he⟩ := state_loop n (fun k (s : Int) i => laws_heldIntS.l0 k (mkI m n) s i) (fun j s => s = m + (j : Int)) (fun _ _ r => r = m + (n : Int))
    (fun s hi => ⟨s, hi, ev_now ⟨0, fun k _ => by simp only [laws_heldIntS.l0]; rw [if_neg qa27]⟩⟩)
    (fun j s hj hi => by
      have hw : wrap64 (s + 1) = s + 1 := by unfold wrap64; omega
      have hg : rd (mkI m n) (j : Int) = m + (j : Int) := by
        show (mkI m n).getD j 0 = _
        rw [List.getD_eq_getElem?_getD, mkI_at m n j hj]; rfl
      refine .inr ⟨s + 1, by show s + 1 = _; omega, fun r h => h, 0, fun k _ => ?_⟩
      simp only [laws_heldIntS.l0]
      rw [if_pos qa27, if_pos qa27, hg, if_pos hi.symm, hw, wsucc hj qa27]) 0 m qa27 qa27
  subst hr
  exact ev_same ⟨0, fun k _ => by unfold laws_heldIntS.f; rfl⟩ he
/-! marks of puts and of transactions -/
def mkP (m : Int) (n : Nat) : List S58 := (List.range n).map (fun (j : Nat) => ⟨m + 2 * (j : Int), m + 2 * (j : Int) + 1⟩)
theorem mkP_len (m : Int) (n : Nat) : (mkP m n).length = n := by simp [mkP]
theorem mkP_at (m : Int) (n i : Nat) (h : i < n) : (mkP m n)[i]? = some ⟨m + 2 * (i : Int), m + 2 * (i : Int) + 1⟩ := by simp [mkP, h]
theorem mark_puts (l : List S58) (m : Int) (h0 : 0 ≤ m) (hm : m ≤ 4611686018427387904) (hl : l.length ≤ 1048576) : Ev (fun k => laws_markPutS.f k l m) (m + 2 * (l.length : Int), mkP m l.length) := by
  obtain ⟨r, hr, he⟩ := state_loop l.length (fun k (s : List S58 × Int) i => laws_markPutS.l0 k s.1 s.2 i) (fun j s => s.2 = m + 2 * (j : Int) ∧ s.1.length = l.length ∧ ∀ i, i < j → s.1[i]? = some ⟨m + 2 * (i : Int), m + 2 * (i : Int) + 1⟩) (fun _ _ r => r = (m + 2 * (l.length : Int), mkP m l.length))
    (fun s hi => ⟨(s.2, s.1), by
      obtain ⟨h1, h2, h3⟩ := hi
      refine Prod.ext h1 (List.ext_getElem? fun i => ?_)
      by_cases h : i < l.length
      · rw [h3 i h, mkP_at m _ i h]
      · rw [List.getElem?_eq_none (show s.1.length ≤ i by omega), List.getElem?_eq_none (by rw [mkP_len]; omega)], ev_now ⟨0, fun k _ => by
        have h2 := hi.2.1
        simp only [laws_markPutS.l0]; rw [if_neg qa27]⟩⟩)
    (fun j s hj hi => by
      obtain ⟨h1, h2, h3⟩ := hi
      have hw : wrap64 (s.2 + 1) = s.2 + 1 := by unfold wrap64; omega
      have hw2 : wrap64 ((wrap64 (s.2 + 1)) + 1) = s.2 + 2 := by rw [hw]; unfold wrap64; omega
      have hg : ((s.1.set j (⟨s.2, (s.1.getD j z58).f1⟩ : S58)).getD j z58) = ⟨s.2, (s.1.getD j z58).f1⟩ := by
        rw [List.getD_eq_getElem?_getD, List.getElem?_set_self qa27]; rfl
      refine .inr ⟨((s.1.set j (⟨s.2, (s.1.getD j z58).f1⟩ : S58)).set j (⟨s.2, s.2 + 1⟩ : S58), s.2 + 2), ⟨by show s.2 + 2 = _; omega, by simp [h2], fun i hij => ?_⟩, fun r h => h, 0, fun k _ => ?_⟩
      · by_cases he : i = j
        · subst he
          rw [List.getElem?_set_self qa143, h1]
        · rw [List.getElem?_set_ne qa27, List.getElem?_set_ne qa27]
          exact h3 i qa27
      · simp only [laws_markPutS.l0]
        rw [if_pos qa27, if_pos qa27]
        simp only [Option.bind_some]
        rw [hw2, wsucc hj qa27, hw]
        show laws_markPutS.l0 k ((s.1.set j (⟨s.2, (s.1.getD j z58).f1⟩ : S58)).set j (⟨((s.1.set j (⟨s.2, (s.1.getD j z58).f1⟩ : S58)).getD j z58).f0, s.2 + 1⟩ : S58)) (s.2 + 2) _ = _
        rw [hg]) 0 (l, m) qa27 ⟨by show m = _; omega, rfl, fun i hi => by omega⟩
  subst hr
  exact ev_same ⟨0, fun k _ => by unfold laws_markPutS.f; rfl⟩ he
theorem held_puts (n : Nat) (m : Int) (h0 : 0 ≤ m) (hm : m ≤ 4611686018427387904) (hl : n ≤ 1048576) : Ev (fun k => laws_heldPutS.f k (mkP m n) m) (m + 2 * (n : Int)) := by
  have hlen := mkP_len m n
  obtain ⟨r, hr, he⟩ := state_loop n (fun k (s : Int) i => laws_heldPutS.l0 k (mkP m n) s i) (fun j s => s = m + 2 * (j : Int)) (fun _ _ r => r = m + 2 * (n : Int))
    (fun s hi => ⟨s, hi, ev_now ⟨0, fun k _ => by simp only [laws_heldPutS.l0]; rw [if_neg qa27]⟩⟩)
    (fun j s hj hi => by
      have hw : wrap64 (s + 1) = s + 1 := by unfold wrap64; omega
      have hw2 : wrap64 ((wrap64 (s + 1)) + 1) = s + 2 := by rw [hw]; unfold wrap64; omega
      have hg : rd_T58 (mkP m n) (j : Int) = ⟨m + 2 * (j : Int), m + 2 * (j : Int) + 1⟩ := by
        show (mkP m n).getD j z58 = _
        rw [List.getD_eq_getElem?_getD, mkP_at m n j hj]; rfl
      refine .inr ⟨s + 2, by show s + 2 = _; omega, fun r h => h, 0, fun k _ => ?_⟩
      simp only [laws_heldPutS.l0]
      rw [if_pos qa27, if_pos qa27, hg, if_pos hi.symm, hw, if_pos (by show m + 2 * (j : Int) + 1 = _; omega), wsucc hj qa27]
      have : wrap64 (s + 1 + 1) = s + 2 := by unfold wrap64; omega
      rw [this]) 0 m qa27 qa27
  subst hr
  exact ev_same ⟨0, fun k _ => by unfold laws_heldPutS.f; rfl⟩ he
theorem mark_txn (t : Int) (l : List Int) (p : List S58) (hl : l.length ≤ 1048576) (hp : p.length ≤ 1048576) : ∃ m l' p', Ev (fun k => laws_markTxn.f k t l p 1) (m, l', p') ∧ Ev (fun k => laws_heldTxn.f k t l' p' 1) m ∧ 0 ≤ m := by
  obtain ⟨K1, h1⟩ := ev_at (mark_ints l 1 qa27 qa27 hl)
  obtain ⟨K2, h2⟩ := ev_at (mark_puts p (1 + (l.length : Int)) qa27 qa27 hp)
  obtain ⟨K3, h3⟩ := ev_at (held_ints l.length 1 qa27 qa27 hl)
  obtain ⟨K4, h4⟩ := ev_at (held_puts p.length (1 + (l.length : Int)) qa27 qa27 hp)
  refine ⟨1 + (l.length : Int) + 2 * (p.length : Int), mkI 1 l.length, mkP (1 + (l.length : Int)) p.length, ev_mk (K1 + K2) (fun k hk => ?_), ev_mk (K3 + K4) (fun k hk => ?_), qa27⟩
  · unfold laws_markTxn.f; rw [h1 k qa27]; simp only [Option.bind_some]; rw [h2 k qa27]; rfl
  · unfold laws_heldTxn.f; rw [h3 k qa27]; simp only [Option.bind_some]; rw [if_neg qa27, h4 k qa27]; simp only [Option.bind_some]; rw [if_neg qa27]
/-- A transaction that came in and was marked. -/
theorem mark_txn_arg (t : Int) (l : List Int) (p : List S58) (m : Int) (h0 : 0 ≤ m) (hm : m ≤ 4398046511104) (hl : l.length ≤ 1048576) (hp : p.length ≤ 1048576) : ∃ m' l' p', Ev (fun k => laws_markTxn.f k t l p m) (m', l', p') ∧ 0 ≤ m' := by
  obtain ⟨K1, h1⟩ := ev_at (mark_ints l m qa27 qa27 hl)
  obtain ⟨K2, h2⟩ := ev_at (mark_puts p (m + (l.length : Int)) qa27 qa27 hp)
  exact ⟨m + (l.length : Int) + 2 * (p.length : Int), mkI m l.length, mkP (m + (l.length : Int)) p.length, ev_mk (K1 + K2) (fun k hk => by unfold laws_markTxn.f; rw [h1 k qa27]; simp only [Option.bind_some]; rw [h2 k qa27]; rfl), qa27⟩
end Go.Proofs.Ytfiboooflebdpaa.Pure2
namespace Go.Proofs.Ytfiboooflebdpaa.Pure2
open Go.RowKit Go.Proofs.Ytfiboooflebdpaa.Q Go.Proofs.YtfiboooflebdpaaW.PrintWords Go.Proofs.YtfiboooflebdpaaW.PrintLast
set_option linter.unusedVariables false
set_option linter.unusedSimpArgs false
theorem own_agree (a : Int) (l : List Int) (p : List S58) (hl : l.length ≤ 1048576) (hp : p.length ≤ 1048576) : spec_l07Own.f a l p = some (a, l, p) ∧ impl_copyTxn.f a l p = some (a, l, p) := by
  constructor
  · unfold spec_l07Own.f
    simp only [Option.bind_some, List.nil_append, List.length_nil, Nat.zero_add]
    rw [if_pos qa27, if_pos qa27]
  · unfold impl_copyTxn.f slices_Clone_int_int.f impl_Put_118.f
    rw [if_pos qa27]; simp only [Option.bind_some]; rw [if_pos qa27]; rfl
/-! what a chain tells at an hour -/
def lastVal (c : List S43) (ts : Int) : Nat → Int
  | 0 => 0
  | j + 1 => if (c.getD j z43).f0 ≤ ts then (c.getD j z43).f1 else lastVal c ts j
theorem back_val (c : List S43) (ts : Int) : ∀ (m : Nat) (h : Nat → Int), (match ((List.range m).map (fun k => (h k, c.getD (m - 1 - k) z43))).find? (fun p => decide (p.2.f0 ≤ ts)) with | some p => p.2.f1 | none => 0) = lastVal c ts m := by
  intro m
  induction m with
  | zero => intro h; rfl
  | succ m ih =>
    intro h
    have e : (List.range (m + 1)).map (fun k => (h k, c.getD (m + 1 - 1 - k) z43)) = (h 0, c.getD m z43) :: (List.range m).map (fun k => ((fun k => h (k + 1)) k, c.getD (m - 1 - k) z43)) := by
      rw [List.range_succ_eq_map, List.map_cons, List.map_map]
      congr 1
      refine List.map_congr_left fun k _ => ?_
      show (h (k + 1), c.getD (m + 1 - 1 - (k + 1)) z43) = _
      rw [show m + 1 - 1 - (k + 1) = m - 1 - k by omega]
    rw [e, List.find?_cons]
    unfold lastVal
    by_cases hc : (c.getD m z43).f0 ≤ ts
    · simp only [hc, decide_true, if_true]
    · simp only [hc, decide_false, if_false]
      exact ih _
theorem val_last (c : List S43) (ts : Int) : bw.val c ts = lastVal c ts c.length := back_val c ts c.length (fun k => ((c.length - 1 - k : Nat) : Int))
theorem read_agree (cs : List (List S43)) (now key ts : Int) (hl : cs.length = 16) (h0 : 0 ≤ key) (h1 : key ≤ 15) (hx : ∀ x ∈ cs, x.length ≤ 1048576) :
    Ev (fun k => spec_l06Read.f k cs now key ts) (bw.val (rd_L4 cs key) ts) ∧ impl_Store_readAt.f cs now key ts = some (bw.val (rd_L4 cs key) ts) := by
  refine ⟨?_, by unfold impl_Store_readAt.f; rw [if_pos h0, if_pos (by omega)]⟩
  have hc : (rd_L4 cs key).length ≤ 1048576 := by
    refine hx _ ?_
    show cs.getD key.toNat [] ∈ cs
    rw [List.getD_eq_getElem?_getD, List.getElem?_eq_getElem qa27]
    exact List.getElem_mem qa27
  rw [val_last]
  obtain ⟨r, hr, he⟩ := state_loop (rd_L4 cs key).length (fun k (v : Int) i => spec_l06Read.l0 k key ts v i cs now) (fun j v => v = lastVal (rd_L4 cs key) ts j) (fun _ _ r => r = lastVal (rd_L4 cs key) ts (rd_L4 cs key).length)
    (fun v hi => ⟨v, hi, ev_now ⟨0, fun k _ => by simp only [spec_l06Read.l0]; rw [if_pos h0, if_pos qa27, if_neg qa27]⟩⟩)
    (fun j v hj hi => by
      have hd : rd_T43 (rd_L4 cs key) (j : Int) = (rd_L4 cs key).getD j z43 := rfl
      refine .inr ⟨lastVal (rd_L4 cs key) ts (j + 1), rfl, fun r h => h, 0, fun k _ => ?_⟩
      simp only [spec_l06Read.l0]
      rw [if_pos h0, if_pos qa27, if_pos qa27, if_pos qa27, hd, wsucc hj qa27]
      unfold lastVal
      by_cases hcmp : ((rd_L4 cs key).getD j z43).f0 ≤ ts
      · rw [if_pos hcmp, if_pos hcmp]
      · rw [if_neg hcmp, if_neg hcmp, hi]) 0 0 qa27 rfl
  subst hr
  exact ev_same ⟨0, fun k _ => by unfold spec_l06Read.f; rfl⟩ he
/-! what a transaction reads -/
def lastPut (c : List S58) (a : Int) : Nat → Int × Bool
  | 0 => (0, false)
  | j + 1 => if (c.getD j z58).f0 = a then ((c.getD j z58).f1, true) else lastPut c a j
theorem back_put (c : List S58) (a : Int) : ∀ (m : Nat) (h : Nat → Int), (match ((List.range m).map (fun k => (h k, c.getD (m - 1 - k) z58))).find? (fun p => decide (p.2.f0 = a)) with | some p => p.2.f1 | none => 0) = (lastPut c a m).1 ∧ ((List.range m).map (fun k => (h k, c.getD (m - 1 - k) z58))).any (fun p => decide (p.2.f0 = a)) = (lastPut c a m).2 := by
  intro m
  induction m with
  | zero => intro h; exact ⟨rfl, rfl⟩
  | succ m ih =>
    intro h
    have e : (List.range (m + 1)).map (fun k => (h k, c.getD (m + 1 - 1 - k) z58)) = (h 0, c.getD m z58) :: (List.range m).map (fun k => ((fun k => h (k + 1)) k, c.getD (m - 1 - k) z58)) := by
      rw [List.range_succ_eq_map, List.map_cons, List.map_map]
      congr 1
      refine List.map_congr_left fun k _ => ?_
      show (h (k + 1), c.getD (m + 1 - 1 - (k + 1)) z58) = _
      rw [show m + 1 - 1 - (k + 1) = m - 1 - k by omega]
    rw [e, List.find?_cons, List.any_cons]
    unfold lastPut
    by_cases hc : (c.getD m z58).f0 = a
    · simp only [hc, decide_true, if_true, Bool.true_or, and_self]
    · simp only [hc, decide_false, if_false, Bool.false_or]
      exact ih _
theorem val_put (c : List S58) (a : Int) : rt.val c a = (lastPut c a c.length).1 := (back_put c a c.length (fun k => ((c.length - 1 - k : Nat) : Int))).1
theorem hit_put (c : List S58) (a : Int) : rt.hit c a = (lastPut c a c.length).2 := (back_put c a c.length (fun k => ((c.length - 1 - k : Nat) : Int))).2
theorem written (p : List S58) (a : Int) (hp : p.length ≤ 1048576) : Ev (fun k => spec_l07Written.f k p a) (lastPut p a p.length) := by
  have key : ∀ m, m ≤ p.length → Ev (fun k => spec_l07Written.l0 k p a ((m : Int) - 1)) (lastPut p a m) := by
    intro m
    induction m with
    | zero => intro _; exact ev_now ⟨0, fun k _ => by simp only [spec_l07Written.l0]; rw [if_neg qa27]; rfl⟩
    | succ m ih =>
      intro hm
      have hd : rd_T58 p (m : Int) = p.getD m z58 := rfl
      have hc : (((m + 1 : Nat) : Int) - 1) = (m : Int) := by omega
      have hw : wrap64 ((m : Int) - 1) = (m : Int) - 1 := by unfold wrap64; omega
      rw [hc]
      by_cases h : (p.getD m z58).f0 = a
      · have hL : lastPut p a (m + 1) = ((p.getD m z58).f1, true) := by show (if _ then _ else _) = _; rw [if_pos h]
        rw [hL]
        exact ev_now ⟨0, fun k _ => by simp only [spec_l07Written.l0]; rw [if_pos qa27, if_pos qa27, if_pos qa27, hd, if_pos h]⟩
      · have hL : lastPut p a (m + 1) = lastPut p a m := by show (if _ then _ else _) = _; rw [if_neg h]
        rw [hL]
        exact ev_step ⟨0, fun k _ => by conv => lhs; simp only [spec_l07Written.l0]
                                        rw [if_pos qa27, if_pos qa27, if_pos qa27, hd, if_neg h, hw]⟩ (ih qa27)
  have hw : wrap64 ((p.length : Int) - 1) = (p.length : Int) - 1 := by unfold wrap64; omega
  exact ev_same ⟨0, fun k _ => by unfold spec_l07Written.f; rw [hw]⟩ (key p.length (Nat.le_refl _))
theorem pigeon : ∀ (n m : Nat) (f : Nat → Nat), (∀ j, j < m → f j < n) → (∀ i j, i < j → j < m → f i ≠ f j) → m ≤ n
  | 0, 0, _, _, _ => Nat.le_refl _
  | 0, m + 1, f, h, _ => absurd (h 0 qa27) qa27
  | n + 1, 0, _, _, _ => by omega
  | n + 1, m + 1, f, h, hi => by
    have := pigeon n m (fun j => if f j = n then f m else f j) (fun j hj => by
      have h1 := h j qa27; have h2 := h m qa27; have h3 := hi j m hj qa27
      try dsimp only
      split <;> omega) (fun i j hij hj => by
      have h1 := hi i j hij qa27; have h2 := hi i m qa27 qa27; have h3 := hi j m hj qa27
      try dsimp only
      split <;> split <;> omega)
    omega
theorem reads_few (l : List Int) (hr : ∀ j, j < l.length → ReadOK l j) : l.length ≤ 16 :=
  pigeon 16 l.length (fun j => (l.getD j 0).toNat) (fun j hj => by have := (hr j hj).1; (try dsimp only); omega) (fun i j hij hj e => by
    have h1 := (hr i qa27).1
    have h2 := hr j hj
    try dsimp only at e
    exact h2.2 ⟨i, hij, by have := h2.1; omega⟩)
theorem ask_read (cs : List (List S43)) (now st : Int) (l : List Int) (p : List S58) (a : Int) (hx : ∀ x ∈ cs, x.length ≤ 1048576) (hl : l.length ≤ 1048576) (hp : p.length ≤ 1048576) :
    ∃ r : Int × List Int × (List S58) × Int × Int, Ev (fun k => spec_ReadTxn.f k cs now st l p a) r ∧ Ev (fun k => impl_ReadTxn.f k cs now st l p a) r ∧ r.2.1.length ≤ 1048576 ∧ r.2.2.1.length ≤ 1048576 := by
  obtain ⟨c, e1, e2, hb⟩ := txns_agree cs now st l p hx hl hp
  obtain ⟨K1, h1⟩ := ev_at e1
  obtain ⟨K2, h2⟩ := ev_at e2
  cases c with
  | false => exact ⟨(0, [], [], 0, 1), ev_mk K1 fun k hk => by unfold spec_ReadTxn.f; rw [h1 k hk]; rfl, ev_mk K2 fun k hk => by unfold impl_ReadTxn.f; rw [h2 k hk]; rfl, qa109, qa109⟩
  | true =>
    obtain ⟨hs, _, ⟨hp4, _⟩, hr⟩ := hb.1 rfl
    have hl16 := reads_few l hr
    by_cases hk : 0 ≤ a ∧ a ≤ 15
    · have hkS : spec_l01In.f a 0 15 = some true := by rw [spec_in, decide_eq_true hk]
      have hkI : impl_isKey.f a = some true := by unfold impl_isKey.f; rw [impl_in, decide_eq_true hk]; rfl
      obtain ⟨o1, o2⟩ := own_agree st l p hl hp
      obtain ⟨K3, h3⟩ := ev_at (written p a hp)
      by_cases hh : (lastPut p a p.length).2 = true
      · have hI : rt.hit p a = true := by rw [hit_put]; exact hh
        refine ⟨(st, l, p, (lastPut p a p.length).1, 0), ev_mk (K1 + K3) fun k hk' => ?_, ev_mk K2 fun k hk' => ?_, hl, hp⟩
        · unfold spec_ReadTxn.f spec_l07Read.f
          rw [h1 k qa27, Option.bind_some, if_pos rfl, hkS, Option.bind_some, if_pos rfl, h3 k qa27, Option.bind_some, if_pos hh, Option.bind_some, o1]; rfl
        · unfold impl_ReadTxn.f
          rw [h2 k hk', Option.bind_some, if_pos rfl, hkI, Option.bind_some, if_pos rfl, o2, Option.bind_some, if_pos hI, val_put]
      · have hI : ¬ (rt.hit p a = true) := by rw [hit_put]; exact hh
        obtain ⟨b, f1, hb1⟩ := spec_int_in l a hl
        obtain ⟨b', f2, hb2⟩ := impl_int_in l a hl
        have hbb : b' = b := by rw [Bool.eq_iff_iff, hb1, hb2]
        rw [hbb] at f2
        obtain ⟨K4, h4⟩ := ev_at f1
        obtain ⟨K5, h5⟩ := ev_at f2
        obtain ⟨g1, g2⟩ := read_agree cs now a st hs.1 hk.1 hk.2 hx
        obtain ⟨K6, h6⟩ := ev_at g1
        cases b with
        | true =>
          refine ⟨(st, l, p, bw.val (rd_L4 cs a) st, 0), ev_mk (K1 + K3 + K4 + K6) fun k hk' => ?_, ev_mk (K2 + K5) fun k hk' => ?_, hl, hp⟩
          · unfold spec_ReadTxn.f spec_l07Read.f
            rw [h1 k qa27, Option.bind_some, if_pos rfl, hkS, Option.bind_some, if_pos rfl, h3 k qa27, Option.bind_some, if_neg hh, h4 k qa27, Option.bind_some, if_pos rfl, h6 k qa27, Option.bind_some, Option.bind_some, o1]; rfl
          · unfold impl_ReadTxn.f
            rw [h2 k qa27, Option.bind_some, if_pos rfl, hkI, Option.bind_some, if_pos rfl, o2, Option.bind_some, if_neg hI, h5 k qa27, Option.bind_some, if_pos rfl, g2, Option.bind_some]
        | false =>
          have hla : (l ++ [a]).length ≤ 1048576 := by rw [List.length_append]; simp; omega
          obtain ⟨o3, _⟩ := own_agree st (l ++ [a]) p hla hp
          have hff : ¬ (false = true) := by simp
          refine ⟨(st, l ++ [a], p, bw.val (rd_L4 cs a) st, 0), ev_mk (K1 + K3 + K4 + K6) fun k hk' => ?_, ev_mk (K2 + K5) fun k hk' => ?_, hla, hp⟩
          · unfold spec_ReadTxn.f spec_l07Read.f
            rw [h1 k qa27, Option.bind_some, if_pos rfl, hkS, Option.bind_some, if_pos rfl, h3 k qa27, Option.bind_some, if_neg hh, h4 k qa27, Option.bind_some, if_neg hff, Option.bind_some, if_pos qa143, Option.bind_some, if_pos qa143, h6 k qa27, Option.bind_some, Option.bind_some]
            show ((spec_l07Own.f st (l ++ [a]) p).bind _) = _
            rw [o3]; rfl
          · unfold impl_ReadTxn.f
            rw [h2 k qa27, Option.bind_some, if_pos rfl, hkI, Option.bind_some, if_pos rfl, o2, Option.bind_some, if_neg hI, h5 k qa27, Option.bind_some, if_neg hff, if_pos (by simp only; omega), g2, Option.bind_some]
    · have hkS : spec_l01In.f a 0 15 = some false := by rw [spec_in, decide_eq_false hk]
      have hkI : impl_isKey.f a = some false := by unfold impl_isKey.f; rw [impl_in, decide_eq_false hk]; rfl
      exact ⟨(0, [], [], 0, 4), ev_mk K1 fun k hk' => by unfold spec_ReadTxn.f; rw [h1 k hk', Option.bind_some, if_pos rfl, hkS]; rfl, ev_mk K2 fun k hk' => by unfold impl_ReadTxn.f; rw [h2 k hk', Option.bind_some, if_pos rfl, hkI]; rfl, qa109, qa109⟩
end Go.Proofs.Ytfiboooflebdpaa.Pure2
namespace Go.Proofs.Ytfiboooflebdpaa.Pure2
open Go.RowKit Go.Proofs.Ytfiboooflebdpaa.Q Go.Proofs.YtfiboooflebdpaaW.PrintWords Go.Proofs.YtfiboooflebdpaaW.PrintLast
set_option linter.unusedVariables false
set_option linter.unusedSimpArgs false
theorem FnExactReadTxn : laws_FnExactReadTxn.Pure2 := by
  intro y z x hy hz _
  obtain ⟨r, he, hr⟩ := sz_store y 1048576 qa27 qa27 hy
  refine Ev.rounds (r := true) ?_
  obtain ⟨K1, h1⟩ := ev_at he
  rcases hr with hr | ⟨hr0, hr1, hs⟩
  · exact ev_mk K1 fun k hk => by unfold laws_FnExactReadTxn.f; rw [h1 k hk]; simp only [Option.bind_some]; rw [if_pos hr]
  · obtain ⟨q, e2, hq⟩ := sz_txn z r hr0 qa27 hz
    rcases hq with hq | ⟨_, _, hl, hp⟩
    · exact ev_mk K1 fun k hk => by unfold laws_FnExactReadTxn.f; rw [h1 k hk]; simp only [Option.bind_some]; rw [if_neg qa27, e2]; simp only [Option.bind_some]; rw [if_pos hq]
    · have hpl : (z.f2.map cvP).length ≤ 1048576 := by rw [List.length_map]; exact hp
      obtain ⟨K2, h2⟩ := ev_at (to_store y.f0 y.f1 hs)
      obtain ⟨K3, h3⟩ := ev_at (to_txn z.f0 z.f1 z.f2 hl hp)
      obtain ⟨⟨t, l, p, v, c⟩, g1, g2, hl', hp'⟩ := ask_read (cvS y.f0) y.f1 z.f0 z.f1 (z.f2.map cvP) x (small_cv _ hs).2 hl hpl
      obtain ⟨K4, h4⟩ := ev_at g1
      obtain ⟨K5, h5⟩ := ev_at g2
      obtain ⟨K6, h6⟩ := ev_at (eq_store (cvS y.f0) y.f1 (small_cv _ hs).1 (small_cv _ hs).2)
      obtain ⟨K7, h7⟩ := ev_at (eq_txn z.f0 z.f1 (z.f2.map cvP) hl hpl)
      obtain ⟨K8, h8⟩ := ev_at (eq_txn t l p hl' hp')
      obtain ⟨m, e9, hm0, hm⟩ := mark_store_arg (cvS y.f0) y.f1 (small_cv _ hs).1 (small_cv _ hs).2
      obtain ⟨K9, h9⟩ := ev_at e9
      obtain ⟨m2, l2, p2, e10, hm2⟩ := mark_txn_arg z.f0 z.f1 (z.f2.map cvP) m hm0 hm hl hpl
      obtain ⟨K10, h10⟩ := ev_at e10
      obtain ⟨m3, l3, p3, e11, e12, hm3⟩ := mark_txn t l p hl' hp'
      obtain ⟨K11, h11⟩ := ev_at e11
      obtain ⟨K12, h12⟩ := ev_at e12
      refine ev_mk (K1 + K2 + K3 + K4 + K5 + K6 + K7 + K8 + K9 + K10 + K11 + K12) fun k hk => ?_
      unfold laws_FnExactReadTxn.f
      rw [h1 _ qa27]; simp only [Option.bind_some]; rw [if_neg qa27, e2]; simp only [Option.bind_some]; rw [if_neg qa27, h2 _ qa27]; simp only [Option.bind_some]
      rw [h3 _ qa27]; simp only [Option.bind_some]; rw [h4 _ qa27]; simp only [Option.bind_some]; rw [h5 _ qa27]; simp only [Option.bind_some]
      rw [h8 _ qa27]; simp only [Option.bind_some, if_true]; rw [h6 _ qa27]; simp only [Option.bind_some, if_true]; rw [h7 _ qa27]; simp only [Option.bind_some, if_true]
      rw [h9 _ qa27]; simp only [Option.bind_some]; rw [h10 _ qa27]; simp only [Option.bind_some]; rw [if_pos qa27]
      rw [h11 _ qa27]; simp only [Option.bind_some]; rw [h12 _ qa27]; simp only [Option.bind_some]; rw [if_pos qa27]; simp only [if_true]
      rw [if_pos qa27]
end Go.Proofs.Ytfiboooflebdpaa.Pure2
