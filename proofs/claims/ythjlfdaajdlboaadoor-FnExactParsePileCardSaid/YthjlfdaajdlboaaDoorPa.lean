/- Piles: what the functions say, in plain words. -/
import Derived.Test.YthjlfdaajdlboaaDoorP0
import Derived.Test.YthjlfdaajdlboaaDoorGa
namespace Go.OAI
set_option linter.unusedVariables false
noncomputable section

theorem eqLotS_refl (l : List DLot) (h : l.length ≤ 1099511627776) : laws_eqLotS l l = some true := by
  unfold laws_eqLotS laws_eqLotSK
  have : laws_eqLotS_l0 l l 0 = some (.inr ()) := by
    rw [all_loop (f := fun i => laws_eqLotS_l0 l l i) (l := l) (good := fun _ _ => true) (y := .inr ()) (n := .inl false)]
    · simp
    · show laws_eqLotS_l0 l l _ = _
      rw [laws_eqLotS_l0_eq]; unfold laws_eqLotS_l0K
      rw [lt_out (Nat.le_refl _)]
    · intro i hi
      show laws_eqLotS_l0 l l i = _
      rw [laws_eqLotS_l0_eq]; unfold laws_eqLotS_l0K
      rw [loop_step hi, wr_succ hi (by omega), lat_nat hi]
      simp [laws_eqLot, laws_eqLotK]
  rw [this]
  simp [sumO]

/-- A list of lots after marking: consecutive numbers from k on. -/
theorem markLotS_ok (l : List DLot) (h : l.length ≤ 1099511627776) (k : Int) (h0 : 0 ≤ k) (hk : k ≤ 1099511627776) :
    ∃ k' l', laws_markLotS l k = some (k', l') ∧ l'.length = l.length ∧ laws_heldLotS l' k = some k' ∧ k ≤ k' ∧ k' ≤ k + 2 * (l.length : Int) := by
  let m : Nat → DLot := fun i => (k + 2 * (i : Int), k + 2 * (i : Int) + 1, ())
  let L : List DLot := (List.range l.length).map m
  have hL : L.length = l.length := by simp [L]
  have hLi : ∀ i (hi : i < L.length), L[i] = m i := fun i hi => by simp [L]
  have h1 : laws_markLotS_l0 k 0 l = some (k + 2 * (l.length : Int), L) := by
    have := fill_loop (f := fun i r => laws_markLotS_l0 (k + 2 * i) i r) (l := L) (r := (k + 2 * (l.length : Int), L)) (by omega) ?_ ?_ l hL.symm
    · simpa using this
    · show laws_markLotS_l0 _ _ L = _
      rw [laws_markLotS_l0_eq]; unfold laws_markLotS_l0K
      rw [lt_out (Nat.le_refl _), hL]
    · intro i r hi hr
      show laws_markLotS_l0 (k + 2 * (i : Int)) i r = laws_markLotS_l0 _ _ _
      rw [laws_markLotS_l0_eq]; unfold laws_markLotS_l0K
      rw [lt_in (by omega), ck_in (by omega)]
      simp only [Option.bind_some]
      rw [ck_in (by simp; omega)]
      try simp only [Option.bind_some]
      rw [wr_succ hi (by omega), wr (n := k + 2 * (i : Int) + 1) (by omega) (by omega), wr (by omega) (by omega)]
      have e1 : k + 2 * (i : Int) + 1 + 1 = k + 2 * ((i + 1 : Nat) : Int) := by omega
      rw [e1, hLi i hi]
      congr 1
      have hi' : i < r.length := by omega
      simp [m, hi']
  have h2 : laws_heldLotS_l0 L k 0 = some (.inr (k + 2 * (l.length : Int))) := by
    have key : ∀ i, i ≤ L.length → laws_heldLotS_l0 L (k + 2 * (i : Int)) i = some (.inr (k + 2 * (l.length : Int))) := by
      refine down ?_ fun i hi ih => ?_
      · rw [laws_heldLotS_l0_eq]; unfold laws_heldLotS_l0K
        rw [lt_out (Nat.le_refl _), hL]
      · rw [laws_heldLotS_l0_eq]; unfold laws_heldLotS_l0K
        rw [loop_step hi, lat_nat hi, hLi i hi, wr_succ hi (by omega), wr (n := k + 2 * (i : Int) + 1) (by omega) (by omega), wr (by omega) (by omega)]
        have e1 : k + 2 * (i : Int) + 1 + 1 = k + 2 * ((i + 1 : Nat) : Int) := by omega
        rw [e1]
        simp only [m, bne_self_eq_false, cond_false, Option.bind_some]
        exact ih
    have := key 0 (Nat.zero_le _)
    simpa using this
  refine ⟨k + 2 * (l.length : Int), L, ?_, hL, ?_, by omega, by omega⟩
  · unfold laws_markLotS laws_markLotSK
    rw [h1]; rfl
  · unfold laws_heldLotS laws_heldLotSK
    rw [h2]; rfl

theorem eqPile_refl (p : DPile) (h : p.2.2.1.length ≤ 1099511627776) : laws_eqPile p p = some true := by
  unfold laws_eqPile laws_eqPileK
  rw [eqLotS_refl _ h]; simp
theorem markPile_ok (b : Bool) (c : Int) (l : List DLot) (h : l.length ≤ 1099511627776) (k : Int) (h0 : 0 ≤ k) (hk : k ≤ 1099511627776) :
    ∃ k' l', laws_markPile (b, c, l) k = some (k', b, c, l') ∧ l'.length = l.length ∧ laws_heldPile (b, c, l', ()) k = some k' ∧ k ≤ k' ∧ k' ≤ k + 2 * (l.length : Int) := by
  obtain ⟨k', l', h1, h2, h3, h4, h5⟩ := markLotS_ok l h k h0 hk
  refine ⟨k', l', ?_, h2, ?_, h4, h5⟩
  · unfold laws_markPile laws_markPileK
    rw [h1]; rfl
  · unfold laws_heldPile laws_heldPileK
    rw [h3]
    have : ¬ k' < 0 := by omega
    simp [this]

/-! ### Lots -/
def lotB (x : DLot) : Bool := decide (1 ≤ x.1 ∧ x.1 ≤ 1000000 ∧ 0 ≤ x.2.1 ∧ x.2.1 ≤ 1000 * x.1)
theorem isLot_ok (x : DLot) : impl_isLot x = some (lotB x) := by
  unfold impl_isLot impl_isLotK lotB
  by_cases h1 : 1 ≤ x.1
  · by_cases h2 : x.1 ≤ 1000000
    · rw [wr (by omega) (by omega)]
      by_cases h3 : 0 ≤ x.2.1 <;> simp [h1, h2, h3]
    · simp [h1, h2]
  · simp [h1]
theorem spLot_ok (x : DLot) : spec_spLot x = some (lotB x) := by
  unfold spec_spLot spec_spLotK spec_l1In spec_l1InK lotB
  by_cases h1 : 1 ≤ x.1
  · by_cases h2 : x.1 ≤ 1000000
    · rw [wr (by omega) (by omega)]
      by_cases h3 : 0 ≤ x.2.1 <;> simp [h1, h2, h3]
    · simp [h1, h2]
  · simp [h1]
def tS (l : List DLot) : Int := (l.map (·.1)).sum
def mS (l : List DLot) : Int := (l.map (·.2.1)).sum
theorem tS_cons (x : DLot) (l : List DLot) : tS (x :: l) = x.1 + tS l := by simp [tS]
theorem mS_cons (x : DLot) (l : List DLot) : mS (x :: l) = x.2.1 + mS l := by simp [mS]
theorem sums_bound : ∀ (l : List DLot), l.all lotB = true → 0 ≤ tS l ∧ (l.length : Int) ≤ tS l ∧ tS l ≤ 1000000 * (l.length : Int) ∧ 0 ≤ mS l ∧ mS l ≤ 1000 * tS l
  | [], _ => by simp [tS, mS]
  | x :: l, h => by
    simp only [List.all_cons, Bool.and_eq_true] at h
    have := sums_bound l h.2
    have hx : lotB x = true := h.1
    simp only [lotB, decide_eq_true_eq] at hx
    rw [tS_cons, mS_cons]
    simp only [List.length_cons]
    omega
theorem drop_all {α : Type} {p : α → Bool} {l : List α} (h : l.all p = true) (i : Nat) : (l.drop i).all p = true := by
  rw [List.all_eq_true] at h ⊢
  exact fun x hx => h x (List.mem_of_mem_drop hx)
theorem spSums_ok (l : List DLot) (h : l.all lotB = true) (hl : l.length ≤ 1099511627) : spec_spSums l = some (tS l, mS l) := by
  have key : ∀ i, i ≤ l.length → ∀ a b : Int, 0 ≤ a → a ≤ 1000000 * (i : Int) → 0 ≤ b → b ≤ 1000000000 * (i : Int) → spec_spSums_l0 l (l.length : Int) a b i = some (a + tS (l.drop i), b + mS (l.drop i)) := by
    refine down (fun a b h1 h2 h3 h4 => ?_) fun i hi ih a b h1 h2 h3 h4 => ?_
    · rw [spec_spSums_l0_eq]; unfold spec_spSums_l0K
      rw [lt_out (Nat.le_refl _)]
      simp [tS, mS]
    · have hx : lotB l[i] = true := List.all_eq_true.1 h _ (List.getElem_mem hi)
      simp only [lotB, decide_eq_true_eq] at hx
      rw [spec_spSums_l0_eq]; unfold spec_spSums_l0K
      rw [loop_step hi, wr_succ hi (by omega), wr (by omega) (by omega), wr (by omega) (by omega), ih _ _ (by omega) (by omega) (by omega) (by omega), drop_cons hi, tS_cons, mS_cons]
      simp only [Option.some.injEq, Prod.mk.injEq]
      constructor <;> omega
  have := key 0 (Nat.zero_le _) 0 0 (by omega) (by simp) (by omega) (by simp)
  unfold spec_spSums spec_spSumsK
  simp only [Int.natCast_zero, List.drop_zero, Int.zero_add] at this
  have e : spec_spSums_l0 l (l.length : Int) 0 0 0 = some (tS l, mS l) := this
  rw [e]; rfl
/-! ### Piles -/
def pileB (p : DPile) : Bool := p.2.2.1.all lotB && decide (0 ≤ p.2.1 ∧ p.2.1 ≤ 10000000 ∧ (p.2.2.1.length : Int) ≤ 40 ∧ (p.1 = true → (p.2.2.1.length : Int) ≤ 1) ∧ tS p.2.2.1 ≤ p.2.1)
theorem spGood_ok (p : DPile) (hl : p.2.2.1.length ≤ 1099511627) : spec_spGood p = some (pileB p) := by
  have h1 : spec_spGood_l0 p.2.2.1 (p.2.2.1.length : Int) 0 = some (if p.2.2.1.all lotB then .inr () else .inl false) := by
    have := all_loop (f := fun i => spec_spGood_l0 p.2.2.1 (p.2.2.1.length : Int) i) (l := p.2.2.1) (good := fun _ x => lotB x) (y := .inr ()) (n := .inl false) ?_ ?_
    · rw [this]
      congr 1
      by_cases ha : p.2.2.1.all lotB = true
      · rw [if_pos ha, if_pos fun i hi => List.all_eq_true.1 ha _ (List.getElem_mem hi)]
      · rw [if_neg ha, if_neg fun hh => ha (List.all_eq_true.2 fun x hx => by
          obtain ⟨i, hi, rfl⟩ := List.getElem_of_mem hx
          exact hh i hi)]
    · show spec_spGood_l0 _ _ _ = _
      rw [spec_spGood_l0_eq]; unfold spec_spGood_l0K
      rw [lt_out (Nat.le_refl _)]
    · intro i hi
      show spec_spGood_l0 _ _ _ = _
      rw [spec_spGood_l0_eq]; unfold spec_spGood_l0K
      rw [loop_step hi, wr_succ hi (by omega), spLot_ok]
      cases lotB p.2.2.1[i] <;> rfl
  unfold spec_spGood spec_spGoodK pileB
  rw [h1]
  by_cases ha : p.2.2.1.all lotB = true
  · rw [spSums_ok _ ha hl]
    simp only [ha, if_true, Option.bind_some, sumO, spec_l1In, spec_l1InK, Bool.true_and]
    by_cases c1 : (p.2.2.1.length : Int) ≤ 40 <;> by_cases c2 : p.1 = true <;> by_cases c3 : (p.2.2.1.length : Int) ≤ 1 <;> by_cases c4 : 0 ≤ p.2.1 <;> by_cases c5 : p.2.1 ≤ 10000000 <;>
      simp [c1, c2, c3, c4, c5]
  · simp [ha, sumO]
theorem IsPile_ok (p : DPile) : impl_IsPile p = some (pileB p) := by
  have h1 : p.2.2.1.length ≤ 40 → impl_IsPile_l0 p.2.2.1 (p.2.2.1.length : Int) 0 0 = some (if p.2.2.1.all lotB then .inr (tS p.2.2.1) else .inl false) := fun hl => by
    have key : ∀ i, i ≤ p.2.2.1.length → ∀ a : Int, 0 ≤ a → a ≤ 1000000 * (i : Int) → impl_IsPile_l0 p.2.2.1 (p.2.2.1.length : Int) a i = some (if (p.2.2.1.drop i).all lotB then .inr (a + tS (p.2.2.1.drop i)) else .inl false) := by
      refine down (fun a h1 h2 => ?_) fun i hi ih a h1 h2 => ?_
      · rw [impl_IsPile_l0_eq]; unfold impl_IsPile_l0K
        rw [lt_out (Nat.le_refl _)]
        simp [tS]
      · rw [impl_IsPile_l0_eq]; unfold impl_IsPile_l0K
        rw [loop_step hi, wr_succ hi (by omega), isLot_ok, drop_cons hi]
        cases hx : lotB p.2.2.1[i] with
        | false => simp [hx]
        | true =>
          have hx' := hx
          simp only [lotB, decide_eq_true_eq] at hx'
          rw [wr (by omega) (by omega), Option.bind_some, ih _ (by omega) (by omega), tS_cons]
          simp only [Bool.not_true, cond_false, List.all_cons, hx, Bool.true_and, Int.add_assoc]
    have := key 0 (Nat.zero_le _) 0 (by omega) (by simp)
    rw [List.drop_zero, Int.zero_add] at this
    exact this
  unfold impl_IsPile impl_IsPileK pileB
  simp only [dec_lt, dec_gt]
  by_cases c1 : (p.2.2.1.length : Int) ≤ 40
  · rw [h1 (by omega)]
    by_cases ha : p.2.2.1.all lotB = true
    · simp only [ha, if_true, Option.bind_some, sumO, Bool.true_and]
      by_cases c2 : p.1 = true <;> by_cases c3 : (p.2.2.1.length : Int) ≤ 1 <;> by_cases c4 : 0 ≤ p.2.1 <;> by_cases c5 : p.2.1 ≤ 10000000 <;> simp [c1, c2, c3, c4, c5]
    · simp only [ha, Option.bind_some, sumO, Bool.false_and]
      by_cases c2 : p.1 = true <;> by_cases c3 : (p.2.2.1.length : Int) ≤ 1 <;> by_cases c4 : 0 ≤ p.2.1 <;> by_cases c5 : p.2.1 ≤ 10000000 <;> simp [c1, c2, c3, c4, c5]
  · by_cases c4 : 0 ≤ p.2.1 <;> by_cases c5 : p.2.1 ≤ 10000000 <;> simp [c1, c4, c5]

/-! ### The laws -/
theorem maxLen_le {n : Nat} (h : n ≤ maxLen) : n ≤ 9223372036854775807 := h
theorem eqLot_refl (x : DLot) : laws_eqLot x x = some true := by simp [laws_eqLot, laws_eqLotK]
theorem bne_self_int (a : Int) : (a != a) = false := by simp
/-! ### Fractions -/
/-! ### A lot is put -/
def putP (p : DPile) (l : DLot) : DPile :=
  match p.1, p.2.2.1 with
  | true, x :: r => (true, p.2.1, (x.1 + l.1, x.2.1 + l.2.1, ()) :: r, ())
  | b, r => (b, p.2.1, r ++ [l], ())
def putR (p : DPile) (l : DLot) : (Bool × Int × List DLot) × Bool :=
  if pileB (putP p l) then (((putP p l).1, (putP p l).2.1, (putP p l).2.2.1), true) else ((false, 0, []), false)
theorem pileB_spec {p : DPile} (h : pileB p = true) : p.2.2.1.all lotB = true ∧ 0 ≤ p.2.1 ∧ p.2.1 ≤ 10000000 ∧ p.2.2.1.length ≤ 40 ∧ (p.1 = true → p.2.2.1.length ≤ 1) ∧ tS p.2.2.1 ≤ p.2.1 := by
  simp only [pileB, Bool.and_eq_true, decide_eq_true_eq] at h
  obtain ⟨h1, h2, h3, h4, h5, h6⟩ := h
  exact ⟨h1, h2, h3, by omega, fun e => by have := h5 e; omega, h6⟩
theorem lotB_spec {x : DLot} (h : lotB x = true) : 1 ≤ x.1 ∧ x.1 ≤ 1000000 ∧ 0 ≤ x.2.1 ∧ x.2.1 ≤ 1000 * x.1 := by simpa [lotB] using h
theorem put_end {q : DPile} (hq : q.2.2.1.length ≤ 1048576) : ((impl_IsPile q).bind fun y => cond (!y) (some ((false, (0, [])), false)) (some ((q.1, (q.2.1, q.2.2.1)), true))) = some (if pileB q then ((q.1, q.2.1, q.2.2.1), true) else ((false, 0, []), false)) := by
  rw [IsPile_ok]
  cases pileB q <;> rfl
theorem put_end' {q : DPile} (hq : q.2.2.1.length ≤ 1048576) : ((spec_spGood q).bind fun y => cond (!y) (some ((false, (0, [])), false)) (some ((q.1, (q.2.1, q.2.2.1)), true))) = some (if pileB q then ((q.1, q.2.1, q.2.2.1), true) else ((false, 0, []), false)) := by
  rw [spGood_ok q (by omega)]
  cases pileB q <;> rfl
theorem putR_len (b : Bool) (c : Int) (l : List DLot) (x : DLot) (hl : l.length ≤ 1048576) : (putR (b, c, l, ()) x).1.2.2.length ≤ 1048577 := by
  unfold putR
  split
  · cases b <;> cases l <;> simp [putP] at hl ⊢ <;> omega
  · simp
theorem putR_good {b : Bool} {c : Int} {l : List DLot} {x : DLot} (h : (putR (b, c, l, ()) x).2 = true) : pileB ((putR (b, c, l, ()) x).1.1, (putR (b, c, l, ()) x).1.2.1, (putR (b, c, l, ()) x).1.2.2, ()) = true := by
  unfold putR at h ⊢
  split at h
  · rename_i hp
    rw [if_pos hp]
    exact hp
  · cases h
theorem spSums_any (l : List DLot) (hl : l.length ≤ 9223372036854775807) : ∃ v, spec_spSums l = some v := by
  have key : ∀ i, i ≤ l.length → ∀ a b : Int, ∃ v, spec_spSums_l0 l (l.length : Int) a b i = some v := by
    refine down (fun a b => ?_) fun i hi ih a b => ?_
    · rw [spec_spSums_l0_eq]; unfold spec_spSums_l0K
      rw [lt_out (Nat.le_refl _)]
      exact ⟨_, rfl⟩
    · rw [spec_spSums_l0_eq]; unfold spec_spSums_l0K
      rw [loop_step hi, wr_succ hi hl]
      exact ih _ _
  obtain ⟨v, hv⟩ := key 0 (Nat.zero_le _) 0 0
  unfold spec_spSums spec_spSumsK
  have e : spec_spSums_l0 l (l.length : Int) 0 0 0 = some v := hv
  rw [e]
  exact ⟨_, rfl⟩
theorem spGood_big (p : DPile) (hl : p.2.2.1.length ≤ 9223372036854775807) (hb : 40 < p.2.2.1.length) : spec_spGood p = some false := by
  have h1 : spec_spGood_l0 p.2.2.1 (p.2.2.1.length : Int) 0 = some (if p.2.2.1.all lotB then .inr () else .inl false) := by
    have := all_loop (f := fun i => spec_spGood_l0 p.2.2.1 (p.2.2.1.length : Int) i) (l := p.2.2.1) (good := fun _ x => lotB x) (y := .inr ()) (n := .inl false) ?_ ?_
    · rw [this]
      congr 1
      by_cases ha : p.2.2.1.all lotB = true
      · rw [if_pos ha, if_pos fun i hi => List.all_eq_true.1 ha _ (List.getElem_mem hi)]
      · rw [if_neg ha, if_neg fun hh => ha (List.all_eq_true.2 fun x hx => by
          obtain ⟨i, hi, rfl⟩ := List.getElem_of_mem hx
          exact hh i hi)]
    · show spec_spGood_l0 _ _ _ = _
      rw [spec_spGood_l0_eq]; unfold spec_spGood_l0K
      rw [lt_out (Nat.le_refl _)]
    · intro i hi
      show spec_spGood_l0 _ _ _ = _
      rw [spec_spGood_l0_eq]; unfold spec_spGood_l0K
      rw [loop_step hi, wr_succ hi (by omega), spLot_ok]
      cases lotB p.2.2.1[i] <;> rfl
  obtain ⟨v, hv⟩ := spSums_any p.2.2.1 hl
  have h40 : ¬ (p.2.2.1.length : Int) ≤ 40 := by omega
  unfold spec_spGood spec_spGoodK
  rw [h1]
  by_cases ha : p.2.2.1.all lotB = true
  · simp [ha, sumO, hv, h40]
  · simp [ha, sumO]
theorem spGood_wf (p : DPile) (hl : p.2.2.1.length ≤ 9223372036854775807) : spec_spGood p = some (pileB p) := by
  by_cases hb : 40 < p.2.2.1.length
  · rw [spGood_big p hl hb]
    have : ¬ (p.2.2.1.length : Int) ≤ 40 := by omega
    simp [pileB, this]
  · exact spGood_ok p (by omega)
theorem tS_append (l : List DLot) (x : DLot) : tS (l ++ [x]) = tS l + x.1 := by simp [tS]
theorem mS_append (l : List DLot) (x : DLot) : mS (l ++ [x]) = mS l + x.2.1 := by simp [mS]
theorem putP_sums (b : Bool) (c : Int) (l : List DLot) (x : DLot) : tS (putP (b, c, l, ()) x).2.2.1 = tS l + x.1 ∧ mS (putP (b, c, l, ()) x).2.2.1 = mS l + x.2.1 := by
  cases b with
  | false => exact ⟨tS_append l x, mS_append l x⟩
  | true =>
    cases l with
    | nil => simp [putP, tS, mS]
    | cons y r =>
      simp only [putP, tS_cons, mS_cons]
      omega
end
end Go.OAI
