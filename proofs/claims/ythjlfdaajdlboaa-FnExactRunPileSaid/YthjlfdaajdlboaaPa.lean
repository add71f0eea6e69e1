/- Piles: what the functions say, in plain words. -/
import Derived.Test.YthjlfdaajdlboaaP0
import Derived.Test.YthjlfdaajdlboaaGa
namespace Go.OAI
set_option linter.unusedVariables false
noncomputable section

theorem toLotS_ok (l : List DLot) (h : l.length ≤ 1099511627776) : laws_toLotS l = some l := by
  unfold laws_toLotS laws_toLotSK
  rw [cap_ok h]
  simp only [Option.bind_some]
  rw [fill_loop (f := fun i r => laws_toLotS_l0 l i r) h (r := l)]
  · rfl
  · show laws_toLotS_l0 l _ l = _
    rw [laws_toLotS_l0_eq]; unfold laws_toLotS_l0K
    rw [lt_out (Nat.le_refl _)]
  · intro i r hi hr
    show laws_toLotS_l0 l i r = _
    rw [laws_toLotS_l0_eq]; unfold laws_toLotS_l0K
    rw [loop_step hi]
    simp only [laws_toLot, laws_toLotK, Option.bind_some]
    rw [ck_in (by omega), wr_succ hi (by omega)]
    simp
  · simp
theorem eqLotS_refl (l : List DLot) (h : l.length ≤ 1099511627776) : laws_eqLotS l l = some true := by
  unfold laws_eqLotS laws_eqLotSK
  have : laws_eqLotS_l0 l l 0 = some (.inr ()) := by
    rw [all_loop (f := fun i => laws_eqLotS_l0 l l i) (l := l) (good := fun _ _ => true) (y := .inr ()) (n := .inl false)]
    · simp
    · show laws_eqLotS_l0 l l _ = _
      rw [laws_eqLotS_l0_eq]; unfold laws_eqLotS_l0K
      rw [lt_out (Nat.le_refl _)]
    · intro i hi
      show laws_eqLotS_l0 l l i = _
      rw [laws_eqLotS_l0_eq]; unfold laws_eqLotS_l0K
      rw [loop_step hi, wr_succ hi (by omega), lat_nat hi]
      simp [laws_eqLot, laws_eqLotK]
  rw [this]
  simp [sumO]

/-- A list of lots after marking: consecutive numbers from k on. -/
theorem markLotS_ok (l : List DLot) (h : l.length ≤ 1099511627776) (k : Int) (h0 : 0 ≤ k) (hk : k ≤ 1099511627776) :
    ∃ k' l', laws_markLotS l k = some (k', l') ∧ l'.length = l.length ∧ laws_heldLotS l' k = some k' ∧ k ≤ k' ∧ k' ≤ k + 2 * (l.length : Int) := by
  let m : Nat → DLot := fun i => (k + 2 * (i : Int), k + 2 * (i : Int) + 1, ())
  let L : List DLot := (List.range l.length).map m
  have hL : L.length = l.length := by simp [L]
  have hLi : ∀ i (hi : i < L.length), L[i] = m i := fun i hi => by simp [L]
  have h1 : laws_markLotS_l0 k 0 l = some (k + 2 * (l.length : Int), L) := by
    have := fill_loop (f := fun i r => laws_markLotS_l0 (k + 2 * i) i r) (l := L) (r := (k + 2 * (l.length : Int), L)) (by omega) ?_ ?_ l hL.symm
    · simpa using this
    · show laws_markLotS_l0 _ _ L = _
      rw [laws_markLotS_l0_eq]; unfold laws_markLotS_l0K
      rw [lt_out (Nat.le_refl _), hL]
    · intro i r hi hr
      show laws_markLotS_l0 (k + 2 * (i : Int)) i r = laws_markLotS_l0 _ _ _
      rw [laws_markLotS_l0_eq]; unfold laws_markLotS_l0K
      rw [lt_in (by omega), ck_in (by omega)]
      simp only [Option.bind_some]
      rw [ck_in (by simp; omega)]
      try simp only [Option.bind_some]
      rw [wr_succ hi (by omega), wr (n := k + 2 * (i : Int) + 1) (by omega) (by omega), wr (by omega) (by omega)]
      have e1 : k + 2 * (i : Int) + 1 + 1 = k + 2 * ((i + 1 : Nat) : Int) := by omega
      rw [e1, hLi i hi]
      congr 1
      have hi' : i < r.length := by omega
      simp [m, hi']
  have h2 : laws_heldLotS_l0 L k 0 = some (.inr (k + 2 * (l.length : Int))) := by
    have key : ∀ i, i ≤ L.length → laws_heldLotS_l0 L (k + 2 * (i : Int)) i = some (.inr (k + 2 * (l.length : Int))) := by
      refine down ?_ fun i hi ih => ?_
      · rw [laws_heldLotS_l0_eq]; unfold laws_heldLotS_l0K
        rw [lt_out (Nat.le_refl _), hL]
      · rw [laws_heldLotS_l0_eq]; unfold laws_heldLotS_l0K
        rw [loop_step hi, lat_nat hi, hLi i hi, wr_succ hi (by omega), wr (n := k + 2 * (i : Int) + 1) (by omega) (by omega), wr (by omega) (by omega)]
        have e1 : k + 2 * (i : Int) + 1 + 1 = k + 2 * ((i + 1 : Nat) : Int) := by omega
        rw [e1]
        simp only [m, bne_self_eq_false, cond_false, Option.bind_some]
        exact ih
    have := key 0 (Nat.zero_le _)
    simpa using this
  refine ⟨k + 2 * (l.length : Int), L, ?_, hL, ?_, by omega, by omega⟩
  · unfold laws_markLotS laws_markLotSK
    rw [h1]; rfl
  · unfold laws_heldLotS laws_heldLotSK
    rw [h2]; rfl

theorem szLotS_ok (l : List DLot) (h : l.length ≤ 4611686018427387904) (n : Int) (h0 : 0 ≤ n) (h1 : n ≤ 1099511627776) : laws_szLotS l n = some (if (l.length : Int) ≤ n then n - l.length else -1) := by
  unfold laws_szLotS laws_szLotSK
  rw [wr (by omega) (by omega)]
  by_cases h2 : (l.length : Int) ≤ n
  · have : ¬ n - (l.length : Int) < 0 := by omega
    simp [h2, this]
  · have : n - (l.length : Int) < 0 := by omega
    simp [h2, this]
theorem szPile_ok (p : DPile) (h : p.2.2.1.length ≤ 4611686018427387904) (n : Int) (h0 : 0 ≤ n) (h1 : n ≤ 1099511627776) : laws_szPile p n = some (if (p.2.2.1.length : Int) ≤ n then n - p.2.2.1.length else -1) := by
  unfold laws_szPile laws_szPileK
  rw [szLotS_ok _ h n h0 h1]
  by_cases h2 : (p.2.2.1.length : Int) ≤ n
  · have : ¬ n - (p.2.2.1.length : Int) < 0 := by omega
    simp [h2, this]
  · simp [h2]
theorem toPile_ok (p : DPile) (h : p.2.2.1.length ≤ 1099511627776) : laws_toPile p = some (p.1, p.2.1, p.2.2.1) := by
  unfold laws_toPile laws_toPileK
  rw [toLotS_ok _ h]; rfl
theorem eqPile_refl (p : DPile) (h : p.2.2.1.length ≤ 1099511627776) : laws_eqPile p p = some true := by
  unfold laws_eqPile laws_eqPileK
  rw [eqLotS_refl _ h]; simp
theorem markPile_ok (b : Bool) (c : Int) (l : List DLot) (h : l.length ≤ 1099511627776) (k : Int) (h0 : 0 ≤ k) (hk : k ≤ 1099511627776) :
    ∃ k' l', laws_markPile (b, c, l) k = some (k', b, c, l') ∧ l'.length = l.length ∧ laws_heldPile (b, c, l', ()) k = some k' ∧ k ≤ k' ∧ k' ≤ k + 2 * (l.length : Int) := by
  obtain ⟨k', l', h1, h2, h3, h4, h5⟩ := markLotS_ok l h k h0 hk
  refine ⟨k', l', ?_, h2, ?_, h4, h5⟩
  · unfold laws_markPile laws_markPileK
    rw [h1]; rfl
  · unfold laws_heldPile laws_heldPileK
    rw [h3]
    have : ¬ k' < 0 := by omega
    simp [this]

/-! ### Lots -/
def lotB (x : DLot) : Bool := decide (1 ≤ x.1 ∧ x.1 ≤ 1000000 ∧ 0 ≤ x.2.1 ∧ x.2.1 ≤ 1000 * x.1)
theorem isLot_ok (x : DLot) : impl_isLot x = some (lotB x) := by
  unfold impl_isLot impl_isLotK lotB
  by_cases h1 : 1 ≤ x.1
  · by_cases h2 : x.1 ≤ 1000000
    · rw [wr (by omega) (by omega)]
      by_cases h3 : 0 ≤ x.2.1 <;> simp [h1, h2, h3]
    · simp [h1, h2]
  · simp [h1]
theorem spLot_ok (x : DLot) : spec_spLot x = some (lotB x) := by
  unfold spec_spLot spec_spLotK spec_l1In spec_l1InK lotB
  by_cases h1 : 1 ≤ x.1
  · by_cases h2 : x.1 ≤ 1000000
    · rw [wr (by omega) (by omega)]
      by_cases h3 : 0 ≤ x.2.1 <;> simp [h1, h2, h3]
    · simp [h1, h2]
  · simp [h1]
def tS (l : List DLot) : Int := (l.map (·.1)).sum
def mS (l : List DLot) : Int := (l.map (·.2.1)).sum
theorem tS_cons (x : DLot) (l : List DLot) : tS (x :: l) = x.1 + tS l := by simp [tS]
theorem mS_cons (x : DLot) (l : List DLot) : mS (x :: l) = x.2.1 + mS l := by simp [mS]
theorem sums_bound : ∀ (l : List DLot), l.all lotB = true → 0 ≤ tS l ∧ (l.length : Int) ≤ tS l ∧ tS l ≤ 1000000 * (l.length : Int) ∧ 0 ≤ mS l ∧ mS l ≤ 1000 * tS l
  | [], _ => by simp [tS, mS]
  | x :: l, h => by
    simp only [List.all_cons, Bool.and_eq_true] at h
    have := sums_bound l h.2
    have hx : lotB x = true := h.1
    simp only [lotB, decide_eq_true_eq] at hx
    rw [tS_cons, mS_cons]
    simp only [List.length_cons]
    omega
theorem drop_all {α : Type} {p : α → Bool} {l : List α} (h : l.all p = true) (i : Nat) : (l.drop i).all p = true := by
  rw [List.all_eq_true] at h ⊢
  exact fun x hx => h x (List.mem_of_mem_drop hx)
theorem spSums_ok (l : List DLot) (h : l.all lotB = true) (hl : l.length ≤ 1099511627) : spec_spSums l = some (tS l, mS l) := by
  have key : ∀ i, i ≤ l.length → ∀ a b : Int, 0 ≤ a → a ≤ 1000000 * (i : Int) → 0 ≤ b → b ≤ 1000000000 * (i : Int) → spec_spSums_l0 l (l.length : Int) a b i = some (a + tS (l.drop i), b + mS (l.drop i)) := by
    refine down (fun a b h1 h2 h3 h4 => ?_) fun i hi ih a b h1 h2 h3 h4 => ?_
    · rw [spec_spSums_l0_eq]; unfold spec_spSums_l0K
      rw [lt_out (Nat.le_refl _)]
      simp [tS, mS]
    · have hx : lotB l[i] = true := List.all_eq_true.1 h _ (List.getElem_mem hi)
      simp only [lotB, decide_eq_true_eq] at hx
      rw [spec_spSums_l0_eq]; unfold spec_spSums_l0K
      rw [loop_step hi, wr_succ hi (by omega), wr (by omega) (by omega), wr (by omega) (by omega), ih _ _ (by omega) (by omega) (by omega) (by omega), drop_cons hi, tS_cons, mS_cons]
      simp only [Option.some.injEq, Prod.mk.injEq]
      constructor <;> omega
  have := key 0 (Nat.zero_le _) 0 0 (by omega) (by simp) (by omega) (by simp)
  unfold spec_spSums spec_spSumsK
  simp only [Int.natCast_zero, List.drop_zero, Int.zero_add] at this
  have e : spec_spSums_l0 l (l.length : Int) 0 0 0 = some (tS l, mS l) := this
  rw [e]; rfl
theorem lotSum_ok (l : List DLot) (h : l.all lotB = true) (hl : l.length ≤ 1099511627) : impl_lotSum l = some (tS l, mS l, ()) := by
  have key : ∀ i, i ≤ l.length → ∀ a b : Int, 0 ≤ a → a ≤ 1000000 * (i : Int) → 0 ≤ b → b ≤ 1000000000 * (i : Int) → impl_lotSum_l0 l (l.length : Int) i a b = some (a + tS (l.drop i), b + mS (l.drop i)) := by
    refine down (fun a b h1 h2 h3 h4 => ?_) fun i hi ih a b h1 h2 h3 h4 => ?_
    · rw [impl_lotSum_l0_eq]; unfold impl_lotSum_l0K
      rw [lt_out (Nat.le_refl _)]
      simp [tS, mS]
    · have hx : lotB l[i] = true := List.all_eq_true.1 h _ (List.getElem_mem hi)
      simp only [lotB, decide_eq_true_eq] at hx
      rw [impl_lotSum_l0_eq]; unfold impl_lotSum_l0K
      rw [loop_step hi, wr_succ hi (by omega), wr (by omega) (by omega), wr (by omega) (by omega), ih _ _ (by omega) (by omega) (by omega) (by omega), drop_cons hi, tS_cons, mS_cons]
      simp only [Option.some.injEq, Prod.mk.injEq]
      constructor <;> omega
  have := key 0 (Nat.zero_le _) 0 0 (by omega) (by simp) (by omega) (by simp)
  unfold impl_lotSum impl_lotSumK
  simp only [Int.natCast_zero, List.drop_zero, Int.zero_add] at this
  have e : impl_lotSum_l0 l (l.length : Int) 0 0 0 = some (tS l, mS l) := this
  rw [e]; rfl

/-! ### Piles -/
def pileB (p : DPile) : Bool := p.2.2.1.all lotB && decide (0 ≤ p.2.1 ∧ p.2.1 ≤ 10000000 ∧ (p.2.2.1.length : Int) ≤ 40 ∧ (p.1 = true → (p.2.2.1.length : Int) ≤ 1) ∧ tS p.2.2.1 ≤ p.2.1)
theorem spGood_ok (p : DPile) (hl : p.2.2.1.length ≤ 1099511627) : spec_spGood p = some (pileB p) := by
  have h1 : spec_spGood_l0 p.2.2.1 (p.2.2.1.length : Int) 0 = some (if p.2.2.1.all lotB then .inr () else .inl false) := by
    have := all_loop (f := fun i => spec_spGood_l0 p.2.2.1 (p.2.2.1.length : Int) i) (l := p.2.2.1) (good := fun _ x => lotB x) (y := .inr ()) (n := .inl false) ?_ ?_
    · rw [this]
      congr 1
      by_cases ha : p.2.2.1.all lotB = true
      · rw [if_pos ha, if_pos fun i hi => List.all_eq_true.1 ha _ (List.getElem_mem hi)]
      · rw [if_neg ha, if_neg fun hh => ha (List.all_eq_true.2 fun x hx => by
          obtain ⟨i, hi, rfl⟩ := List.getElem_of_mem hx
          exact hh i hi)]
    · show spec_spGood_l0 _ _ _ = _
      rw [spec_spGood_l0_eq]; unfold spec_spGood_l0K
      rw [lt_out (Nat.le_refl _)]
    · intro i hi
      show spec_spGood_l0 _ _ _ = _
      rw [spec_spGood_l0_eq]; unfold spec_spGood_l0K
      rw [loop_step hi, wr_succ hi (by omega), spLot_ok]
      cases lotB p.2.2.1[i] <;> rfl
  unfold spec_spGood spec_spGoodK pileB
  rw [h1]
  by_cases ha : p.2.2.1.all lotB = true
  · rw [spSums_ok _ ha hl]
    simp only [ha, if_true, Option.bind_some, sumO, spec_l1In, spec_l1InK, Bool.true_and]
    by_cases c1 : (p.2.2.1.length : Int) ≤ 40 <;> by_cases c2 : p.1 = true <;> by_cases c3 : (p.2.2.1.length : Int) ≤ 1 <;> by_cases c4 : 0 ≤ p.2.1 <;> by_cases c5 : p.2.1 ≤ 10000000 <;>
      simp [c1, c2, c3, c4, c5]
  · simp [ha, sumO]
theorem IsPile_ok (p : DPile) : impl_IsPile p = some (pileB p) := by
  have h1 : p.2.2.1.length ≤ 40 → impl_IsPile_l0 p.2.2.1 (p.2.2.1.length : Int) 0 0 = some (if p.2.2.1.all lotB then .inr (tS p.2.2.1) else .inl false) := fun hl => by
    have key : ∀ i, i ≤ p.2.2.1.length → ∀ a : Int, 0 ≤ a → a ≤ 1000000 * (i : Int) → impl_IsPile_l0 p.2.2.1 (p.2.2.1.length : Int) a i = some (if (p.2.2.1.drop i).all lotB then .inr (a + tS (p.2.2.1.drop i)) else .inl false) := by
      refine down (fun a h1 h2 => ?_) fun i hi ih a h1 h2 => ?_
      · rw [impl_IsPile_l0_eq]; unfold impl_IsPile_l0K
        rw [lt_out (Nat.le_refl _)]
        simp [tS]
      · rw [impl_IsPile_l0_eq]; unfold impl_IsPile_l0K
        rw [loop_step hi, wr_succ hi (by omega), isLot_ok, drop_cons hi]
        cases hx : lotB p.2.2.1[i] with
        | false => simp [hx]
        | true =>
          have hx' := hx
          simp only [lotB, decide_eq_true_eq] at hx'
          rw [wr (by omega) (by omega), Option.bind_some, ih _ (by omega) (by omega), tS_cons]
          simp only [Bool.not_true, cond_false, List.all_cons, hx, Bool.true_and, Int.add_assoc]
    have := key 0 (Nat.zero_le _) 0 (by omega) (by simp)
    rw [List.drop_zero, Int.zero_add] at this
    exact this
  unfold impl_IsPile impl_IsPileK pileB
  simp only [dec_lt, dec_gt]
  by_cases c1 : (p.2.2.1.length : Int) ≤ 40
  · rw [h1 (by omega)]
    by_cases ha : p.2.2.1.all lotB = true
    · simp only [ha, if_true, Option.bind_some, sumO, Bool.true_and]
      by_cases c2 : p.1 = true <;> by_cases c3 : (p.2.2.1.length : Int) ≤ 1 <;> by_cases c4 : 0 ≤ p.2.1 <;> by_cases c5 : p.2.1 ≤ 10000000 <;> simp [c1, c2, c3, c4, c5]
    · simp only [ha, Option.bind_some, sumO, Bool.false_and]
      by_cases c2 : p.1 = true <;> by_cases c3 : (p.2.2.1.length : Int) ≤ 1 <;> by_cases c4 : 0 ≤ p.2.1 <;> by_cases c5 : p.2.1 ≤ 10000000 <;> simp [c1, c2, c3, c4, c5]
  · by_cases c4 : 0 ≤ p.2.1 <;> by_cases c5 : p.2.1 ≤ 10000000 <;> simp [c1, c4, c5]

/-! ### The laws -/
theorem maxLen_le {n : Nat} (h : n ≤ maxLen) : n ≤ 9223372036854775807 := h
theorem szPile_big (p : DPile) (h : p.2.2.1.length ≤ 9223372036854775807) (hb : 1048576 < p.2.2.1.length) : laws_szPile p 1048576 = some (-1) := by
  unfold laws_szPile laws_szPileK laws_szLotS laws_szLotSK
  rw [wr (by omega) (by omega)]
  have : (1048576 : Int) - (p.2.2.1.length : Int) < 0 := by omega
  simp [this]
theorem IsPile_law (x0 : DPile) (w0 : TPile.wf x0) : laws_FnExactIsPile x0 = some true := by
  have hw : x0.2.2.1.length ≤ 9223372036854775807 := w0.2.2.1.1
  unfold laws_FnExactIsPile laws_FnExactIsPileK
  by_cases hb : 1048576 < x0.2.2.1.length
  · rw [szPile_big x0 hw hb]; rfl
  · rw [szPile_ok x0 (by omega) _ (by omega) (by omega)]
    have h1 : (x0.2.2.1.length : Int) ≤ 1048576 := by omega
    have h2 : ¬ (1048576 : Int) - (x0.2.2.1.length : Int) < 0 := by omega
    simp only [h1, if_true, Option.bind_some, h2, decide_false, cond_false, toPile_ok x0 (by omega)]
    have e : ((x0.1, x0.2.1, x0.2.2.1, ()) : DPile) = x0 := rfl
    have hs : spec_IsPile x0 = some (pileB x0) := by
      unfold spec_IsPile spec_IsPileK
      rw [spGood_ok x0 (by omega)]; rfl
    simp only [e, hs, IsPile_ok, eqPile_refl x0 (by omega), Option.bind_some]
    simp

theorem IsPile_spec (x0 : DPile) (h : x0.2.2.1.length ≤ 1048576) : spec_IsPile x0 = some (pileB x0) := by
  unfold spec_IsPile spec_IsPileK
  rw [spGood_ok x0 (by omega)]; rfl
theorem eqLot_refl (x : DLot) : laws_eqLot x x = some true := by simp [laws_eqLot, laws_eqLotK]
theorem toLot_ok (x : DLot) : laws_toLot x = some x := by simp [laws_toLot, laws_toLotK]
theorem bne_self_int (a : Int) : (a != a) = false := by simp
/-- What the head of every law of a pile says. -/
theorem pile_head (x0 : DPile) (w0 : TPile.wf x0) {A : Int → Option Bool} (hs : x0.2.2.1.length ≤ 1048576 → A (1048576 - (x0.2.2.1.length : Int)) = some true) :
    ((laws_szPile x0 1048576).bind fun y1 => cond (decide (y1 < 0)) (some true) (A y1)) = some true := by
  have hw : x0.2.2.1.length ≤ 9223372036854775807 := w0.2.2.1.1
  by_cases hb : 1048576 < x0.2.2.1.length
  · rw [szPile_big x0 hw hb]; rfl
  · rw [szPile_ok x0 (by omega) _ (by omega) (by omega)]
    have h1 : (x0.2.2.1.length : Int) ≤ 1048576 := by omega
    have h2 : ¬ (1048576 : Int) - (x0.2.2.1.length : Int) < 0 := by omega
    simp only [h1, if_true, Option.bind_some, h2, decide_false, cond_false]
    exact hs (by omega)
theorem OldestLot_law (x0 : DPile) (w0 : TPile.wf x0) : laws_FnExactOldestLot x0 = some true := by
  unfold laws_FnExactOldestLot laws_FnExactOldestLotK
  refine pile_head x0 w0 fun hl => ?_
  have e : ((x0.1, x0.2.1, x0.2.2.1, ()) : DPile) = x0 := rfl
  obtain ⟨v, h1, h2⟩ : ∃ v, impl_OldestLot x0 = some v ∧ spec_OldestLot x0 = some v := by
    unfold impl_OldestLot impl_OldestLotK spec_OldestLot spec_OldestLotK
    rw [IsPile_ok, spGood_ok x0 (by omega)]
    cases pileB x0 with
    | false => exact ⟨_, rfl, rfl⟩
    | true =>
      cases hx : x0.2.2.1 with
      | nil => exact ⟨_, rfl, rfl⟩
      | cons y l =>
        have : ((y :: l).length : Int) ≠ 0 := by simp; omega
        have e1 : (((y :: l).length : Int) == 0) = false := by simp; omega
        simp only [Option.bind_some, Bool.not_true, cond_false, e1]
        exact ⟨_, rfl, rfl⟩
  simp only [toPile_ok x0 (by omega), Option.bind_some, e, h1, h2, eqLot_refl, eqPile_refl x0 (by omega)]
  simp
theorem PileSums_law (x0 : DPile) (w0 : TPile.wf x0) : laws_FnExactPileSums x0 = some true := by
  unfold laws_FnExactPileSums laws_FnExactPileSumsK
  refine pile_head x0 w0 fun hl => ?_
  have e : ((x0.1, x0.2.1, x0.2.2.1, ()) : DPile) = x0 := rfl
  obtain ⟨v, h1, h2⟩ : ∃ v, impl_PileSums x0 = some v ∧ spec_PileSums x0 = some v := by
    unfold impl_PileSums impl_PileSumsK spec_PileSums spec_PileSumsK
    rw [IsPile_ok, spGood_ok x0 (by omega)]
    cases hp : pileB x0 with
    | false => exact ⟨_, rfl, rfl⟩
    | true =>
      have ha : x0.2.2.1.all lotB = true := by
        simp only [pileB, Bool.and_eq_true] at hp; exact hp.1
      rw [spSums_ok _ ha (by omega), lotSum_ok _ ha (by omega)]
      exact ⟨_, rfl, rfl⟩
  simp only [toPile_ok x0 (by omega), Option.bind_some, e, h1, h2, eqPile_refl x0 (by omega)]
  simp

/-! ### Fractions -/
theorem lowest_gcd : ∀ (n m : Nat), impl_lowest_l0 (m : Int) (n : Int) = some ((Nat.gcd m n : Nat) : Int) := by
  intro n
  induction n using Nat.strongRecOn with
  | _ n ih =>
    intro m
    rw [impl_lowest_l0_eq]; unfold impl_lowest_l0K
    by_cases h : n = 0
    · subst h; simp
    · have h1 : ((n : Int) != 0) = true := by simp [h]
      have h2 : ¬ ((n : Int) = 0) := by omega
      simp only [h1, h2, decide_false, cond_true, cond_false]
      rw [← Int.ofNat_tmod, ih (m % n) (Nat.mod_lt _ (by omega)), Nat.gcd_comm n (m % n), ← Nat.gcd_rec n m, Nat.gcd_comm]
theorem moPart_gcd : ∀ (n m : Nat), spec_moPart_l0 (m : Int) (n : Int) = some ((Nat.gcd m n : Nat) : Int) := by
  intro n
  induction n using Nat.strongRecOn with
  | _ n ih =>
    intro m
    rw [spec_moPart_l0_eq]; unfold spec_moPart_l0K
    by_cases h : n = 0
    · subst h; simp
    · have h1 : (n : Int) > 0 := by omega
      have h2 : ¬ ((n : Int) = 0) := by omega
      simp only [h1, h2, decide_true, decide_false, cond_true, cond_false]
      rw [← Int.ofNat_tmod, ih (m % n) (Nat.mod_lt _ (by omega)), Nat.gcd_comm n (m % n), ← Nat.gcd_rec n m, Nat.gcd_comm]
theorem lowest_moPart (a b : Int) (ha : 0 ≤ a) (ha' : a ≤ 9223372036854775807) (hb : 0 < b) : ∃ v, impl_lowest a b = some v ∧ spec_moPart a b = some v := by
  obtain ⟨m, rfl⟩ := Int.eq_ofNat_of_zero_le ha
  obtain ⟨n, rfl⟩ := Int.eq_ofNat_of_zero_le (Int.le_of_lt hb)
  have hg : Nat.gcd m n ≠ 0 := fun e => by
    have := (Nat.gcd_eq_zero_iff.1 e).2
    omega
  have h2 : ¬ (((Nat.gcd m n : Nat) : Int) = 0) := by omega
  have habs : impl_abs (m : Int) = some (m : Int) := by
    unfold impl_abs impl_absK
    rw [wr (by omega) (by omega)]
    have : ¬ (0 - (m : Int) > (m : Int)) := by omega
    rw [if_neg this]
  unfold impl_lowest impl_lowestK spec_moPart spec_moPartK
  rw [habs]
  simp only [Option.bind_some, lowest_gcd, moPart_gcd, h2, decide_false, cond_false]
  exact ⟨_, rfl, rfl⟩
theorem PileGrade_law (x0 : DPile) (w0 : TPile.wf x0) : laws_FnExactPileGrade x0 = some true := by
  unfold laws_FnExactPileGrade laws_FnExactPileGradeK
  refine pile_head x0 w0 fun hl => ?_
  have e : ((x0.1, x0.2.1, x0.2.2.1, ()) : DPile) = x0 := rfl
  obtain ⟨v, h1, h2⟩ : ∃ v, impl_PileGrade x0 = some v ∧ spec_PileGrade x0 = some v := by
    unfold impl_PileGrade impl_PileGradeK spec_PileGrade spec_PileGradeK
    rw [IsPile_ok, spGood_ok x0 (by omega)]
    cases hp : pileB x0 with
    | false => exact ⟨_, rfl, rfl⟩
    | true =>
      have ha : x0.2.2.1.all lotB = true := by
        simp only [pileB, Bool.and_eq_true] at hp; exact hp.1
      rw [spSums_ok _ ha (by omega), lotSum_ok _ ha (by omega)]
      by_cases h0 : (x0.2.2.1.length : Int) = 0
      · have e1 : ((x0.2.2.1.length : Int) == 0) = true := by rw [h0]; rfl
        rw [e1]
        exact ⟨_, rfl, rfl⟩
      · have e1 : ((x0.2.2.1.length : Int) == 0) = false := by rw [beq_dec, decide_eq_false h0]
        rw [e1]
        have hb := sums_bound _ ha
        obtain ⟨v, g1, g2⟩ := lowest_moPart (mS x0.2.2.1) (tS x0.2.2.1) (by omega) (by omega) (by omega)
        simp only [Option.bind_some, Bool.not_true, cond_false, g1, g2]
        exact ⟨_, rfl, rfl⟩
  simp only [toPile_ok x0 (by omega), Option.bind_some, e, h1, h2, eqPile_refl x0 (by omega)]
  simp

/-! ### A lot is put -/
def putP (p : DPile) (l : DLot) : DPile :=
  match p.1, p.2.2.1 with
  | true, x :: r => (true, p.2.1, (x.1 + l.1, x.2.1 + l.2.1, ()) :: r, ())
  | b, r => (b, p.2.1, r ++ [l], ())
def putR (p : DPile) (l : DLot) : (Bool × Int × List DLot) × Bool :=
  if pileB (putP p l) then (((putP p l).1, (putP p l).2.1, (putP p l).2.2.1), true) else ((false, 0, []), false)
theorem pileB_spec {p : DPile} (h : pileB p = true) : p.2.2.1.all lotB = true ∧ 0 ≤ p.2.1 ∧ p.2.1 ≤ 10000000 ∧ p.2.2.1.length ≤ 40 ∧ (p.1 = true → p.2.2.1.length ≤ 1) ∧ tS p.2.2.1 ≤ p.2.1 := by
  simp only [pileB, Bool.and_eq_true, decide_eq_true_eq] at h
  obtain ⟨h1, h2, h3, h4, h5, h6⟩ := h
  exact ⟨h1, h2, h3, by omega, fun e => by have := h5 e; omega, h6⟩
theorem lotB_spec {x : DLot} (h : lotB x = true) : 1 ≤ x.1 ∧ x.1 ≤ 1000000 ∧ 0 ≤ x.2.1 ∧ x.2.1 ≤ 1000 * x.1 := by simpa [lotB] using h
theorem put_end {q : DPile} (hq : q.2.2.1.length ≤ 1048576) : ((impl_IsPile q).bind fun y => cond (!y) (some ((false, (0, [])), false)) (some ((q.1, (q.2.1, q.2.2.1)), true))) = some (if pileB q then ((q.1, q.2.1, q.2.2.1), true) else ((false, 0, []), false)) := by
  rw [IsPile_ok]
  cases pileB q <;> rfl
theorem put_end' {q : DPile} (hq : q.2.2.1.length ≤ 1048576) : ((spec_spGood q).bind fun y => cond (!y) (some ((false, (0, [])), false)) (some ((q.1, (q.2.1, q.2.2.1)), true))) = some (if pileB q then ((q.1, q.2.1, q.2.2.1), true) else ((false, 0, []), false)) := by
  rw [spGood_ok q (by omega)]
  cases pileB q <;> rfl
theorem spPut_ok (b : Bool) (c : Int) (l : List DLot) (x : DLot) (hp : pileB (b, c, l, ()) = true) (hx : lotB x = true) : spec_spPut (b, c, l, ()) x = some (putR (b, c, l, ()) x) := by
  obtain ⟨h1, h2, h3, h4, h5, h6⟩ := pileB_spec hp
  have hx' := lotB_spec hx
  dsimp only at h1 h2 h3 h4 h5 h6
  have e1 : spec_spWith (b, c, l, ()) l = some (b, c, l) := by
    unfold spec_spWith spec_spWithK
    have : ([] : List DLot).length + l.length ≤ 1099511627776 := by simp; omega
    simp only [this, decide_true, cond_true, List.nil_append]
  have e2 : l.length + [x].length ≤ 1099511627776 := by simp; omega
  unfold spec_spPut spec_spPutK
  rw [e1]
  simp only [Option.bind_some, e2, decide_true, cond_true]
  cases b with
  | false => exact put_end' (q := (false, c, l ++ [x], ())) (by simp; omega)
  | true =>
    cases l with
    | nil => exact put_end' (q := (true, c, [x], ())) (by simp)
    | cons y r =>
      have hr : r = [] := by
        have := h5 rfl
        simp at this
        exact this
      subst hr
      have hy := lotB_spec (List.all_eq_true.1 h1 y (by simp))
      have w1 : IntKind.i64.wrap (y.1 + x.1) = y.1 + x.1 := wr (by omega) (by omega)
      have w2 : IntKind.i64.wrap (y.2.1 + x.2.1) = y.2.1 + x.2.1 := wr (by omega) (by omega)
      have := put_end' (q := (true, c, [(y.1 + x.1, y.2.1 + x.2.1, ())], ())) (by simp)
      simp [putR, putP, w1, w2] at this ⊢
      exact this
theorem putLot_ok (b : Bool) (c : Int) (l : List DLot) (x : DLot) (hp : pileB (b, c, l, ()) = true) (hx : lotB x = true) : impl_putLot (b, c, l, ()) x = some (putR (b, c, l, ()) x) := by
  obtain ⟨h1, h2, h3, h4, h5, h6⟩ := pileB_spec hp
  have hx' := lotB_spec hx
  dsimp only at h1 h2 h3 h4 h5 h6
  have e1 : impl_copyPile (b, c, l, ()) = some (b, c, l) := by
    unfold impl_copyPile impl_copyPileK
    have : ([] : List DLot).length + l.length ≤ 1099511627776 := by simp; omega
    simp only [this, decide_true, cond_true, List.nil_append]
  have e2 : l.length + [x].length ≤ 1099511627776 := by simp; omega
  unfold impl_putLot impl_putLotK
  rw [e1]
  simp only [Option.bind_some, e2, decide_true, cond_true]
  cases b with
  | false => exact put_end (q := (false, c, l ++ [x], ())) (by simp; omega)
  | true =>
    cases l with
    | nil => exact put_end (q := (true, c, [x], ())) (by simp)
    | cons y r =>
      have hr : r = [] := by
        have := h5 rfl
        simp at this
        exact this
      subst hr
      have hy0 : lotB y = true := List.all_eq_true.1 h1 y (by simp)
      have hy := lotB_spec hy0
      have hs : impl_lotSum [(y.1, (y.2.1, ())), x] = some (y.1 + x.1, y.2.1 + x.2.1, ()) := by
        rw [lotSum_ok _ (by have : lotB (y.1, (y.2.1, ())) = true := hy0
                            simp [this, hx]) (by simp)]
        simp [tS, mS]
      have := put_end (q := (true, c, [(y.1 + x.1, y.2.1 + x.2.1, ())], ())) (by simp)
      simp [putR, putP, hs] at this ⊢
      exact this
theorem putR_len (b : Bool) (c : Int) (l : List DLot) (x : DLot) (hl : l.length ≤ 1048576) : (putR (b, c, l, ()) x).1.2.2.length ≤ 1048577 := by
  unfold putR
  split
  · cases b <;> cases l <;> simp [putP] at hl ⊢ <;> omega
  · simp
theorem putR_good {b : Bool} {c : Int} {l : List DLot} {x : DLot} (h : (putR (b, c, l, ()) x).2 = true) : pileB ((putR (b, c, l, ()) x).1.1, (putR (b, c, l, ()) x).1.2.1, (putR (b, c, l, ()) x).1.2.2, ()) = true := by
  unfold putR at h ⊢
  split at h
  · rename_i hp
    rw [if_pos hp]
    exact hp
  · cases h
theorem PutLot_law (x0 : DPile) (x1 : DLot) (w0 : TPile.wf x0) (w1 : TLot.wf x1) : laws_FnExactPutLot x0 x1 = some true := by
  unfold laws_FnExactPutLot laws_FnExactPutLotK
  refine pile_head x0 w0 fun hl => ?_
  have e : ((x0.1, x0.2.1, x0.2.2.1, ()) : DPile) = x0 := rfl
  obtain ⟨v, h1, h2, h3⟩ : ∃ v, impl_PutLot x0 x1 = some v ∧ spec_PutLot x0 x1 = some v ∧ v.1.2.2.length ≤ 1048577 := by
    unfold impl_PutLot impl_PutLotK spec_PutLot spec_PutLotK
    rw [IsPile_ok, spGood_ok x0 (by omega), isLot_ok, spLot_ok]
    cases hp : pileB x0 with
    | false => exact ⟨_, rfl, rfl, by simp⟩
    | true =>
      cases hx : lotB x1 with
      | false => exact ⟨_, rfl, rfl, by simp⟩
      | true =>
        have g1 := putLot_ok x0.1 x0.2.1 x0.2.2.1 x1 hp hx
        have g2 := spPut_ok x0.1 x0.2.1 x0.2.2.1 x1 hp hx
        rw [e] at g1 g2
        rw [g1, g2]
        exact ⟨_, rfl, rfl, putR_len _ _ _ _ hl⟩
  obtain ⟨⟨b, c, l⟩, ok⟩ := v
  dsimp only at h3
  obtain ⟨k', l', m1, m2, m3, m4, m5⟩ := markPile_ok x0.1 x0.2.1 x0.2.2.1 (by omega) 1 (by omega) (by omega)
  obtain ⟨k2, l2, n1, n2, n3, n4, n5⟩ := markPile_ok b c l (by omega) 1 (by omega) (by omega)
  have k0 : ¬ k' < 0 := by omega
  have k20 : ¬ k2 < 0 := by omega
  have er := eqPile_refl (b, c, l, ()) (by show l.length ≤ _; omega)
  simp only [toPile_ok x0 (by omega), toLot_ok, Option.bind_some, e, h1, h2, er, eqPile_refl x0 (by omega), m1, n1, n3, k0, k20]
  simp

theorem spSums_any (l : List DLot) (hl : l.length ≤ 9223372036854775807) : ∃ v, spec_spSums l = some v := by
  have key : ∀ i, i ≤ l.length → ∀ a b : Int, ∃ v, spec_spSums_l0 l (l.length : Int) a b i = some v := by
    refine down (fun a b => ?_) fun i hi ih a b => ?_
    · rw [spec_spSums_l0_eq]; unfold spec_spSums_l0K
      rw [lt_out (Nat.le_refl _)]
      exact ⟨_, rfl⟩
    · rw [spec_spSums_l0_eq]; unfold spec_spSums_l0K
      rw [loop_step hi, wr_succ hi hl]
      exact ih _ _
  obtain ⟨v, hv⟩ := key 0 (Nat.zero_le _) 0 0
  unfold spec_spSums spec_spSumsK
  have e : spec_spSums_l0 l (l.length : Int) 0 0 0 = some v := hv
  rw [e]
  exact ⟨_, rfl⟩
theorem spGood_big (p : DPile) (hl : p.2.2.1.length ≤ 9223372036854775807) (hb : 40 < p.2.2.1.length) : spec_spGood p = some false := by
  have h1 : spec_spGood_l0 p.2.2.1 (p.2.2.1.length : Int) 0 = some (if p.2.2.1.all lotB then .inr () else .inl false) := by
    have := all_loop (f := fun i => spec_spGood_l0 p.2.2.1 (p.2.2.1.length : Int) i) (l := p.2.2.1) (good := fun _ x => lotB x) (y := .inr ()) (n := .inl false) ?_ ?_
    · rw [this]
      congr 1
      by_cases ha : p.2.2.1.all lotB = true
      · rw [if_pos ha, if_pos fun i hi => List.all_eq_true.1 ha _ (List.getElem_mem hi)]
      · rw [if_neg ha, if_neg fun hh => ha (List.all_eq_true.2 fun x hx => by
          obtain ⟨i, hi, rfl⟩ := List.getElem_of_mem hx
          exact hh i hi)]
    · show spec_spGood_l0 _ _ _ = _
      rw [spec_spGood_l0_eq]; unfold spec_spGood_l0K
      rw [lt_out (Nat.le_refl _)]
    · intro i hi
      show spec_spGood_l0 _ _ _ = _
      rw [spec_spGood_l0_eq]; unfold spec_spGood_l0K
      rw [loop_step hi, wr_succ hi (by omega), spLot_ok]
      cases lotB p.2.2.1[i] <;> rfl
  obtain ⟨v, hv⟩ := spSums_any p.2.2.1 hl
  have h40 : ¬ (p.2.2.1.length : Int) ≤ 40 := by omega
  unfold spec_spGood spec_spGoodK
  rw [h1]
  by_cases ha : p.2.2.1.all lotB = true
  · simp [ha, sumO, hv, h40]
  · simp [ha, sumO]
theorem spGood_wf (p : DPile) (hl : p.2.2.1.length ≤ 9223372036854775807) : spec_spGood p = some (pileB p) := by
  by_cases hb : 40 < p.2.2.1.length
  · rw [spGood_big p hl hb]
    have : ¬ (p.2.2.1.length : Int) ≤ 40 := by omega
    simp [pileB, this]
  · exact spGood_ok p (by omega)
theorem tS_append (l : List DLot) (x : DLot) : tS (l ++ [x]) = tS l + x.1 := by simp [tS]
theorem mS_append (l : List DLot) (x : DLot) : mS (l ++ [x]) = mS l + x.2.1 := by simp [mS]
theorem putP_sums (b : Bool) (c : Int) (l : List DLot) (x : DLot) : tS (putP (b, c, l, ()) x).2.2.1 = tS l + x.1 ∧ mS (putP (b, c, l, ()) x).2.2.1 = mS l + x.2.1 := by
  cases b with
  | false => exact ⟨tS_append l x, mS_append l x⟩
  | true =>
    cases l with
    | nil => simp [putP, tS, mS]
    | cons y r =>
      simp only [putP, tS_cons, mS_cons]
      omega
theorem impl_PutLot_ok (b : Bool) (c : Int) (l : List DLot) (x : DLot) : impl_PutLot (b, c, l, ()) x = some (if pileB (b, c, l, ()) && lotB x then putR (b, c, l, ()) x else ((false, 0, []), false)) := by
  unfold impl_PutLot impl_PutLotK
  rw [IsPile_ok, isLot_ok]
  cases hp : pileB (b, c, l, ()) with
  | false => rfl
  | true =>
    cases hx : lotB x with
    | false => rfl
    | true => simp only [putLot_ok b c l x hp hx, Bool.not_true, cond_false, Option.bind_some, Bool.and_self, if_true]
theorem spec_PutLot_ok (b : Bool) (c : Int) (l : List DLot) (hl : l.length ≤ 9223372036854775807) (x : DLot) : spec_PutLot (b, c, l, ()) x = some (if pileB (b, c, l, ()) && lotB x then putR (b, c, l, ()) x else ((false, 0, []), false)) := by
  unfold spec_PutLot spec_PutLotK
  rw [spGood_wf _ hl, spLot_ok]
  cases hp : pileB (b, c, l, ()) with
  | false => rfl
  | true =>
    cases hx : lotB x with
    | false => rfl
    | true => simp only [spPut_ok b c l x hp hx, Bool.not_true, cond_false, Option.bind_some, Bool.and_self, if_true]
theorem impl_PileSums_ok (p : DPile) : impl_PileSums p = some (if pileB p then (tS p.2.2.1, mS p.2.2.1, true) else (0, 0, false)) := by
  unfold impl_PileSums impl_PileSumsK
  rw [IsPile_ok]
  cases hp : pileB p with
  | false => rfl
  | true =>
    obtain ⟨h1, _, _, h4, _⟩ := pileB_spec hp
    rw [lotSum_ok _ h1 (by omega)]; rfl
theorem spec_PileSums_ok (p : DPile) (hl : p.2.2.1.length ≤ 9223372036854775807) : spec_PileSums p = some (if pileB p then (tS p.2.2.1, mS p.2.2.1, true) else (0, 0, false)) := by
  unfold spec_PileSums spec_PileSumsK
  rw [spGood_wf p hl]
  cases hp : pileB p with
  | false => rfl
  | true =>
    obtain ⟨h1, _, _, h4, _⟩ := pileB_spec hp
    rw [spSums_ok _ h1 (by omega)]; rfl
theorem LotsBalanced_law (x0 : DPile) (x1 : List DLot) (w0 : TPile.wf x0) (w1 : (Ty.slice TLot).wf x1) : laws_FnLotsBalanced x0 x1 = some true := by
  have hw : x0.2.2.1.length ≤ 9223372036854775807 := w0.2.2.1.1
  unfold laws_FnLotsBalanced laws_FnLotsBalancedK
  by_cases hb : (x1.length : Int) > 65536
  · simp [hb]
  · have hb' : x1.length ≤ 65536 := by omega
    rw [impl_PileSums_ok, spec_PileSums_ok x0 hw]
    simp only [hb, decide_false, cond_false, Option.bind_some, beq_self_eq_true, bne_self_eq_false, Bool.not_true]
    cases hp : pileB x0 with
    | false =>
      have hi : laws_FnLotsBalanced_l0 x1 (x1.length : Int) 0 0 0 x0.1 x0.2.1 x0.2.2.1 = some (if x1 = [] then .inr (0, 0, x0.1, x0.2.1, x0.2.2.1) else .inl true) := by
        rw [laws_FnLotsBalanced_l0_eq]; unfold laws_FnLotsBalanced_l0K
        cases x1 with
        | nil => rfl
        | cons y r =>
          have e0 : (0 : Int) = ((0 : Nat) : Int) := rfl
          rw [e0, loop_step (by simp), impl_PutLot_ok, spec_PutLot_ok _ _ _ hw]
          have hp' : pileB (x0.1, x0.2.1, x0.2.2.1, ()) = false := hp
          simp [hp']
      simp only [hi, if_false, Bool.false_eq_true, Option.bind_some]
      split
      · simp only [sumO]
        rw [impl_PileSums_ok]
        have hp' : pileB (x0.1, x0.2.1, x0.2.2.1, ()) = false := hp
        simp [hp']
      · rfl
    | true =>
      simp only [if_true]
      have key : ∀ i, i ≤ x1.length → ∀ b c l, pileB (b, c, l, ()) = true → ∃ v, laws_FnLotsBalanced_l0 x1 (x1.length : Int) (tS l) (mS l) i b c l = some v ∧ (v = .inl true ∨ ∃ b c l, v = .inr (tS l, mS l, b, c, l) ∧ pileB (b, c, l, ()) = true) := by
        refine down (fun b c l hp => ?_) fun i hi ih b c l hp => ?_
        · rw [laws_FnLotsBalanced_l0_eq]; unfold laws_FnLotsBalanced_l0K
          rw [lt_out (Nat.le_refl _)]
          exact ⟨_, rfl, .inr ⟨b, c, l, rfl, hp⟩⟩
        · obtain ⟨h1, h2, h3, h4, h5, h6⟩ := pileB_spec hp
          dsimp only at h1 h2 h3 h4 h5 h6
          have hs := sums_bound l h1
          rw [laws_FnLotsBalanced_l0_eq]; unfold laws_FnLotsBalanced_l0K
          rw [loop_step hi, impl_PutLot_ok, spec_PutLot_ok _ _ _ (by omega), hp]
          cases hx : lotB x1[i] with
          | false => exact ⟨_, rfl, .inl rfl⟩
          | true =>
            have hx' := lotB_spec hx
            simp only [Bool.and_self, if_true, Option.bind_some, beq_self_eq_true, Bool.not_true, cond_false]
            cases hg : (putR (b, c, l, ()) x1[i]).2 with
            | false => exact ⟨_, rfl, .inl rfl⟩
            | true =>
              have hgood := putR_good hg
              have hsum : tS (putR (b, c, l, ()) x1[i]).1.2.2 = tS l + x1[i].1 ∧ mS (putR (b, c, l, ()) x1[i]).1.2.2 = mS l + x1[i].2.1 := by
                unfold putR at hg ⊢
                split
                · exact putP_sums b c l x1[i]
                · rename_i hn; rw [if_neg hn] at hg; cases hg
              simp only [Bool.not_true, cond_false]
              rw [wr (by omega) (by omega), wr (by omega) (by omega), wr_succ hi (by omega), ← hsum.1, ← hsum.2]
              exact ih _ _ _ hgood
      obtain ⟨v, h1, h2⟩ := key 0 (Nat.zero_le _) x0.1 x0.2.1 x0.2.2.1 hp
      have e : laws_FnLotsBalanced_l0 x1 (x1.length : Int) (tS x0.2.2.1) (mS x0.2.2.1) 0 x0.1 x0.2.1 x0.2.2.1 = some v := h1
      rw [e]
      rcases h2 with rfl | ⟨b, c, l, rfl, hg⟩
      · rfl
      · simp only [Option.bind_some, sumO]
        rw [impl_PileSums_ok, hg]
        simp
theorem join_loop (L : List DLot) (hL : L.all lotB = true) (hn : L.length ≤ 40) : ∀ i, i ≤ L.length → ∀ b c l, pileB (b, c, l, ()) = true →
    ∃ v, spec_JoinPiles_l0 L (L.length : Int) i b c l = some v ∧ impl_JoinPiles_l0 L (L.length : Int) i b c l = some v ∧ ∀ b c l, v = .inr (b, c, l) → l.length ≤ 40 := by
  refine down (fun b c l hp => ?_) fun i hi ih b c l hp => ?_
  · rw [spec_JoinPiles_l0_eq, impl_JoinPiles_l0_eq]; unfold spec_JoinPiles_l0K impl_JoinPiles_l0K
    rw [lt_out (Nat.le_refl _), lt_out (Nat.le_refl _)]
    refine ⟨_, rfl, rfl, fun b' c' l' e => ?_⟩
    cases e
    exact (pileB_spec hp).2.2.2.1
  · have hx : lotB L[i] = true := List.all_eq_true.1 hL _ (List.getElem_mem hi)
    rw [spec_JoinPiles_l0_eq, impl_JoinPiles_l0_eq]; unfold spec_JoinPiles_l0K impl_JoinPiles_l0K
    rw [loop_step hi, loop_step hi, spPut_ok b c l _ hp hx, putLot_ok b c l _ hp hx, wr_succ hi (by omega)]
    simp only [Option.bind_some]
    cases hg : (putR (b, c, l, ()) L[i]).2 with
    | false => exact ⟨_, rfl, rfl, fun _ _ _ e => by cases e⟩
    | true => exact ih _ _ _ (putR_good hg)
theorem JoinPiles_law (x0 x1 : DPile) (w0 : TPile.wf x0) (w1 : TPile.wf x1) : laws_FnExactJoinPiles x0 x1 = some true := by
  unfold laws_FnExactJoinPiles laws_FnExactJoinPilesK
  refine pile_head x0 w0 fun hl => ?_
  have hw : x1.2.2.1.length ≤ 9223372036854775807 := w1.2.2.1.1
  by_cases hbig : (x1.2.2.1.length : Int) ≤ 1048576 - (x0.2.2.1.length : Int)
  · rw [szPile_ok x1 (by omega) _ (by omega) (by omega)]
    have h2 : ¬ (1048576 : Int) - (x0.2.2.1.length : Int) - (x1.2.2.1.length : Int) < 0 := by omega
    simp only [hbig, if_true, Option.bind_some, h2, decide_false, cond_false]
    have e : ((x0.1, x0.2.1, x0.2.2.1, ()) : DPile) = x0 := rfl
    have e' : ((x1.1, x1.2.1, x1.2.2.1, ()) : DPile) = x1 := rfl
    obtain ⟨v, h1, h2, h3⟩ : ∃ v, impl_JoinPiles x0 x1 = some v ∧ spec_JoinPiles x0 x1 = some v ∧ v.1.2.2.length ≤ 1048577 := by
      unfold impl_JoinPiles impl_JoinPilesK spec_JoinPiles spec_JoinPilesK
      rw [IsPile_ok, spGood_ok x0 (by omega), IsPile_ok, spGood_ok x1 (by omega)]
      cases hp : pileB x0 with
      | false => exact ⟨_, rfl, rfl, by simp⟩
      | true =>
        cases hp1 : pileB x1 with
        | false => exact ⟨_, rfl, rfl, by simp⟩
        | true =>
          obtain ⟨q1, q2, q3, q4, q5, q6⟩ := pileB_spec hp1
          obtain ⟨r1, r2, r3, r4, r5, r6⟩ := pileB_spec hp
          have c1 : ([] : List DLot).length + x0.2.2.1.length ≤ 1099511627776 := by simp; omega
          obtain ⟨v, g1, g2, g3⟩ := join_loop x1.2.2.1 q1 q4 0 (Nat.zero_le _) x0.1 x0.2.1 x0.2.2.1 hp
          have g1 : spec_JoinPiles_l0 x1.2.2.1 (x1.2.2.1.length : Int) 0 x0.1 x0.2.1 x0.2.2.1 = some v := g1
          have g2 : impl_JoinPiles_l0 x1.2.2.1 (x1.2.2.1.length : Int) 0 x0.1 x0.2.1 x0.2.2.1 = some v := g2
          unfold impl_copyPile impl_copyPileK spec_spWith spec_spWithK
          simp only [Bool.not_true, cond_false, Option.bind_some, c1, decide_true, cond_true, List.nil_append, g1, g2]
          cases v with
          | inl a => exact ⟨_, rfl, rfl, by simp⟩
          | inr a => exact ⟨_, rfl, rfl, by have := g3 a.1 a.2.1 a.2.2 rfl; simp; omega⟩
    obtain ⟨⟨b, c, l⟩, ok⟩ := v
    dsimp only at h3
    obtain ⟨k', l', m1, m2, m3, m4, m5⟩ := markPile_ok x0.1 x0.2.1 x0.2.2.1 (by omega) 1 (by omega) (by omega)
    obtain ⟨k3, l3, o1, o2, o3, o4, o5⟩ := markPile_ok x1.1 x1.2.1 x1.2.2.1 (by omega) k' (by omega) (by omega)
    obtain ⟨k2, l2, n1, n2, n3, n4, n5⟩ := markPile_ok b c l (by omega) 1 (by omega) (by omega)
    have k30 : ¬ k3 < 0 := by omega
    have k20 : ¬ k2 < 0 := by omega
    have er := eqPile_refl (b, c, l, ()) (by show l.length ≤ _; omega)
    simp only [toPile_ok x0 (by omega), toPile_ok x1 (by omega), Option.bind_some, e, e', h1, h2, er, eqPile_refl x0 (by omega), eqPile_refl x1 (by omega), m1, n1, n3, o1, k30, k20]
    simp
  · have : laws_szPile x1 (1048576 - (x0.2.2.1.length : Int)) = some (-1) := by
      unfold laws_szPile laws_szPileK laws_szLotS laws_szLotSK
      rw [wr (by omega) (by omega)]
      have : (1048576 : Int) - (x0.2.2.1.length : Int) - (x1.2.2.1.length : Int) < 0 := by omega
      simp [this]
    rw [this]; rfl
end
end Go.OAI
