/- Piles: what the functions say, in plain words. -/
import Derived.Test.YtfkdmflcildgbaaDoorP0
import Derived.Test.YtfkdmflcildgbaaDoorGa
namespace Go.OAI
set_option linter.unusedVariables false
noncomputable section

/-! ### Lots -/
def lotB (x : DLot) : Bool := decide (1 ≤ x.1 ∧ x.1 ≤ 1000000 ∧ 0 ≤ x.2.1 ∧ x.2.1 ≤ 1000 * x.1)
theorem isLot_ok (x : DLot) : impl_isLot x = some (lotB x) := by
  unfold impl_isLot impl_isLotK lotB
  by_cases h1 : 1 ≤ x.1
  · by_cases h2 : x.1 ≤ 1000000
    · rw [wr (by omega) (by omega)]
      by_cases h3 : 0 ≤ x.2.1 <;> simp [h1, h2, h3]
    · simp [h1, h2]
  · simp [h1]
theorem spLot_ok (x : DLot) : spec_spLot x = some (lotB x) := by
  unfold spec_spLot spec_spLotK spec_l1In spec_l1InK lotB
  by_cases h1 : 1 ≤ x.1
  · by_cases h2 : x.1 ≤ 1000000
    · rw [wr (by omega) (by omega)]
      by_cases h3 : 0 ≤ x.2.1 <;> simp [h1, h2, h3]
    · simp [h1, h2]
  · simp [h1]
def tS (l : List DLot) : Int := (l.map (·.1)).sum
def mS (l : List DLot) : Int := (l.map (·.2.1)).sum
theorem tS_cons (x : DLot) (l : List DLot) : tS (x :: l) = x.1 + tS l := by simp [tS]
theorem mS_cons (x : DLot) (l : List DLot) : mS (x :: l) = x.2.1 + mS l := by simp [mS]
theorem sums_bound : ∀ (l : List DLot), l.all lotB = true → 0 ≤ tS l ∧ (l.length : Int) ≤ tS l ∧ tS l ≤ 1000000 * (l.length : Int) ∧ 0 ≤ mS l ∧ mS l ≤ 1000 * tS l
  | [], _ => by simp [tS, mS]
  | x :: l, h => by
    simp only [List.all_cons, Bool.and_eq_true] at h
    have := sums_bound l h.2
    have hx : lotB x = true := h.1
    simp only [lotB, decide_eq_true_eq] at hx
    rw [tS_cons, mS_cons]
    simp only [List.length_cons]
    omega
theorem drop_all {α : Type} {p : α → Bool} {l : List α} (h : l.all p = true) (i : Nat) : (l.drop i).all p = true := by
  rw [List.all_eq_true] at h ⊢
  exact fun x hx => h x (List.mem_of_mem_drop hx)
theorem spSums_ok (l : List DLot) (h : l.all lotB = true) (hl : l.length ≤ 1099511627) : spec_spSums l = some (tS l, mS l) := by
  have key : ∀ i, i ≤ l.length → ∀ a b : Int, 0 ≤ a → a ≤ 1000000 * (i : Int) → 0 ≤ b → b ≤ 1000000000 * (i : Int) → spec_spSums_l0 l (l.length : Int) a b i = some (a + tS (l.drop i), b + mS (l.drop i)) := by
    refine down (fun a b h1 h2 h3 h4 => ?_) fun i hi ih a b h1 h2 h3 h4 => ?_
    · rw [spec_spSums_l0_eq]; unfold spec_spSums_l0K
      rw [lt_out (Nat.le_refl _)]
      simp [tS, mS]
    · have hx : lotB l[i] = true := List.all_eq_true.1 h _ (List.getElem_mem hi)
      simp only [lotB, decide_eq_true_eq] at hx
      rw [spec_spSums_l0_eq]; unfold spec_spSums_l0K
      rw [loop_step hi, wr_succ hi (by omega), wr (by omega) (by omega), wr (by omega) (by omega), ih _ _ (by omega) (by omega) (by omega) (by omega), drop_cons hi, tS_cons, mS_cons]
      simp only [Option.some.injEq, Prod.mk.injEq]
      constructor <;> omega
  have := key 0 (Nat.zero_le _) 0 0 (by omega) (by simp) (by omega) (by simp)
  unfold spec_spSums spec_spSumsK
  simp only [Int.natCast_zero, List.drop_zero, Int.zero_add] at this
  have e : spec_spSums_l0 l (l.length : Int) 0 0 0 = some (tS l, mS l) := this
  rw [e]; rfl
theorem lotSum_ok (l : List DLot) (h : l.all lotB = true) (hl : l.length ≤ 1099511627) : impl_lotSum l = some (tS l, mS l, ()) := by
  have key : ∀ i, i ≤ l.length → ∀ a b : Int, 0 ≤ a → a ≤ 1000000 * (i : Int) → 0 ≤ b → b ≤ 1000000000 * (i : Int) → impl_lotSum_l0 l (l.length : Int) i a b = some (a + tS (l.drop i), b + mS (l.drop i)) := by
    refine down (fun a b h1 h2 h3 h4 => ?_) fun i hi ih a b h1 h2 h3 h4 => ?_
    · rw [impl_lotSum_l0_eq]; unfold impl_lotSum_l0K
      rw [lt_out (Nat.le_refl _)]
      simp [tS, mS]
    · have hx : lotB l[i] = true := List.all_eq_true.1 h _ (List.getElem_mem hi)
      simp only [lotB, decide_eq_true_eq] at hx
      rw [impl_lotSum_l0_eq]; unfold impl_lotSum_l0K
      rw [loop_step hi, wr_succ hi (by omega), wr (by omega) (by omega), wr (by omega) (by omega), ih _ _ (by omega) (by omega) (by omega) (by omega), drop_cons hi, tS_cons, mS_cons]
      simp only [Option.some.injEq, Prod.mk.injEq]
      constructor <;> omega
  have := key 0 (Nat.zero_le _) 0 0 (by omega) (by simp) (by omega) (by simp)
  unfold impl_lotSum impl_lotSumK
  simp only [Int.natCast_zero, List.drop_zero, Int.zero_add] at this
  have e : impl_lotSum_l0 l (l.length : Int) 0 0 0 = some (tS l, mS l) := this
  rw [e]; rfl

/-! ### Piles -/
def pileB (p : DPile) : Bool := p.2.2.1.all lotB && decide (0 ≤ p.2.1 ∧ p.2.1 ≤ 10000000 ∧ (p.2.2.1.length : Int) ≤ 40 ∧ (p.1 = true → (p.2.2.1.length : Int) ≤ 1) ∧ tS p.2.2.1 ≤ p.2.1)
theorem spGood_ok (p : DPile) (hl : p.2.2.1.length ≤ 1099511627) : spec_spGood p = some (pileB p) := by
  have h1 : spec_spGood_l0 p.2.2.1 (p.2.2.1.length : Int) 0 = some (if p.2.2.1.all lotB then .inr () else .inl false) := by
    have := all_loop (f := fun i => spec_spGood_l0 p.2.2.1 (p.2.2.1.length : Int) i) (l := p.2.2.1) (good := fun _ x => lotB x) (y := .inr ()) (n := .inl false) ?_ ?_
    · rw [this]
      congr 1
      by_cases ha : p.2.2.1.all lotB = true
      · rw [if_pos ha, if_pos fun i hi => List.all_eq_true.1 ha _ (List.getElem_mem hi)]
      · rw [if_neg ha, if_neg fun hh => ha (List.all_eq_true.2 fun x hx => by
          obtain ⟨i, hi, rfl⟩ := List.getElem_of_mem hx
          exact hh i hi)]
    · show spec_spGood_l0 _ _ _ = _
      rw [spec_spGood_l0_eq]; unfold spec_spGood_l0K
      rw [lt_out (Nat.le_refl _)]
    · intro i hi
      show spec_spGood_l0 _ _ _ = _
      rw [spec_spGood_l0_eq]; unfold spec_spGood_l0K
      rw [loop_step hi, wr_succ hi (by omega), spLot_ok]
      cases lotB p.2.2.1[i] <;> rfl
  unfold spec_spGood spec_spGoodK pileB
  rw [h1]
  by_cases ha : p.2.2.1.all lotB = true
  · rw [spSums_ok _ ha hl]
    simp only [ha, if_true, Option.bind_some, sumO, spec_l1In, spec_l1InK, Bool.true_and]
    by_cases c1 : (p.2.2.1.length : Int) ≤ 40 <;> by_cases c2 : p.1 = true <;> by_cases c3 : (p.2.2.1.length : Int) ≤ 1 <;> by_cases c4 : 0 ≤ p.2.1 <;> by_cases c5 : p.2.1 ≤ 10000000 <;>
      simp [c1, c2, c3, c4, c5]
  · simp [ha, sumO]
theorem IsPile_ok (p : DPile) : impl_IsPile p = some (pileB p) := by
  have h1 : p.2.2.1.length ≤ 40 → impl_IsPile_l0 p.2.2.1 (p.2.2.1.length : Int) 0 0 = some (if p.2.2.1.all lotB then .inr (tS p.2.2.1) else .inl false) := fun hl => by
    have key : ∀ i, i ≤ p.2.2.1.length → ∀ a : Int, 0 ≤ a → a ≤ 1000000 * (i : Int) → impl_IsPile_l0 p.2.2.1 (p.2.2.1.length : Int) a i = some (if (p.2.2.1.drop i).all lotB then .inr (a + tS (p.2.2.1.drop i)) else .inl false) := by
      refine down (fun a h1 h2 => ?_) fun i hi ih a h1 h2 => ?_
      · rw [impl_IsPile_l0_eq]; unfold impl_IsPile_l0K
        rw [lt_out (Nat.le_refl _)]
        simp [tS]
      · rw [impl_IsPile_l0_eq]; unfold impl_IsPile_l0K
        rw [loop_step hi, wr_succ hi (by omega), isLot_ok, drop_cons hi]
        cases hx : lotB p.2.2.1[i] with
        | false => simp [hx]
        | true =>
          have hx' := hx
          simp only [lotB, decide_eq_true_eq] at hx'
          rw [wr (by omega) (by omega), Option.bind_some, ih _ (by omega) (by omega), tS_cons]
          simp only [Bool.not_true, cond_false, List.all_cons, hx, Bool.true_and, Int.add_assoc]
    have := key 0 (Nat.zero_le _) 0 (by omega) (by simp)
    rw [List.drop_zero, Int.zero_add] at this
    exact this
  unfold impl_IsPile impl_IsPileK pileB
  simp only [dec_lt, dec_gt]
  by_cases c1 : (p.2.2.1.length : Int) ≤ 40
  · rw [h1 (by omega)]
    by_cases ha : p.2.2.1.all lotB = true
    · simp only [ha, if_true, Option.bind_some, sumO, Bool.true_and]
      by_cases c2 : p.1 = true <;> by_cases c3 : (p.2.2.1.length : Int) ≤ 1 <;> by_cases c4 : 0 ≤ p.2.1 <;> by_cases c5 : p.2.1 ≤ 10000000 <;> simp [c1, c2, c3, c4, c5]
    · simp only [ha, Option.bind_some, sumO, Bool.false_and]
      by_cases c2 : p.1 = true <;> by_cases c3 : (p.2.2.1.length : Int) ≤ 1 <;> by_cases c4 : 0 ≤ p.2.1 <;> by_cases c5 : p.2.1 ≤ 10000000 <;> simp [c1, c2, c3, c4, c5]
  · by_cases c4 : 0 ≤ p.2.1 <;> by_cases c5 : p.2.1 ≤ 10000000 <;> simp [c1, c4, c5]

/-! ### The laws -/
theorem maxLen_le {n : Nat} (h : n ≤ maxLen) : n ≤ 9223372036854775807 := h
theorem IsPile_spec (x0 : DPile) (h : x0.2.2.1.length ≤ 1048576) : spec_IsPile x0 = some (pileB x0) := by
  unfold spec_IsPile spec_IsPileK
  rw [spGood_ok x0 (by omega)]; rfl
theorem bne_self_int (a : Int) : (a != a) = false := by simp
/-! ### Fractions -/
/-! ### A lot is put -/
def putP (p : DPile) (l : DLot) : DPile :=
  match p.1, p.2.2.1 with
  | true, x :: r => (true, p.2.1, (x.1 + l.1, x.2.1 + l.2.1, ()) :: r, ())
  | b, r => (b, p.2.1, r ++ [l], ())
def putR (p : DPile) (l : DLot) : (Bool × Int × List DLot) × Bool :=
  if pileB (putP p l) then (((putP p l).1, (putP p l).2.1, (putP p l).2.2.1), true) else ((false, 0, []), false)
theorem pileB_spec {p : DPile} (h : pileB p = true) : p.2.2.1.all lotB = true ∧ 0 ≤ p.2.1 ∧ p.2.1 ≤ 10000000 ∧ p.2.2.1.length ≤ 40 ∧ (p.1 = true → p.2.2.1.length ≤ 1) ∧ tS p.2.2.1 ≤ p.2.1 := by
  simp only [pileB, Bool.and_eq_true, decide_eq_true_eq] at h
  obtain ⟨h1, h2, h3, h4, h5, h6⟩ := h
  exact ⟨h1, h2, h3, by omega, fun e => by have := h5 e; omega, h6⟩
theorem lotB_spec {x : DLot} (h : lotB x = true) : 1 ≤ x.1 ∧ x.1 ≤ 1000000 ∧ 0 ≤ x.2.1 ∧ x.2.1 ≤ 1000 * x.1 := by simpa [lotB] using h
theorem put_end {q : DPile} (hq : q.2.2.1.length ≤ 1048576) : ((impl_IsPile q).bind fun y => cond (!y) (some ((false, (0, [])), false)) (some ((q.1, (q.2.1, q.2.2.1)), true))) = some (if pileB q then ((q.1, q.2.1, q.2.2.1), true) else ((false, 0, []), false)) := by
  rw [IsPile_ok]
  cases pileB q <;> rfl
theorem put_end' {q : DPile} (hq : q.2.2.1.length ≤ 1048576) : ((spec_spGood q).bind fun y => cond (!y) (some ((false, (0, [])), false)) (some ((q.1, (q.2.1, q.2.2.1)), true))) = some (if pileB q then ((q.1, q.2.1, q.2.2.1), true) else ((false, 0, []), false)) := by
  rw [spGood_ok q (by omega)]
  cases pileB q <;> rfl
theorem spPut_ok (b : Bool) (c : Int) (l : List DLot) (x : DLot) (hp : pileB (b, c, l, ()) = true) (hx : lotB x = true) : spec_spPut (b, c, l, ()) x = some (putR (b, c, l, ()) x) := by
  obtain ⟨h1, h2, h3, h4, h5, h6⟩ := pileB_spec hp
  have hx' := lotB_spec hx
  dsimp only at h1 h2 h3 h4 h5 h6
  have e1 : spec_spWith (b, c, l, ()) l = some (b, c, l) := by
    unfold spec_spWith spec_spWithK
    have : ([] : List DLot).length + l.length ≤ 1099511627776 := by simp; omega
    simp only [this, decide_true, cond_true, List.nil_append]
  have e2 : l.length + [x].length ≤ 1099511627776 := by simp; omega
  unfold spec_spPut spec_spPutK
  rw [e1]
  simp only [Option.bind_some, e2, decide_true, cond_true]
  cases b with
  | false => exact put_end' (q := (false, c, l ++ [x], ())) (by simp; omega)
  | true =>
    cases l with
    | nil => exact put_end' (q := (true, c, [x], ())) (by simp)
    | cons y r =>
      have hr : r = [] := by
        have := h5 rfl
        simp at this
        exact this
      subst hr
      have hy := lotB_spec (List.all_eq_true.1 h1 y (by simp))
      have w1 : IntKind.i64.wrap (y.1 + x.1) = y.1 + x.1 := wr (by omega) (by omega)
      have w2 : IntKind.i64.wrap (y.2.1 + x.2.1) = y.2.1 + x.2.1 := wr (by omega) (by omega)
      have := put_end' (q := (true, c, [(y.1 + x.1, y.2.1 + x.2.1, ())], ())) (by simp)
      simp [putR, putP, w1, w2] at this ⊢
      exact this
theorem putLot_ok (b : Bool) (c : Int) (l : List DLot) (x : DLot) (hp : pileB (b, c, l, ()) = true) (hx : lotB x = true) : impl_putLot (b, c, l, ()) x = some (putR (b, c, l, ()) x) := by
  obtain ⟨h1, h2, h3, h4, h5, h6⟩ := pileB_spec hp
  have hx' := lotB_spec hx
  dsimp only at h1 h2 h3 h4 h5 h6
  have e1 : impl_copyPile (b, c, l, ()) = some (b, c, l) := by
    unfold impl_copyPile impl_copyPileK
    have : ([] : List DLot).length + l.length ≤ 1099511627776 := by simp; omega
    simp only [this, decide_true, cond_true, List.nil_append]
  have e2 : l.length + [x].length ≤ 1099511627776 := by simp; omega
  unfold impl_putLot impl_putLotK
  rw [e1]
  simp only [Option.bind_some, e2, decide_true, cond_true]
  cases b with
  | false => exact put_end (q := (false, c, l ++ [x], ())) (by simp; omega)
  | true =>
    cases l with
    | nil => exact put_end (q := (true, c, [x], ())) (by simp)
    | cons y r =>
      have hr : r = [] := by
        have := h5 rfl
        simp at this
        exact this
      subst hr
      have hy0 : lotB y = true := List.all_eq_true.1 h1 y (by simp)
      have hy := lotB_spec hy0
      have hs : impl_lotSum [(y.1, (y.2.1, ())), x] = some (y.1 + x.1, y.2.1 + x.2.1, ()) := by
        rw [lotSum_ok _ (by have : lotB (y.1, (y.2.1, ())) = true := hy0
                            simp [this, hx]) (by simp)]
        simp [tS, mS]
      have := put_end (q := (true, c, [(y.1 + x.1, y.2.1 + x.2.1, ())], ())) (by simp)
      simp [putR, putP, hs] at this ⊢
      exact this
theorem putR_len (b : Bool) (c : Int) (l : List DLot) (x : DLot) (hl : l.length ≤ 1048576) : (putR (b, c, l, ()) x).1.2.2.length ≤ 1048577 := by
  unfold putR
  split
  · cases b <;> cases l <;> simp [putP] at hl ⊢ <;> omega
  · simp
theorem putR_good {b : Bool} {c : Int} {l : List DLot} {x : DLot} (h : (putR (b, c, l, ()) x).2 = true) : pileB ((putR (b, c, l, ()) x).1.1, (putR (b, c, l, ()) x).1.2.1, (putR (b, c, l, ()) x).1.2.2, ()) = true := by
  unfold putR at h ⊢
  split at h
  · rename_i hp
    rw [if_pos hp]
    exact hp
  · cases h
theorem spSums_any (l : List DLot) (hl : l.length ≤ 9223372036854775807) : ∃ v, spec_spSums l = some v := by
  have key : ∀ i, i ≤ l.length → ∀ a b : Int, ∃ v, spec_spSums_l0 l (l.length : Int) a b i = some v := by
    refine down (fun a b => ?_) fun i hi ih a b => ?_
    · rw [spec_spSums_l0_eq]; unfold spec_spSums_l0K
      rw [lt_out (Nat.le_refl _)]
      exact ⟨_, rfl⟩
    · rw [spec_spSums_l0_eq]; unfold spec_spSums_l0K
      rw [loop_step hi, wr_succ hi hl]
      exact ih _ _
  obtain ⟨v, hv⟩ := key 0 (Nat.zero_le _) 0 0
  unfold spec_spSums spec_spSumsK
  have e : spec_spSums_l0 l (l.length : Int) 0 0 0 = some v := hv
  rw [e]
  exact ⟨_, rfl⟩
theorem spGood_big (p : DPile) (hl : p.2.2.1.length ≤ 9223372036854775807) (hb : 40 < p.2.2.1.length) : spec_spGood p = some false := by
  have h1 : spec_spGood_l0 p.2.2.1 (p.2.2.1.length : Int) 0 = some (if p.2.2.1.all lotB then .inr () else .inl false) := by
    have := all_loop (f := fun i => spec_spGood_l0 p.2.2.1 (p.2.2.1.length : Int) i) (l := p.2.2.1) (good := fun _ x => lotB x) (y := .inr ()) (n := .inl false) ?_ ?_
    · rw [this]
      congr 1
      by_cases ha : p.2.2.1.all lotB = true
      · rw [if_pos ha, if_pos fun i hi => List.all_eq_true.1 ha _ (List.getElem_mem hi)]
      · rw [if_neg ha, if_neg fun hh => ha (List.all_eq_true.2 fun x hx => by
          obtain ⟨i, hi, rfl⟩ := List.getElem_of_mem hx
          exact hh i hi)]
    · show spec_spGood_l0 _ _ _ = _
      rw [spec_spGood_l0_eq]; unfold spec_spGood_l0K
      rw [lt_out (Nat.le_refl _)]
    · intro i hi
      show spec_spGood_l0 _ _ _ = _
      rw [spec_spGood_l0_eq]; unfold spec_spGood_l0K
      rw [loop_step hi, wr_succ hi (by omega), spLot_ok]
      cases lotB p.2.2.1[i] <;> rfl
  obtain ⟨v, hv⟩ := spSums_any p.2.2.1 hl
  have h40 : ¬ (p.2.2.1.length : Int) ≤ 40 := by omega
  unfold spec_spGood spec_spGoodK
  rw [h1]
  by_cases ha : p.2.2.1.all lotB = true
  · simp [ha, sumO, hv, h40]
  · simp [ha, sumO]
theorem spGood_wf (p : DPile) (hl : p.2.2.1.length ≤ 9223372036854775807) : spec_spGood p = some (pileB p) := by
  by_cases hb : 40 < p.2.2.1.length
  · rw [spGood_big p hl hb]
    have : ¬ (p.2.2.1.length : Int) ≤ 40 := by omega
    simp [pileB, this]
  · exact spGood_ok p (by omega)
theorem tS_append (l : List DLot) (x : DLot) : tS (l ++ [x]) = tS l + x.1 := by simp [tS]
theorem mS_append (l : List DLot) (x : DLot) : mS (l ++ [x]) = mS l + x.2.1 := by simp [mS]
theorem putP_sums (b : Bool) (c : Int) (l : List DLot) (x : DLot) : tS (putP (b, c, l, ()) x).2.2.1 = tS l + x.1 ∧ mS (putP (b, c, l, ()) x).2.2.1 = mS l + x.2.1 := by
  cases b with
  | false => exact ⟨tS_append l x, mS_append l x⟩
  | true =>
    cases l with
    | nil => simp [putP, tS, mS]
    | cons y r =>
      simp only [putP, tS_cons, mS_cons]
      omega
theorem impl_PileSums_ok (p : DPile) : impl_PileSums p = some (if pileB p then (tS p.2.2.1, mS p.2.2.1, true) else (0, 0, false)) := by
  unfold impl_PileSums impl_PileSumsK
  rw [IsPile_ok]
  cases hp : pileB p with
  | false => rfl
  | true =>
    obtain ⟨h1, _, _, h4, _⟩ := pileB_spec hp
    rw [lotSum_ok _ h1 (by omega)]; rfl
end
end Go.OAI
