/- Piles: what both sides answer, and what is kept. -/
import Derived.Test.YtipjangbckhjgaaPdr
import Derived.Test.YtipjangbckhjgaaLTakeTonnes
namespace Go.OAI
set_option linter.unusedVariables false
noncomputable section

theorem takeF_metal : ∀ (l : List DLot) (d : Int), l.all lotB = true → 0 ≤ d → mS (takeF d l).1 + (takeF d l).2.2 = mS l
  | [], d, _, _ => by simp [takeF, mS]
  | e :: l, d, h, h0 => by
    simp only [List.all_cons, Bool.and_eq_true] at h
    obtain ⟨h1, h2⟩ := h
    have hb := lotB_spec h1
    by_cases c : d < e.1
    · have ih := takeF_metal l (d - d) h2 (by omega)
      have c2 : d < e.1 := c
      simp only [takeF, c, if_true]
      rw [mS_cons]
      simp only [mS_cons]
      omega
    · have ih := takeF_metal l (d - e.1) h2 (by omega)
      have c2 : ¬ e.1 < e.1 := by omega
      have hm : (e.2.1 * e.1).tdiv e.1 = e.2.1 := Int.mul_tdiv_cancel _ (by omega)
      simp only [takeF, c, if_false, c2, hm]
      rw [mS_cons]
      omega
def Same3 (p : DPile) (t : Int) (v : (Bool × Int × List DLot) × DLot × Bool) : Prop :=
  v.1.2.2.length ≤ 1000 ∧ (v.2.2 = true → pileB p = true ∧ pileB (v.1.1, v.1.2.1, v.1.2.2, ()) = true ∧ v.2.1.1 = t ∧ tS p.2.2.1 = tS v.1.2.2 + t ∧ mS p.2.2.1 = mS v.1.2.2 + v.2.1.2.1)
theorem TakeTonnes_both (x0 : DPile) (hl : x0.2.2.1.length ≤ 1000) (x1 : Int) : ∃ v, impl_TakeTonnes x0 x1 = some v ∧ spec_TakeTonnes x0 x1 = some v ∧ Same3 x0 x1 v := by
  unfold impl_TakeTonnes impl_TakeTonnesK spec_TakeTonnes spec_TakeTonnesK
  rw [IsPile_ok, spGood_ok x0 (by omega)]
  have no : ∀ z : DLot, Same3 x0 x1 ((false, 0, []), z, false) := fun z => ⟨by simp, fun h => by cases h⟩
  cases hp : pileB x0 with
  | false => exact ⟨_, rfl, rfl, no _⟩
  | true =>
    obtain ⟨p1, p2, p3, p4, p5, p6⟩ := pileB_spec hp
    unfold impl_takeTonnes impl_takeTonnesK spec_spTake spec_spTakeK
    rw [spSums_ok _ p1 (by omega), lotSum_ok _ p1 (by omega)]
    by_cases c1 : x1 < 1
    · exact ⟨_, by simp [c1]; rfl, by simp [c1], no _⟩
    by_cases c2 : tS x0.2.2.1 < x1
    · exact ⟨_, by simp [c1, c2]; rfl, by simp [c1, c2], no _⟩
    have c3 : ¬ x1 > tS x0.2.2.1 := c2
    have g1 := take_loop x0.2.2.1 p1 p4 0 (Nat.zero_le _) x1 [] 0 0 (by omega) (by omega) (by simp) (by omega) (by omega) (by omega) (by omega)
    have g1 : impl_takeTonnes_l0 x0.2.2.1 (x0.2.2.1.length : Int) x1 0 [] 0 0 = some ((takeF x1 x0.2.2.1).1, 0 + (takeF x1 x0.2.2.1).2.1, 0 + (takeF x1 x0.2.2.1).2.2) := g1
    obtain ⟨o', n', b', g2, g3⟩ := spTake_loop x1 (by omega) x0.2.2.1 p1 (by omega) 0 x0.2.2.1.length 0 0 x0.2.2.1 (by simp) rfl (by omega) (by omega) (by omega) (by omega) (by omega)
    have e0 : x1 - 0 = x1 := by omega
    rw [e0] at g2 g3
    obtain ⟨t1, t2, t3, t4, t5, t6⟩ := takeF_spec x0.2.2.1 x1 p1 (by omega) (by omega)
    have t7 := takeF_metal x0.2.2.1 x1 p1 (by omega)
    rw [t3] at g1
    generalize takeF x1 x0.2.2.1 = T at *
    have hcap : ([] : List DLot).length + x0.2.2.1.length ≤ 1099511627776 := by simp; omega
    have hcap2 : ([] : List DLot).length + T.1.length ≤ 1099511627776 := by simp; omega
    have good : pileB (x0.1, x0.2.1, T.1, ()) = true := by
      simp only [pileB, Bool.and_eq_true, decide_eq_true_eq]
      refine ⟨t1, p2, p3, by omega, fun hm => ?_, by omega⟩
      have := p5 hm
      omega
    simp only [Bool.not_true, cond_false, Option.bind_some, c1, c2, c3, decide_false, hcap, decide_true, cond_true, g1, List.nil_append, g2, g3, Int.zero_add]
    unfold spec_spWith spec_spWithK
    simp only [hcap2, decide_true, cond_true, isLot_ok, spLot_ok, Option.bind_some, List.nil_append]
    have sg := spGood_ok (x0.1, x0.2.1, T.1, ()) (by show T.1.length ≤ _; omega)
    rw [sg, good]
    cases lotB (x1, T.2.2, ()) with
    | false => exact ⟨_, rfl, rfl, no _⟩
    | true => exact ⟨_, rfl, rfl, by show T.1.length ≤ _; omega, fun _ => ⟨hp, good, rfl, by show tS x0.2.2.1 = tS T.1 + x1; omega, by show mS x0.2.2.1 = mS T.1 + T.2.2; omega⟩⟩
def SameS (m : DLot) (n : Int) (v : DLot × DLot × Bool) : Prop :=
  v.2.2 = true → v.1.1 = n ∧ IntKind.i64.wrap (v.1.1 + v.2.1.1) = m.1 ∧ IntKind.i64.wrap (v.1.2.1 + v.2.1.2.1) = m.2.1
theorem SplitLot_both (m : DLot) (n : Int) : ∃ v, impl_SplitLot m n = some v ∧ spec_SplitLot m n = some v ∧ SameS m n v := by
  unfold impl_SplitLot impl_SplitLotK spec_SplitLot spec_SplitLotK
  rw [isLot_ok, spLot_ok]
  have no : ∀ a b : DLot, SameS m n (a, b, false) := fun a b h => by cases h
  cases hm : lotB m with
  | false => exact ⟨_, rfl, rfl, no _ _⟩
  | true =>
    have hb := lotB_spec hm
    unfold spec_l1In spec_l1InK impl_splitOff impl_splitOffK spec_spSplit spec_spSplitK
    rw [wr (n := m.1 - 1) (by omega) (by omega)]
    by_cases c1 : n < 1
    · have c2 : ¬ 1 ≤ n := by omega
      exact ⟨((0, 0, ()), (0, 0, ()), false), by simp [c1], by simp [c2], no _ _⟩
    · by_cases c3 : n ≥ m.1
      · have c2 : 1 ≤ n := by omega
        have c4 : ¬ n ≤ m.1 - 1 := by omega
        exact ⟨((0, 0, ()), (0, 0, ()), false), by simp [c1, c3], by simp [c2, c4], no _ _⟩
      · have c2 : 1 ≤ n := by omega
        have c4 : n ≤ m.1 - 1 := by omega
        have c5 : ¬ m.1 = 0 := by omega
        obtain ⟨q1, q2, q3⟩ : 0 ≤ m.2.1 * n ∧ m.2.1 * n ≤ 1000000000 * 1000000 ∧ 0 ≤ (m.2.1 * n).tdiv m.1 := by
          have h1 : m.2.1 * n ≤ 1000000000 * n := Int.mul_le_mul_of_nonneg_right (by omega) (by omega)
          have h2 : 0 ≤ m.2.1 * n := Int.mul_nonneg (by omega) (by omega)
          exact ⟨h2, by omega, Int.tdiv_nonneg h2 (by omega)⟩
        have q4 : (m.2.1 * n).tdiv m.1 ≤ m.2.1 * n := by
          rw [Int.tdiv_eq_ediv_of_nonneg q1]
          exact Int.ediv_le_self _ q1
        refine ⟨((n, (m.2.1 * n).tdiv m.1, ()), (m.1 - n, m.2.1 - (m.2.1 * n).tdiv m.1, ()), true), ?_, ?_, ?_⟩
        · simp only [Bool.not_true, cond_false, Option.bind_some, c1, c3, c5, decide_false]
          rw [wr (n := m.2.1 * n) (by omega) (by omega), wr (n := (m.2.1 * n).tdiv m.1) (by omega) (by omega), wr (n := m.1 - n) (by omega) (by omega), wr (by omega) (by omega)]
        · simp only [Bool.not_true, cond_false, Option.bind_some, dec_ge, c2, c4, c5, decide_false, decide_true, cond_true]
          rw [wr (n := m.2.1 * n) (by omega) (by omega), wr (n := (m.2.1 * n).tdiv m.1) (by omega) (by omega), wr (n := m.1 - n) (by omega) (by omega), wr (by omega) (by omega)]
        · intro _
          refine ⟨rfl, ?_, ?_⟩
          · show IntKind.i64.wrap (n + (m.1 - n)) = m.1
            rw [wr (by omega) (by omega)]; omega
          · show IntKind.i64.wrap ((m.2.1 * n).tdiv m.1 + (m.2.1 - (m.2.1 * n).tdiv m.1)) = m.2.1
            rw [wr (by omega) (by omega)]; omega
def SameJ (q r : DPile) (v : (Bool × Int × List DLot) × Bool) : Prop :=
  v.1.2.2.length ≤ 1000 ∧ (v.2 = true → pileB q = true ∧ pileB r = true ∧ pileB (v.1.1, v.1.2.1, v.1.2.2, ()) = true ∧ tS v.1.2.2 = tS q.2.2.1 + tS r.2.2.1 ∧ mS v.1.2.2 = mS q.2.2.1 + mS r.2.2.1)
theorem join_loop2 (L : List DLot) (hL : L.all lotB = true) (hn : L.length ≤ 40) : ∀ i, i ≤ L.length → ∀ b c l, pileB (b, c, l, ()) = true →
    ∃ v, spec_JoinPiles_l0 L (L.length : Int) i b c l = some v ∧ impl_JoinPiles_l0 L (L.length : Int) i b c l = some v ∧
      (∀ b' c' l', v = .inr (b', c', l') → pileB (b', c', l', ()) = true ∧ tS l' = tS l + tS (L.drop i) ∧ mS l' = mS l + mS (L.drop i)) ∧ ∀ a, v = .inl a → a = (false, false, 0) := by
  refine down (fun b c l hp => ?_) fun i hi ih b c l hp => ?_
  · rw [spec_JoinPiles_l0_eq, impl_JoinPiles_l0_eq]; unfold spec_JoinPiles_l0K impl_JoinPiles_l0K
    rw [lt_out (Nat.le_refl _), lt_out (Nat.le_refl _)]
    refine ⟨_, rfl, rfl, fun b' c' l' e => ?_, fun a e => by cases e⟩
    cases e
    exact ⟨hp, by simp [tS], by simp [mS]⟩
  · have hx : lotB L[i] = true := List.all_eq_true.1 hL _ (List.getElem_mem hi)
    rw [spec_JoinPiles_l0_eq, impl_JoinPiles_l0_eq]; unfold spec_JoinPiles_l0K impl_JoinPiles_l0K
    rw [loop_step hi, loop_step hi, spPut_ok b c l _ hp hx, putLot_ok b c l _ hp hx, wr_succ hi (by omega)]
    simp only [Option.bind_some]
    cases hg : (putR (b, c, l, ()) L[i]).2 with
    | false => exact ⟨_, rfl, rfl, fun _ _ _ e => (by cases e), fun a e => (by cases e; rfl)⟩
    | true =>
      have hsum : tS (putR (b, c, l, ()) L[i]).1.2.2 = tS l + L[i].1 ∧ mS (putR (b, c, l, ()) L[i]).1.2.2 = mS l + L[i].2.1 := by
        unfold putR at hg ⊢
        split
        · exact putP_sums b c l L[i]
        · rename_i hn; rw [if_neg hn] at hg; cases hg
      obtain ⟨v, q1, q2, q3, q4⟩ := ih _ _ _ (putR_good hg)
      refine ⟨v, q1, q2, fun b' c' l' e => ?_, q4⟩
      obtain ⟨w1, w2, w3⟩ := q3 b' c' l' e
      rw [drop_cons hi, tS_cons, mS_cons]
      exact ⟨w1, by omega, by omega⟩
theorem JoinPiles_both (x0 x1 : DPile) (hl : x0.2.2.1.length ≤ 1000) (hl1 : x1.2.2.1.length ≤ 1000) : ∃ v, impl_JoinPiles x0 x1 = some v ∧ spec_JoinPiles x0 x1 = some v ∧ SameJ x0 x1 v := by
  unfold impl_JoinPiles impl_JoinPilesK spec_JoinPiles spec_JoinPilesK
  rw [IsPile_ok, spGood_ok x0 (by omega), IsPile_ok, spGood_ok x1 (by omega)]
  have no : SameJ x0 x1 ((false, 0, []), false) := ⟨by simp, fun h => by cases h⟩
  cases hp : pileB x0 with
  | false => exact ⟨_, rfl, rfl, no⟩
  | true =>
    cases hp1 : pileB x1 with
    | false => exact ⟨_, rfl, rfl, no⟩
    | true =>
      obtain ⟨q1, q2, q3, q4, q5, q6⟩ := pileB_spec hp1
      obtain ⟨r1, r2, r3, r4, r5, r6⟩ := pileB_spec hp
      have c1 : ([] : List DLot).length + x0.2.2.1.length ≤ 1099511627776 := by simp; omega
      obtain ⟨v, g1, g2, g3, g4⟩ := join_loop2 x1.2.2.1 q1 q4 0 (Nat.zero_le _) x0.1 x0.2.1 x0.2.2.1 hp
      have g1 : spec_JoinPiles_l0 x1.2.2.1 (x1.2.2.1.length : Int) 0 x0.1 x0.2.1 x0.2.2.1 = some v := g1
      have g2 : impl_JoinPiles_l0 x1.2.2.1 (x1.2.2.1.length : Int) 0 x0.1 x0.2.1 x0.2.2.1 = some v := g2
      unfold impl_copyPile impl_copyPileK spec_spWith spec_spWithK
      simp only [Bool.not_true, cond_false, Option.bind_some, c1, decide_true, cond_true, List.nil_append, g1, g2]
      cases v with
      | inl a =>
        have := g4 a rfl
        subst this
        exact ⟨_, rfl, rfl, no⟩
      | inr a =>
        obtain ⟨w1, w2, w3⟩ := g3 a.1 a.2.1 a.2.2 rfl
        have := (pileB_spec w1).2.2.2.1
        refine ⟨_, rfl, rfl, by show a.2.2.length ≤ 1000; have : a.2.2.length ≤ 40 := this; omega, fun _ => ⟨hp, hp1, w1, w2, w3⟩⟩
theorem PutLot_both (p : DPile) (hl : p.2.2.1.length ≤ 1000) (x : DLot) : ∃ v, impl_PutLot p x = some v ∧ spec_PutLot p x = some v ∧ v.1.2.2.length ≤ 1048577 := by
  obtain ⟨b, c, l, _⟩ := p
  refine ⟨_, impl_PutLot_ok b c l x, spec_PutLot_ok b c l (by have : l.length ≤ 1000 := hl; omega) x, ?_⟩
  split
  · exact putR_len b c l x (by have : l.length ≤ 1000 := hl; omega)
  · simp
theorem PileGrade_both (x0 : DPile) (hl : x0.2.2.1.length ≤ 1000) : ∃ v, impl_PileGrade x0 = some v ∧ spec_PileGrade x0 = some v ∧ v.2.2 = (pileB x0 && !((x0.2.2.1.length : Int) == 0)) := by
  unfold impl_PileGrade impl_PileGradeK spec_PileGrade spec_PileGradeK
  rw [IsPile_ok, spGood_ok x0 (by omega)]
  cases hp : pileB x0 with
  | false => exact ⟨_, rfl, rfl, rfl⟩
  | true =>
    have ha : x0.2.2.1.all lotB = true := by
      simp only [pileB, Bool.and_eq_true] at hp; exact hp.1
    rw [spSums_ok _ ha (by omega), lotSum_ok _ ha (by omega)]
    by_cases h0 : (x0.2.2.1.length : Int) = 0
    · have e1 : ((x0.2.2.1.length : Int) == 0) = true := by rw [h0]; rfl
      rw [e1]
      exact ⟨_, rfl, rfl, rfl⟩
    · have e1 : ((x0.2.2.1.length : Int) == 0) = false := by rw [beq_dec, decide_eq_false h0]
      rw [e1]
      have hb := sums_bound _ ha
      obtain ⟨v, g1, g2⟩ := lowest_moPart (mS x0.2.2.1) (tS x0.2.2.1) (by omega) (by omega) (by omega)
      simp only [Option.bind_some, Bool.not_true, cond_false, g1, g2]
      exact ⟨_, rfl, rfl, rfl⟩
theorem OldestLot_both (x0 : DPile) (hl : x0.2.2.1.length ≤ 1000) : ∃ v, impl_OldestLot x0 = some v ∧ spec_OldestLot x0 = some v ∧ v.2 = (pileB x0 && !((x0.2.2.1.length : Int) == 0)) := by
  unfold impl_OldestLot impl_OldestLotK spec_OldestLot spec_OldestLotK
  rw [IsPile_ok, spGood_ok x0 (by omega)]
  cases pileB x0 with
  | false => exact ⟨_, rfl, rfl, rfl⟩
  | true =>
    cases hx : x0.2.2.1 with
    | nil => exact ⟨_, rfl, rfl, rfl⟩
    | cons y l =>
      have e1 : (((y :: l).length : Int) == 0) = false := by simp; omega
      simp only [Option.bind_some, Bool.not_true, cond_false, e1]
      exact ⟨_, rfl, rfl, rfl⟩
theorem sameLots_refl (l : List DLot) (h : l.length ≤ 1099511627776) : laws_pSameLots l l = some true := by
  unfold laws_pSameLots laws_pSameLotsK
  have : laws_pSameLots_l0 l l (l.length : Int) 0 = some (if l.all (fun _ => true) then .inr () else .inl false) := by
    refine allL_loop (f := fun i => laws_pSameLots_l0 l l (l.length : Int) i) ?_ fun i hi => ?_
    · show laws_pSameLots_l0 _ _ _ _ = _
      rw [laws_pSameLots_l0_eq]; unfold laws_pSameLots_l0K
      rw [lt_out (Nat.le_refl _)]
    · show laws_pSameLots_l0 _ _ _ _ = _
      rw [laws_pSameLots_l0_eq]; unfold laws_pSameLots_l0K
      rw [loop_step hi, wr_succ hi (by omega), lat_nat hi]
      simp
  rw [this]
  simp [sumO]
theorem samePile_refl (p : DPile) (h : p.2.2.1.length ≤ 1099511627776) : laws_pSamePile p p = some true := by
  unfold laws_pSamePile laws_pSamePileK
  rw [sameLots_refl _ h]; simp
end
end Go.OAI
