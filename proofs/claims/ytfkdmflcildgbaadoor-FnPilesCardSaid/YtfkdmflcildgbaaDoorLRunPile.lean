/- RunPile: the law in plain words. -/
import Derived.Test.YtfkdmflcildgbaaDoorLTakeTonnes
namespace Go.OAI
set_option linter.unusedVariables false
noncomputable section

/-- What TakeTonnes answers for a pile. -/
def takeR (p : DPile) (x : Int) : (Bool × Int × List DLot) × DLot × Bool :=
  if 1 ≤ x ∧ x ≤ tS p.2.2.1 ∧ lotB (x, (takeF x p.2.2.1).2.2, ()) = true then ((p.1, p.2.1, (takeF x p.2.2.1).1), (x, (takeF x p.2.2.1).2.2, ()), true) else ((false, (0, [])), ((0, (0, ())), false))
theorem takeR_good {p : DPile} {x : Int} (hp : pileB p = true) (h : (takeR p x).2.2 = true) : pileB ((takeR p x).1.1, (takeR p x).1.2.1, (takeR p x).1.2.2, ()) = true := by
  obtain ⟨p1, p2, p3, p4, p5, p6⟩ := pileB_spec hp
  unfold takeR at h ⊢
  split at h
  · rename_i c
    rw [if_pos c]
    obtain ⟨t1, t2, t3, t4, t5, t6⟩ := takeF_spec p.2.2.1 x p1 (by omega) (by omega)
    simp only [pileB, Bool.and_eq_true, decide_eq_true_eq]
    refine ⟨t1, p2, p3, by omega, fun hm => ?_, by omega⟩
    have := p5 hm
    omega
  · simp at h
theorem takeR_ok (p : DPile) (x : Int) (hp : pileB p = true) : (1 ≤ x → impl_takeTonnes p x = some (takeR p x)) ∧ spec_spTake p x = some (takeR p x) := by
  obtain ⟨p1, p2, p3, p4, p5, p6⟩ := pileB_spec hp
  unfold impl_takeTonnes impl_takeTonnesK spec_spTake spec_spTakeK takeR
  rw [spSums_ok _ p1 (by omega), lotSum_ok _ p1 (by omega)]
  by_cases c1 : x < 1
  · have c1' : ¬ 1 ≤ x := by omega
    exact ⟨fun h => absurd h c1', by simp [c1, c1']⟩
  have c1' : 1 ≤ x := by omega
  by_cases c2 : tS p.2.2.1 < x
  · have c2' : ¬ x ≤ tS p.2.2.1 := by omega
    exact ⟨fun h => by simp [c2, c2'], by simp [c1, c2, c2']⟩
  have c2' : x ≤ tS p.2.2.1 := by omega
  have c3 : ¬ x > tS p.2.2.1 := c2
  have g1 := take_loop p.2.2.1 p1 p4 0 (Nat.zero_le _) x [] 0 0 (by omega) (by omega) (by simp) (by omega) (by omega) (by omega) (by omega)
  have g1 : impl_takeTonnes_l0 p.2.2.1 (p.2.2.1.length : Int) x 0 [] 0 0 = some ((takeF x p.2.2.1).1, 0 + (takeF x p.2.2.1).2.1, 0 + (takeF x p.2.2.1).2.2) := g1
  obtain ⟨o', n', b', g2, g3⟩ := spTake_loop x (by omega) p.2.2.1 p1 (by omega) 0 p.2.2.1.length 0 0 p.2.2.1 (by simp) rfl (by omega) (by omega) (by omega) (by omega) (by omega)
  have e0 : x - 0 = x := by omega
  rw [e0] at g2 g3
  obtain ⟨t1, t2, t3, t4, t5, t6⟩ := takeF_spec p.2.2.1 x p1 (by omega) (by omega)
  rw [t3] at g1
  generalize takeF x p.2.2.1 = T at *
  have hcap : ([] : List DLot).length + p.2.2.1.length ≤ 1099511627776 := by simp; omega
  have hcap2 : ([] : List DLot).length + T.1.length ≤ 1099511627776 := by simp; omega
  have good : pileB (p.1, p.2.1, T.1, ()) = true := by
    simp only [pileB, Bool.and_eq_true, decide_eq_true_eq]
    refine ⟨t1, p2, p3, by omega, fun hm => ?_, by omega⟩
    have := p5 hm
    omega
  simp only [Option.bind_some, c1, c1', c2', c2, c3, decide_false, cond_false, hcap, decide_true, cond_true, g1, List.nil_append, g2, g3, Int.zero_add, true_and]
  unfold spec_spWith spec_spWithK
  simp only [hcap2, decide_true, cond_true, isLot_ok, spLot_ok, Option.bind_some, List.nil_append]
  have sg := spGood_ok (p.1, p.2.1, T.1, ()) (by show T.1.length ≤ _; omega)
  rw [sg, good]
  cases lotB (x, T.2.2, ()) with
  | false => exact ⟨fun _ => rfl, rfl⟩
  | true => exact ⟨fun _ => rfl, rfl⟩
def outLen : ((Int × Bool × Bool × Int × (List DLot) × (List DLot)) ⊕ (Bool × Int × (List DLot) × (List DLot))) → Prop
  | .inl x => x.2.2.2.2.1.length ≤ 40 ∧ x.2.2.2.2.2.length ≤ 60
  | .inr x => x.2.2.1.length ≤ 40 ∧ x.2.2.2.length ≤ 60
theorem run_loop (L : List DStir) (hn : L.length ≤ 60) : ∀ i, i ≤ L.length → ∀ (b : Bool) (c : Int) (l acc : List DLot), pileB (b, c, l, ()) = true → acc.length ≤ i →
    ∃ v, impl_RunPile_l0 L (L.length : Int) (i : Int) b c l acc = some v ∧ spec_RunPile_l0 L (L.length : Int) (i : Int) b c l acc = some v ∧ outLen v := by
  refine down (fun b c l acc hp ha => ?_) fun i hi ih b c l acc hp ha => ?_
  · have p4 := (pileB_spec hp).2.2.2.1
    rw [impl_RunPile_l0_eq, spec_RunPile_l0_eq]; unfold impl_RunPile_l0K spec_RunPile_l0K
    rw [lt_out (Nat.le_refl _), lt_out (Nat.le_refl _)]
    exact ⟨_, rfl, rfl, p4, by show acc.length ≤ _; omega⟩
  · have p4 : l.length ≤ 40 := (pileB_spec hp).2.2.2.1
    have stop : outLen (.inl ((i : Int), (true, (b, (c, (l, acc)))))) := ⟨p4, by show acc.length ≤ _; omega⟩
    rw [impl_RunPile_l0_eq, spec_RunPile_l0_eq]; unfold impl_RunPile_l0K spec_RunPile_l0K
    rw [loop_step hi, loop_step hi, wr_succ hi (by omega)]
    generalize L[i] = e
    obtain ⟨put, t, m, ⟨⟩⟩ := e
    unfold spec_spStir spec_spStirK
    cases put with
    | true =>
      simp only [cond_true, Bool.not_true, cond_false, isLot_ok, spLot_ok, Option.bind_some]
      cases hx : lotB (t, m, ()) with
      | false => exact ⟨_, rfl, rfl, stop⟩
      | true =>
        rw [putLot_ok b c l (t, m, ()) hp hx, spPut_ok b c l (t, m, ()) hp hx]
        simp only [cond_true, Bool.not_true, cond_false, Option.bind_some]
        cases hr : (putR (b, c, l, ()) (t, m, ())).2 with
        | false => exact ⟨_, rfl, rfl, stop⟩
        | true =>
          simp only [Bool.not_true, cond_false]
          exact ih _ _ _ _ (putR_good hr) (by omega)
    | false =>
      obtain ⟨r1, r2⟩ := takeR_ok (b, c, l, ()) t hp
      simp only [Bool.not_false, cond_true, cond_false, r2, Option.bind_some]
      by_cases ct : t ≥ 1
      · by_cases cm : m = 0
        · subst cm
          rw [r1 ct]
          simp only [ct, decide_true, cond_true, beq_self_eq_true, Option.bind_some, bne_self_eq_false, cond_false]
          cases hr : (takeR (b, c, l, ()) t).2.2 with
          | false => exact ⟨_, rfl, rfl, stop⟩
          | true =>
            have hl : acc.length + [(takeR (b, c, l, ()) t).2.1].length ≤ 1099511627776 := by simp; omega
            simp only [Bool.not_true, cond_false, hl, decide_true, cond_true]
            exact ih _ _ _ _ (takeR_good hp hr) (by simp; omega)
        · have cm' : (m == 0) = false := by simp [cm]
          have cm2 : (m != 0) = true := by simp [cm]
          simp only [ct, decide_true, cond_true, cm', cond_false, cm2]
          cases hr : (takeR (b, c, l, ()) t).2.2 with
          | false => exact ⟨_, rfl, rfl, stop⟩
          | true => exact ⟨_, rfl, rfl, stop⟩
      · have hr : (takeR (b, c, l, ()) t).2.2 = false := by
          unfold takeR
          rw [if_neg (fun h => ct h.1)]
        simp only [ct, decide_false, cond_false, hr, Bool.not_false, cond_true]
        exact ⟨_, rfl, rfl, stop⟩
end
end Go.OAI
