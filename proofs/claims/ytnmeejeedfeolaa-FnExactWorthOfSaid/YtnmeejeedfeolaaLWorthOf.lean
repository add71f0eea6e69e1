/- WorthOf: the law in plain words. -/
import Derived.Test.YtnmeejeedfeolaaPs
import Derived.Test.YtnmeejeedfeolaaPfr
import Derived.Test.YtnmeejeedfeolaaGWorthOf
namespace Go.OAI
set_option linter.unusedVariables false
noncomputable section

theorem tdiv_sgn (a g : Int) : a.tdiv g = a.sign * ((a.natAbs : Nat) : Int).tdiv g := by
  rcases Int.lt_trichotomy a 0 with h | h | h
  · have e : a = -((a.natAbs : Nat) : Int) := by omega
    rw [Int.sign_eq_neg_one_of_neg h]
    generalize a.natAbs = m at e ⊢
    subst e
    rw [Int.neg_tdiv]; omega
  · subst h; simp
  · have e : a = ((a.natAbs : Nat) : Int) := by omega
    rw [Int.sign_eq_one_of_pos h]
    generalize a.natAbs = m at e ⊢
    subst e
    omega
/-- A fraction with a sign. -/
theorem lowest_woPart (a b : Int) (h1 : -4611686018427387904 ≤ a) (h2 : a ≤ 4611686018427387904) (hb : 0 < b) (hb2 : b ≤ 4611686018427387904) : ∃ v, impl_lowest a b = some v ∧ spec_woPart a b = some v := by
  obtain ⟨n, rfl⟩ := Int.eq_ofNat_of_zero_le (Int.le_of_lt hb)
  have hg : Nat.gcd a.natAbs n ≠ 0 := fun e => by
    have := (Nat.gcd_eq_zero_iff.1 e).2
    omega
  have hg2 : ¬ (((Nat.gcd a.natAbs n : Nat) : Int) = 0) := by omega
  have habs : impl_abs a = some ((a.natAbs : Nat) : Int) := by
    unfold impl_abs impl_absK
    rw [wr (by omega) (by omega)]
    congr 1
    split <;> omega
  have habs2 : spec_l1Abs a = some ((a.natAbs : Nat) : Int) := by
    unfold spec_l1Abs spec_l1AbsK spec_l1Most spec_l1MostK
    rw [wr (by omega) (by omega)]
    by_cases c : a > 0 - a
    · simp only [c, decide_true, cond_true, Option.bind_some]; congr 1; omega
    · simp only [c, decide_false, cond_false, Option.bind_some]; congr 1; omega
  have hq : ∀ m : Nat, (m : Int) ≤ 4611686018427387904 → 0 ≤ (m : Int).tdiv ((Nat.gcd a.natAbs n : Nat) : Int) ∧ (m : Int).tdiv ((Nat.gcd a.natAbs n : Nat) : Int) ≤ 4611686018427387904 := fun m hm => by
    rw [← Int.ofNat_tdiv]
    have := Nat.div_le_self m (Nat.gcd a.natAbs n)
    generalize m / Nat.gcd a.natAbs n = q at this ⊢
    omega
  have q1 := hq a.natAbs (by omega)
  have q2 := hq n (by omega)
  have hsg : a.tdiv ((Nat.gcd a.natAbs n : Nat) : Int) = a.sign * ((a.natAbs : Nat) : Int).tdiv ((Nat.gcd a.natAbs n : Nat) : Int) := tdiv_sgn _ _
  have hsign : spec_l1Sign a = some a.sign := by
    unfold spec_l1Sign spec_l1SignK
    rcases Int.lt_trichotomy a 0 with h | h | h
    · have : ¬ a > 0 := by omega
      rw [Int.sign_eq_neg_one_of_neg h]; simp [h, this]
    · subst h; simp
    · rw [Int.sign_eq_one_of_pos h]
      have : a > 0 := h
      simp [this]
  have hs3 : a.sign = -1 ∨ a.sign = 0 ∨ a.sign = 1 := by
    rcases Int.lt_trichotomy a 0 with h | h | h
    · exact .inl (Int.sign_eq_neg_one_of_neg h)
    · subst h; exact .inr (.inl rfl)
    · exact .inr (.inr (Int.sign_eq_one_of_pos h))
  have hmul : -4611686018427387904 ≤ a.sign * ((a.natAbs : Nat) : Int).tdiv ((Nat.gcd a.natAbs n : Nat) : Int) ∧ a.sign * ((a.natAbs : Nat) : Int).tdiv ((Nat.gcd a.natAbs n : Nat) : Int) ≤ 4611686018427387904 := by
    rcases hs3 with e | e | e <;> rw [e] <;> omega
  refine ⟨(a.sign * ((a.natAbs : Nat) : Int).tdiv ((Nat.gcd a.natAbs n : Nat) : Int), (n : Int).tdiv ((Nat.gcd a.natAbs n : Nat) : Int)), ?_, ?_⟩
  · unfold impl_lowest impl_lowestK
    rw [habs]
    simp only [Option.bind_some, lowest_gcd, hg2, decide_false, cond_false]
    rw [hsg, wr (by omega) (by omega), wr (by omega) (by omega)]
  · unfold spec_woPart spec_woPartK
    rw [habs2]
    unfold spec_moPart spec_moPartK
    simp only [Option.bind_some, moPart_gcd, hg2, decide_false, cond_false, hsign]
    rw [wr (n := ((a.natAbs : Nat) : Int).tdiv ((Nat.gcd a.natAbs n : Nat) : Int)) (by omega) (by omega), wr (by omega) (by omega), wr (by omega) (by omega)]
theorem WorthOf_law (x0 : DJob) (x1 : DPlan) (w0 : TJob.wf x0) (w1 : TPlan.wf x1) : laws_FnExactWorthOf x0 x1 = some true := by
  unfold laws_FnExactWorthOf laws_FnExactWorthOfK
  refine job_head x0 w0 fun s y1 hy0 hy1 => plan_head x1 w1 y1 hy0 hy1 fun hl y2 _ _ => ?_
  obtain ⟨v, h1, h2⟩ : ∃ v, impl_WorthOf x0 x1 = some v ∧ spec_WorthOf x0 x1 = some v := by
    unfold impl_WorthOf impl_WorthOfK spec_WorthOf spec_WorthOfK
    rw [IsJob_ok x0 s, isPlan_ok x0 x1 hl, plBoth_ok x0 x1 s hl]
    cases hj : jobB x0 with
    | false => exact ⟨_, rfl, rfl⟩
    | true =>
      cases hp : planB x0 x1 with
      | false => exact ⟨_, rfl, rfl⟩
      | true =>
        have J := jobB_spec hj
        have Q := planB_spec hp
        have hper := J.per
        have hnum := J.num
        have hden := J.den
        have hn2 := J.n2
        have hlen := Q.len
        have hb := worth_bound J x1.2.1 x0.2.2.1 (fun t ht => (Q.w t ht).2) J.v
        have e : x0.2.2.2.2.1 - 1 = (((x0.2.2.2.2.1 - 1).toNat : Nat) : Int) := by omega
        have p1 : impl_power x0.2.2.2.2.2.2.1 (x0.2.2.2.2.1 - 1) = some (x0.2.2.2.2.2.2.1 ^ (x0.2.2.2.2.1 - 1).toNat) := by
          have := impl_power_ok x0.2.2.2.2.2.2.1 (by omega) (by omega) (x0.2.2.2.2.1 - 1).toNat (by omega)
          rwa [← e] at this
        have p2 : spec_srPower x0.2.2.2.2.2.2.1 (x0.2.2.2.2.1 - 1) = some (x0.2.2.2.2.2.2.1 ^ (x0.2.2.2.2.1 - 1).toNat) := by
          have := spec_srPower_ok x0.2.2.2.2.2.2.1 (by omega) (by omega) (x0.2.2.2.2.1 - 1).toNat (by omega)
          rwa [← e] at this
        have hpow := pow_le20 (b := x0.2.2.2.2.2.2.1) (by omega) (by omega) (x0.2.2.2.2.1 - 1).toNat
        have hp20 := pow20 (n := (x0.2.2.2.2.1 - 1).toNat) (by omega)
        have hpos : 0 < x0.2.2.2.2.2.2.1 ^ (x0.2.2.2.2.1 - 1).toNat := Int.pow_pos (by omega)
        obtain ⟨v, g1, g2⟩ := lowest_woPart (worth x0 x1.2.1 x0.2.2.1) (x0.2.2.2.2.2.2.1 ^ (x0.2.2.2.2.1 - 1).toNat) (by omega) (by omega) hpos (by omega)
        unfold spec_woScale spec_woScaleK
        rw [scaledWorth_ok x0 x1 J Q, srWorth_ok x0 x1.2.1 J (by omega) (fun t ht => (Q.w t ht).2), wr (by omega) (by omega), p1, p2]
        simp only [Bool.not_true, cond_false, Option.bind_some, Bool.and_self, g1, g2]
        exact ⟨_, rfl, rfl⟩
  simp only [toJob_ok x0 s, toPlan_ok x1 hl, Option.bind_some, jobEta, planEta, h1, h2, eqJob_refl x0 s, eqPlan_refl x1 hl]
  simp
end
end Go.OAI
