/- ComparePlans: the law in plain words. -/
import Derived.Test.YtaiopbdbnellhaaPs
import Derived.Test.YtaiopbdbnellhaaPsr
import Derived.Test.YtaiopbdbnellhaaGComparePlans
namespace Go.OAI
set_option linter.unusedVariables false
noncomputable section

theorem ComparePlans_law (x0 : DJob) (x1 x2 : DPlan) (w0 : TJob.wf x0) (w1 : TPlan.wf x1) (w2 : TPlan.wf x2) : laws_FnExactComparePlans x0 x1 x2 = some true := by
  unfold laws_FnExactComparePlans laws_FnExactComparePlansK
  refine job_head x0 w0 fun s y1 hy0 hy1 => plan_head x1 w1 y1 hy0 hy1 fun hl y2 hy2 hy3 => plan_head x2 w2 y2 hy2 hy3 fun hl2 y3 _ _ => ?_
  obtain ⟨v, h1, h2⟩ : ∃ v, impl_ComparePlans x0 x1 x2 = some v ∧ spec_ComparePlans x0 x1 x2 = some v := by
    unfold impl_ComparePlans impl_ComparePlansK spec_ComparePlans spec_ComparePlansK spec_srBoth spec_srBothK
    rw [IsSearchable_ok x0 s, srGood_ok x0 s, isPlan_ok x0 x1 hl, isPlan_ok x0 x2 hl2]
    cases hj : searchB x0 with
    | false => exact ⟨_, rfl, rfl⟩
    | true =>
      obtain ⟨S, hjb⟩ := searchB_spec hj
      have J := S.toJobOk
      have hn := S.n12
      rw [plGood_ok x0 x1 hl hjb, plGood_ok x0 x2 hl2 hjb]
      cases hp : planB x0 x1 with
      | false => exact ⟨_, rfl, rfl⟩
      | true =>
        cases hp2 : planB x0 x2 with
        | false => exact ⟨_, rfl, rfl⟩
        | true =>
          have Q := planB_spec hp
          have Q2 := planB_spec hp2
          have hlen := Q.len
          have hlen2 := Q2.len
          have b1 := worth_bound J x1.2.1 x0.2.2.1 (fun t ht => (Q.w t ht).2) J.v
          have b2 := worth_bound J x2.2.1 x0.2.2.1 (fun t ht => (Q2.w t ht).2) J.v
          rw [scaledWorth_ok x0 x1 J Q, scaledWorth_ok x0 x2 J Q2, srWorth_ok x0 x1.2.1 J (by omega) (fun t ht => (Q.w t ht).2), srWorth_ok x0 x2.2.1 J (by omega) (fun t ht => (Q2.w t ht).2)]
          simp only [Bool.not_true, cond_false, cond_true, Option.bind_some]
          generalize worth x0 x1.2.1 x0.2.2.1 = a at *
          generalize worth x0 x2.2.1 x0.2.2.1 = b at *
          rw [wr (n := a - b) (by omega) (by omega)]
          unfold cmp_Compare_int cmp_Compare_intK cmp_isNaN_int cmp_isNaN_intK spec_l1Sign spec_l1SignK
          simp only [bne_self_eq_false, cond_false, Option.bind_some]
          rcases Int.lt_trichotomy a b with h | h | h
          · have c1 : a - b < 0 := by omega
            have c0 : ¬ a - b > 0 := by omega
            simp only [h, c0, c1, decide_true, decide_false, cond_true, cond_false, Option.bind_some]
            exact ⟨_, rfl, rfl⟩
          · subst h
            have c1 : ¬ a < a := by omega
            have c2 : ¬ a > a := by omega
            have c3 : ¬ a - a < 0 := by omega
            have c4 : ¬ a - a > 0 := by omega
            simp only [c1, c2, c3, c4, decide_false, cond_false, Option.bind_some]
            exact ⟨_, rfl, rfl⟩
          · have c1 : ¬ a < b := by omega
            have c2 : a > b := h
            have c3 : ¬ a - b < 0 := by omega
            have c4 : a - b > 0 := by omega
            simp only [c1, c2, c3, c4, decide_true, decide_false, cond_true, cond_false, Option.bind_some]
            exact ⟨_, rfl, rfl⟩
  simp only [toJob_ok x0 s, toPlan_ok x1 hl, toPlan_ok x2 hl2, Option.bind_some, jobEta, planEta, h1, h2, eqJob_refl x0 s, eqPlan_refl x1 hl, eqPlan_refl x2 hl2]
  simp
end
end Go.OAI
