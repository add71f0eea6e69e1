/- PeriodWorths: the law in plain words. -/
import Derived.Test.YtnmeejeedfeolaaPw
import Derived.Test.YtnmeejeedfeolaaGPeriodWorths
namespace Go.OAI
set_option linter.unusedVariables false
noncomputable section

theorem PeriodWorths_law (x0 : DJob) (x1 : DPlan) (w0 : TJob.wf x0) (w1 : TPlan.wf x1) : laws_FnExactPeriodWorths x0 x1 = some true := by
  unfold laws_FnExactPeriodWorths laws_FnExactPeriodWorthsK
  refine job_head x0 w0 fun s y1 hy0 hy1 => plan_head x1 w1 y1 hy0 hy1 fun hl y2 _ _ => ?_
  obtain ⟨v, h1, h2, h3⟩ : ∃ v, impl_PeriodWorths x0 x1 = some v ∧ spec_PeriodWorths x0 x1 = some v ∧ v.1.length ≤ 1048576 := by
    unfold impl_PeriodWorths impl_PeriodWorthsK spec_PeriodWorths spec_PeriodWorthsK
    rw [IsJob_ok x0 s, isPlan_ok x0 x1 hl, plBoth_ok x0 x1 s hl]
    cases hj : jobB x0 with
    | false => exact ⟨_, rfl, rfl, by simp⟩
    | true =>
      cases hp : planB x0 x1 with
      | false => exact ⟨_, rfl, rfl, by simp⟩
      | true =>
        have J := jobB_spec hj
        have Q := planB_spec hp
        have := J.per
        rw [impl_periodWorths_ok x0 x1 J Q, spec_woPeriods_ok x0 x1 J Q]
        exact ⟨_, rfl, rfl, by simp [pws_len]; omega⟩
  obtain ⟨k', m1, m2, m3⟩ := markJob_ok x0 s 1 (by omega) (by omega)
  obtain ⟨l', n1, n2, n3⟩ := markPlan_ok x1.1 x1.2.1 hl k' (by omega) (by omega)
  obtain ⟨l2, o1, o2, o3⟩ := markIntS_ok v.1 (by omega) 1 (by omega) (by omega)
  have c1 : ¬ k' + (x1.2.1.length : Int) < 0 := by omega
  have c2 : ¬ 1 + (v.1.length : Int) < 0 := by omega
  simp only [toJob_ok x0 s, toPlan_ok x1 hl, Option.bind_some, jobEta, planEta, h1, h2, eqIntS_refl v.1 (by omega), eqJob_refl x0 s, eqPlan_refl x1 hl, m1, n1, o1, o3, c1, c2]
  simp
end
end Go.OAI
