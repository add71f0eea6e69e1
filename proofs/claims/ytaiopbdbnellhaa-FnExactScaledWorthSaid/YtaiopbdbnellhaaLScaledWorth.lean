/- ScaledWorth: the law in plain words. -/
import Derived.Test.YtaiopbdbnellhaaPs
import Derived.Test.YtaiopbdbnellhaaPsr
import Derived.Test.YtaiopbdbnellhaaGScaledWorth
namespace Go.OAI
set_option linter.unusedVariables false
noncomputable section

theorem ScaledWorth_law (x0 : DJob) (x1 : DPlan) (w0 : TJob.wf x0) (w1 : TPlan.wf x1) : laws_FnExactScaledWorth x0 x1 = some true := by
  unfold laws_FnExactScaledWorth laws_FnExactScaledWorthK
  refine job_head x0 w0 fun s y1 hy0 hy1 => plan_head x1 w1 y1 hy0 hy1 fun hl y2 _ _ => ?_
  obtain ⟨v, h1, h2⟩ : ∃ v, impl_ScaledWorth x0 x1 = some v ∧ spec_ScaledWorth x0 x1 = some v := by
    unfold impl_ScaledWorth impl_ScaledWorthK spec_ScaledWorth spec_ScaledWorthK spec_srBoth spec_srBothK
    rw [IsSearchable_ok x0 s, srGood_ok x0 s, isPlan_ok x0 x1 hl]
    cases hj : searchB x0 with
    | false => exact ⟨_, rfl, rfl⟩
    | true =>
      obtain ⟨S, hjb⟩ := searchB_spec hj
      have J := S.toJobOk
      rw [plGood_ok x0 x1 hl hjb]
      cases hp : planB x0 x1 with
      | false => exact ⟨_, rfl, rfl⟩
      | true =>
        have Q := planB_spec hp
        have hlen := Q.len
        rw [scaledWorth_ok x0 x1 J Q, srWorth_ok x0 x1.2.1 J (by omega) (fun t ht => (Q.w t ht).2)]
        exact ⟨_, rfl, rfl⟩
  simp only [toJob_ok x0 s, toPlan_ok x1 hl, Option.bind_some, jobEta, planEta, h1, h2, eqJob_refl x0 s, eqPlan_refl x1 hl]
  simp
end
end Go.OAI
