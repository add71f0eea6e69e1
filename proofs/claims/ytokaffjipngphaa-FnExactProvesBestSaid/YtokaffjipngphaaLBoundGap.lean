/- BoundGap: the law in plain words. -/
import Derived.Test.YtokaffjipngphaaPrb
import Derived.Test.YtokaffjipngphaaPfe
import Derived.Test.YtokaffjipngphaaGBoundGap
namespace Go.OAI
set_option linter.unusedVariables false
noncomputable section

theorem gap_both (x0 : DJob) (x1 : List Int) (x2 : DPlan) (s : JobSm x0) (hx1 : x1.length ≤ 1048576) (hl : x2.2.1.length ≤ 1048576) : ∃ v, impl_BoundGap x0 x1 x2 = some v ∧ spec_BoundGap x0 x1 x2 = some v := by
  unfold impl_BoundGap impl_BoundGapK spec_BoundGap spec_BoundGapK
  rw [IsJob_ok x0 s, areMultipliers_ok x0 x1 (by omega), reGood_ok x0 s x1 (by omega), isPlan_ok x0 x2 hl]
  cases hj : jobB x0 with
  | false => exact ⟨_, rfl, rfl⟩
  | true =>
    rw [plGood_ok x0 x2 hl hj]
    cases hm : mulB x0 x1 with
    | false => exact ⟨_, rfl, rfl⟩
    | true =>
      cases hp : planB x0 x2 with
      | false => exact ⟨_, rfl, rfl⟩
      | true =>
        have J := jobB_spec hj
        have Q := planB_spec hp
        have hlen := Q.len
        rw [isFeasible_ok x0 x2 s J Q, plFeasible_ok x0 x2 s J Q]
        cases hf : feasB x0 x2.2.1 with
        | false => exact ⟨_, rfl, rfl⟩
        | true =>
          obtain ⟨v, W, g1, g2, g3⟩ := bound_ok J (mulB_spec hm)
          simp only [Bool.not_true, cond_false, Option.bind_some, Bool.and_self, g1, g2, g3, scaledWorth_ok x0 x2 J Q, srWorth_ok x0 x2.2.1 J (by omega) (fun t ht => (Q.w t ht).2)]
          exact ⟨_, rfl, rfl⟩
theorem BoundGap_law (x0 : DJob) (x1 : List Int) (x2 : DPlan) (w0 : TJob.wf x0) (w1 : (Ty.slice (.int .i64)).wf x1) (w2 : TPlan.wf x2) : laws_FnExactBoundGap x0 x1 x2 = some true := by
  unfold laws_FnExactBoundGap laws_FnExactBoundGapK
  by_cases hb : (x1.length : Int) > 1048576
  · simp [hb]
  · have hx1 : x1.length ≤ 1048576 := by omega
    simp only [hb, decide_false, cond_false]
    refine job_head x0 w0 fun s y1 hy0 hy1 => plan_head x2 w2 y1 hy0 hy1 fun hl y2 _ _ => ?_
    obtain ⟨v, h1, h2⟩ := gap_both x0 x1 x2 s hx1 hl
    simp only [toJob_ok x0 s, toPlan_ok x2 hl, toIntS_ok x1 (by omega), Option.bind_some, jobEta, planEta, h1, h2, eqJob_refl x0 s, eqPlan_refl x2 hl, eqIntS_refl x1 (by omega)]
    simp
end
end Go.OAI
