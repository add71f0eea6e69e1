/- ProvesBest: the law in plain words. -/
import Derived.Test.YtokaffjipngphaaLBoundGap
import Derived.Test.YtokaffjipngphaaGProvesBest
namespace Go.OAI
set_option linter.unusedVariables false
noncomputable section

theorem ProvesBest_law (x0 : DJob) (x1 : List Int) (x2 : DPlan) (w0 : TJob.wf x0) (w1 : (Ty.slice (.int .i64)).wf x1) (w2 : TPlan.wf x2) : laws_FnExactProvesBest x0 x1 x2 = some true := by
  unfold laws_FnExactProvesBest laws_FnExactProvesBestK
  by_cases hb : (x1.length : Int) > 1048576
  · simp [hb]
  · have hx1 : x1.length ≤ 1048576 := by omega
    simp only [hb, decide_false, cond_false]
    refine job_head x0 w0 fun s y1 hy0 hy1 => plan_head x2 w2 y1 hy0 hy1 fun hl y2 _ _ => ?_
    obtain ⟨v, h1, h2⟩ : ∃ v, impl_ProvesBest x0 x1 x2 = some v ∧ spec_ProvesBest x0 x1 x2 = some v := by
      obtain ⟨⟨v, ok⟩, h1, h2⟩ := gap_both x0 x1 x2 s hx1 hl
      unfold impl_ProvesBest impl_ProvesBestK spec_ProvesBest spec_ProvesBestK
      rw [h1, h2]
      cases ok <;> exact ⟨_, rfl, rfl⟩
    simp only [toJob_ok x0 s, toPlan_ok x2 hl, toIntS_ok x1 (by omega), Option.bind_some, jobEta, planEta, h1, h2, eqJob_refl x0 s, eqPlan_refl x2 hl, eqIntS_refl x1 (by omega)]
    simp
end
end Go.OAI
