/- RelaxedBound: the law in plain words. -/
import Derived.Test.YtokaffjipngphaaPrb
import Derived.Test.YtokaffjipngphaaGRelaxedBound
namespace Go.OAI
set_option linter.unusedVariables false
noncomputable section

theorem RelaxedBound_law (x0 : DJob) (x1 : List Int) (w0 : TJob.wf x0) (w1 : (Ty.slice (.int .i64)).wf x1) : laws_FnExactRelaxedBound x0 x1 = some true := by
  unfold laws_FnExactRelaxedBound laws_FnExactRelaxedBoundK
  by_cases hb : (x1.length : Int) > 1048576
  · simp [hb]
  · have hx1 : x1.length ≤ 1048576 := by omega
    simp only [hb, decide_false, cond_false]
    refine job_head x0 w0 fun s y1 hy0 hy1 => ?_
    obtain ⟨v, h1, h2⟩ : ∃ v, impl_RelaxedBound x0 x1 = some v ∧ spec_RelaxedBound x0 x1 = some v := by
      unfold impl_RelaxedBound impl_RelaxedBoundK spec_RelaxedBound spec_RelaxedBoundK
      rw [IsJob_ok x0 s, areMultipliers_ok x0 x1 (by omega), reGood_ok x0 s x1 (by omega)]
      cases hj : jobB x0 with
      | false => exact ⟨_, rfl, rfl⟩
      | true =>
        cases hm : mulB x0 x1 with
        | false => exact ⟨_, rfl, rfl⟩
        | true =>
          obtain ⟨v, W, g1, g2, g3⟩ := bound_ok (jobB_spec hj) (mulB_spec hm)
          simp only [Bool.not_true, cond_false, Option.bind_some, Bool.and_self, g1, g2, g3]
          exact ⟨_, rfl, rfl⟩
    simp only [toJob_ok x0 s, toIntS_ok x1 (by omega), Option.bind_some, jobEta, h1, h2, eqJob_refl x0 s, eqIntS_refl x1 (by omega)]
    simp
end
end Go.OAI
