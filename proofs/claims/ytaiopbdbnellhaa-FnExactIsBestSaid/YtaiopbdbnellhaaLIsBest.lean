/- IsBest: the law in plain words. -/
import Derived.Test.YtaiopbdbnellhaaPsn
import Derived.Test.YtaiopbdbnellhaaGIsBest
namespace Go.OAI
set_option linter.unusedVariables false
noncomputable section

theorem IsBest_law (x0 : DJob) (x1 : DPlan) (w0 : TJob.wf x0) (w1 : TPlan.wf x1) : laws_FnExactIsBest x0 x1 = some true := by
  unfold laws_FnExactIsBest laws_FnExactIsBestK
  refine job_head x0 w0 fun s y1 hy0 hy1 => plan_head x1 w1 y1 hy0 hy1 fun hl y2 _ _ => ?_
  obtain ⟨v, h1, h2⟩ : ∃ v, impl_IsBest x0 x1 = some v ∧ spec_IsBest x0 x1 = some v := by
    unfold impl_IsBest impl_IsBestK spec_IsBest spec_IsBestK spec_srBoth spec_srBothK impl_BestPlan impl_BestPlanK spec_srBest spec_srBestK
    rw [IsSearchable_ok x0 s, srGood_ok x0 s, isPlan_ok x0 x1 hl]
    cases hj : searchB x0 with
    | false => exact ⟨_, rfl, rfl⟩
    | true =>
      obtain ⟨S, hjb⟩ := searchB_spec hj
      have J := S.toJobOk
      rw [plGood_ok x0 x1 hl hjb]
      cases hp : planB x0 x1 with
      | false => exact ⟨_, rfl, rfl⟩
      | true =>
        have Q := planB_spec hp
        have hlen := Q.len
        obtain ⟨A, g1, g2⟩ := proSearch_ok s S (most := 20000) (by omega) (by omega)
        obtain ⟨d1, d2⟩ := done_next x0
        simp only [Bool.not_true, cond_false, Option.bind_some, g1, refSearch_ok s S (most := 20001) (by omega) (by omega), cond_true]
        rw [g2]
        simp only [Option.bind_some, sumO, spS, imS]
        by_cases c : (done x0 20001).nodes ≤ 20000
        · obtain ⟨e1, e2⟩ := d1 c
          rw [e1]
          simp only [e2, cond_false, c, decide_true, Bool.not_true, isFeasible_ok x0 x1 s J Q, plFeasible_ok x0 x1 s J Q, Option.bind_some]
          cases feasB x0 x1.2.1 with
          | false => exact ⟨_, rfl, rfl⟩
          | true =>
            rw [scaledWorth_ok x0 x1 J Q, srWorth_ok x0 x1.2.1 J (by omega) (fun t ht => (Q.w t ht).2)]
            exact ⟨_, rfl, rfl⟩
        · simp only [d2 (by omega), cond_true, c, decide_false, Bool.not_false]
          exact ⟨_, rfl, rfl⟩
  simp only [toJob_ok x0 s, toPlan_ok x1 hl, Option.bind_some, jobEta, planEta, h1, h2, eqJob_refl x0 s, eqPlan_refl x1 hl]
  simp
end
end Go.OAI
