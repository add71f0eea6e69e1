/- IsPeak: the law in plain words. -/
import Derived.Test.YtnmeejeedfeolaaPbm
import Derived.Test.YtnmeejeedfeolaaGIsPeak
namespace Go.OAI
set_option linter.unusedVariables false
noncomputable section

theorem IsPeak_law (x0 : DJob) (x1 : DPlan) (w0 : TJob.wf x0) (w1 : TPlan.wf x1) : laws_FnExactIsPeak x0 x1 = some true := by
  unfold laws_FnExactIsPeak laws_FnExactIsPeakK
  refine job_head x0 w0 fun s y1 hy0 hy1 => plan_head x1 w1 y1 hy0 hy1 fun hl y2 _ _ => ?_
  obtain ⟨v, h1, h2⟩ : ∃ v, impl_IsPeak x0 x1 = some v ∧ spec_IsPeak x0 x1 = some v := by
    unfold impl_IsPeak impl_IsPeakK spec_IsPeak spec_IsPeakK
    rw [isKept_ok x0 x1 s hl, wiGood_ok x0 x1 s hl]
    cases hk : keptB x0 x1 with
    | false => exact ⟨_, rfl, rfl⟩
    | true =>
      obtain ⟨J, Q, hf⟩ := keptB_spec hk
      obtain ⟨r, g1, g2, g3⟩ := bestMove_ok x0 s J x1.1 x1.2.1 Q
      have e : ((x1.1, x1.2.1, ()) : DPlan) = x1 := rfl
      rw [e] at g1 g2
      simp only [Bool.not_true, cond_false, Option.bind_some, g1, g2]
      refine ⟨_, rfl, ?_⟩
      rcases g3 with h | h
      · rw [h]; rfl
      · have c1 : (r.2.2 == 0) = false := by rw [beq_dec, decide_eq_false]; omega
        have c2 : r.2.2 > 0 := h.1
        simp only [c1, c2, decide_true, Bool.not_true]
  simp only [toJob_ok x0 s, toPlan_ok x1 hl, Option.bind_some, jobEta, planEta, h1, h2, eqJob_refl x0 s, eqPlan_refl x1 hl]
  simp
end
end Go.OAI
