/- TrimPlan: the law in plain words. -/
import Derived.Test.YtokaffjipngphaaPtq
namespace Go.OAI
set_option linter.unusedVariables false
noncomputable section

theorem TrimPlan_law (x0 : DJob) (x1 : DPlan) (w0 : TJob.wf x0) (w1 : TPlan.wf x1) : laws_FnExactTrimPlan x0 x1 = some true := by
  unfold laws_FnExactTrimPlan laws_FnExactTrimPlanK
  refine job_head x0 w0 fun s y1 hy0 hy1 => plan_head x1 w1 y1 hy0 hy1 fun hl y2 _ _ => ?_
  obtain ⟨v, h1, h2, h3⟩ := trim_both s hl
  obtain ⟨⟨c, w⟩, ok⟩ := v
  dsimp only at h3
  obtain ⟨k', m1, m2, m3⟩ := markJob_ok x0 s 1 (by omega) (by omega)
  obtain ⟨l', n1, n2, n3⟩ := markPlan_ok x1.1 x1.2.1 hl k' (by omega) (by omega)
  obtain ⟨l2, o1, o2, o3⟩ := markPlan_ok c w h3 1 (by omega) (by omega)
  have c1 : ¬ k' + (x1.2.1.length : Int) < 0 := by omega
  have c2 : ¬ 1 + (w.length : Int) < 0 := by omega
  have er := eqPlan_refl (c, w, ()) h3
  simp only [toJob_ok x0 s, toPlan_ok x1 hl, Option.bind_some, jobEta, planEta, h1, h2, er, eqJob_refl x0 s, eqPlan_refl x1 hl, m1, n1, o1, o3, c1, c2]
  simp
end
end Go.OAI
