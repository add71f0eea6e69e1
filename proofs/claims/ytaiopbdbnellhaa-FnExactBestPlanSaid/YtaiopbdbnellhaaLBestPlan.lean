/- BestPlan: the law in plain words. -/
import Derived.Test.YtaiopbdbnellhaaPsn
namespace Go.OAI
set_option linter.unusedVariables false
noncomputable section

theorem BestPlan_law (x0 : DJob) (w0 : TJob.wf x0) : laws_FnExactBestPlan x0 = some true := by
  unfold laws_FnExactBestPlan laws_FnExactBestPlanK
  refine job_head x0 w0 fun s y1 hy0 hy1 => ?_
  obtain ⟨v, h1, h2, h3⟩ := BestPlan_both x0 s
  obtain ⟨⟨c, w⟩, a, ok⟩ := v
  dsimp only at h3
  obtain ⟨k', m1, m2, m3⟩ := markJob_ok x0 s 1 (by omega) (by omega)
  obtain ⟨l2, o1, o2, o3⟩ := markPlan_ok c w h3 1 (by omega) (by omega)
  have c1 : ¬ k' < 0 := by omega
  have c2 : ¬ 1 + (w.length : Int) < 0 := by omega
  have er := eqPlan_refl (c, w, ()) h3
  simp only [toJob_ok x0 s, Option.bind_some, jobEta, h1, h2, er, eqJob_refl x0 s, m1, o1, o3, c1, c2]
  simp
end
end Go.OAI
