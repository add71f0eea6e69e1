/- IsSearchable: the law in plain words. -/
import Derived.Test.YtaiopbdbnellhaaPsr
import Derived.Test.YtaiopbdbnellhaaGIsSearchable
namespace Go.OAI
set_option linter.unusedVariables false
noncomputable section

theorem IsSearchable_law (x0 : DJob) (w0 : TJob.wf x0) : laws_FnExactIsSearchable x0 = some true := by
  unfold laws_FnExactIsSearchable laws_FnExactIsSearchableK
  refine job_head x0 w0 fun s y1 hy0 hy1 => ?_
  have h2 : spec_IsSearchable x0 = some (searchB x0) := by
    unfold spec_IsSearchable spec_IsSearchableK
    rw [srGood_ok x0 s]; rfl
  simp only [toJob_ok x0 s, Option.bind_some, jobEta, IsSearchable_ok x0 s, h2, eqJob_refl x0 s]
  simp
end
end Go.OAI
