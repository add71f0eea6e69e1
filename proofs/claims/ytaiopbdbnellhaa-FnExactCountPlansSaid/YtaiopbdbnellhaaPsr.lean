/- Jobs that can be searched. -/
import Derived.Test.YtaiopbdbnellhaaPw
import Derived.Test.YtaiopbdbnellhaaGSr
namespace Go.OAI
set_option linter.unusedVariables false
noncomputable section

def searchB (j : DJob) : Bool := jobB j && (decide ((j.1.length : Int) ≤ 12) && decide (j.2.2.2.2.1 ≤ 3))
theorem IsSearchable_okW (j : DJob) (s : JobWf j) : impl_IsSearchable j = some (searchB j) := by
  unfold impl_IsSearchable impl_IsSearchableK searchB
  rw [IsJob_okW j s]
  cases jobB j <;> by_cases c1 : (j.1.length : Int) ≤ 12 <;> simp [c1]
theorem IsSearchable_ok (j : DJob) (s : JobSm j) : impl_IsSearchable j = some (searchB j) := IsSearchable_okW j s.wf
theorem srGood_okW (j : DJob) (s : JobWf j) : spec_srGood j = some (searchB j) := by
  unfold spec_srGood spec_srGoodK searchB
  rw [plJob_okW j s]
  cases jobB j <;> by_cases c1 : (j.1.length : Int) ≤ 12 <;> simp [c1]
theorem srGood_ok (j : DJob) (s : JobSm j) : spec_srGood j = some (searchB j) := srGood_okW j s.wf
structure SearchOk (j : DJob) : Prop extends JobOk j where
  n12 : j.1.length ≤ 12
  p3 : j.2.2.2.2.1 ≤ 3
theorem searchB_spec {j : DJob} (h : searchB j = true) : SearchOk j ∧ jobB j = true := by
  simp only [searchB, Bool.and_eq_true, decide_eq_true_eq] at h
  exact ⟨⟨jobB_spec h.1, by omega, h.2.2⟩, h.1⟩
end
end Go.OAI
