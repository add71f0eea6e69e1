/- Kept plans. -/
import Derived.Test.YtnmeejeedfeolaaPfe
import Derived.Test.YtnmeejeedfeolaaGK
namespace Go.OAI
set_option linter.unusedVariables false
noncomputable section

def keptB (j : DJob) (p : DPlan) : Bool := jobB j && (planB j p && feasB j p.2.1)
theorem isKept_ok (j : DJob) (p : DPlan) (s : JobSm j) (hl : p.2.1.length ≤ 1048576) : impl_isKept j p = some (keptB j p) := by
  unfold impl_isKept impl_isKeptK keptB
  rw [IsJob_ok j s, isPlan_ok j p hl]
  cases hj : jobB j with
  | false => rfl
  | true =>
    cases hp : planB j p with
    | false => rfl
    | true =>
      rw [isFeasible_ok j p s (jobB_spec hj) (planB_spec hp)]
      simp
theorem wiGood_ok (j : DJob) (p : DPlan) (s : JobSm j) (hl : p.2.1.length ≤ 1048576) : spec_wiGood j p = some (keptB j p) := by
  unfold spec_wiGood spec_wiGoodK keptB
  rw [plBoth_ok j p s hl]
  cases hj : jobB j with
  | false => rfl
  | true =>
    cases hp : planB j p with
    | false => rfl
    | true =>
      rw [plFeasible_ok j p s (jobB_spec hj) (planB_spec hp)]
      simp
theorem keptB_spec {j : DJob} {p : DPlan} (h : keptB j p = true) : JobOk j ∧ PlanOk j p ∧ feasB j p.2.1 = true := by
  simp only [keptB, Bool.and_eq_true] at h
  exact ⟨jobB_spec h.1, planB_spec h.2.1, h.2.2⟩
end
end Go.OAI
