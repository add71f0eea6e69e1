/- NodesOf: the law in plain words. -/
import Derived.Test.YtaiopbdbnellhaaPsn
import Derived.Test.YtaiopbdbnellhaaGNodesOf
namespace Go.OAI
set_option linter.unusedVariables false
noncomputable section

theorem NodesOf_law (x0 : DJob) (w0 : TJob.wf x0) : laws_FnExactNodesOf x0 = some true := by
  unfold laws_FnExactNodesOf laws_FnExactNodesOfK
  refine job_head x0 w0 fun s y1 hy0 hy1 => ?_
  obtain ⟨v, h1, h2⟩ : ∃ v, impl_NodesOf x0 = some v ∧ spec_NodesOf x0 = some v := by
    unfold impl_NodesOf impl_NodesOfK spec_NodesOf spec_NodesOfK spec_srBest spec_srBestK
    rw [IsSearchable_ok x0 s, srGood_ok x0 s]
    cases hj : searchB x0 with
    | false => exact ⟨_, rfl, rfl⟩
    | true =>
      obtain ⟨S, hjb⟩ := searchB_spec hj
      obtain ⟨A, g1, g2⟩ := proSearch_ok s S (most := 20000) (by omega) (by omega)
      obtain ⟨d1, d2⟩ := done_next x0
      simp only [Bool.not_true, cond_false, Option.bind_some, g1, refSearch_ok s S (most := 20001) (by omega) (by omega)]
      rw [g2]
      simp only [Option.bind_some, sumO, spS, imS]
      by_cases c : (done x0 20001).nodes ≤ 20000
      · obtain ⟨e1, e2⟩ := d1 c
        rw [e1]
        simp only [e2, cond_false, c, decide_true, Bool.not_true]
        exact ⟨_, rfl, rfl⟩
      · simp only [d2 (by omega), cond_true, c, decide_false, Bool.not_false]
        exact ⟨_, rfl, rfl⟩
  simp only [toJob_ok x0 s, Option.bind_some, jobEta, h1, h2, eqJob_refl x0 s]
  simp
end
end Go.OAI
