/- SearchPlan: the law in plain words. -/
import Derived.Test.YtaiopbdbnellhaaPsz
namespace Go.OAI
set_option linter.unusedVariables false
noncomputable section

theorem SearchPlan_law (x0 : DJob) (x1 : Int) (w0 : TJob.wf x0) (w1 : (Ty.int .i64).wf x1) : laws_FnExactSearchPlan x0 x1 = some true := by
  unfold laws_FnExactSearchPlan laws_FnExactSearchPlanK
  refine job_head x0 w0 fun s y1 hy0 hy1 => ?_
  obtain ⟨v, h1, h2, h3⟩ : ∃ v, impl_SearchPlan x0 x1 = some v ∧ spec_SearchPlan x0 x1 = some v ∧ v.1.2.length ≤ 1048576 := by
    rcases SearchPlan_both x0 s x1 with ⟨g1, g2⟩ | ⟨g0, g1, g2, g3, g4⟩
    · exact ⟨_, g1, g2, by simp⟩
    · obtain ⟨S, _⟩ := searchB_spec g0
      have hb := done_best S.per.1 (j := x0) x1
      refine ⟨_, g3, g4, ?_⟩
      show (done x0 x1).best.length ≤ 1048576
      have := hb.len; have := S.n12; omega
  obtain ⟨⟨c, w⟩, a, b, ok⟩ := v
  dsimp only at h3
  obtain ⟨k', m1, m2, m3⟩ := markJob_ok x0 s 1 (by omega) (by omega)
  obtain ⟨l2, o1, o2, o3⟩ := markPlan_ok c w h3 1 (by omega) (by omega)
  have c1 : ¬ k' < 0 := by omega
  have c2 : ¬ 1 + (w.length : Int) < 0 := by omega
  have er := eqPlan_refl (c, w, ()) h3
  simp only [toJob_ok x0 s, Option.bind_some, jobEta, h1, h2, er, eqJob_refl x0 s, m1, o1, o3, c1, c2]
  simp
end
end Go.OAI
