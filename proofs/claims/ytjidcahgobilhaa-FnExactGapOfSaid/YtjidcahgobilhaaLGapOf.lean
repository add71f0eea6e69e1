/- GapOf: the law in plain words. -/
import Derived.Test.YtjidcahgobilhaaPfr
import Derived.Test.YtjidcahgobilhaaGGapOf
namespace Go.OAI
set_option linter.unusedVariables false
noncomputable section

theorem GapOf_law (x0 x1 : Int) (w0 : (Ty.int .i64).wf x0) (w1 : (Ty.int .i64).wf x1) : laws_FnExactGapOf x0 x1 = some true := by
  obtain ⟨v, h1, h2⟩ : ∃ v, impl_GapOf x0 x1 = some v ∧ spec_GapOf x0 x1 = some v := by
    unfold impl_GapOf impl_GapOfK spec_GapOf spec_GapOfK spec_l1In spec_l1InK
    simp only [dec_lt, dec_gt, dec_ge, beq_dec]
    by_cases c1 : 0 ≤ x0 <;> by_cases c2 : x0 ≤ x1 <;> by_cases c3 : x1 ≤ 1000000000000000
    · have c4 : 0 ≤ x1 := by omega
      by_cases c5 : x1 = 0
      · simp [c1, c2, c3, c4, c5]
        have c6 : x0 = 0 := by omega
        simp [c6]
      · rw [wr (by omega) (by omega)]
        obtain ⟨v, g1, g2⟩ := lowest_moPart (x1 - x0) x1 (by omega) (by omega) (by omega)
        refine ⟨(v.1, v.2, true), ?_, ?_⟩ <;> simp [c1, c2, c3, c4, c5, g1, g2]
    all_goals
      refine ⟨(0, 0, false), ?_, ?_⟩
      · simp [c1, c2, c3]
      · by_cases c4 : 0 ≤ x1 <;> simp [c1, c2, c3, c4]
  unfold laws_FnExactGapOf laws_FnExactGapOfK
  rw [h1, h2]
  simp
end
end Go.OAI
