/- IsWanted: the law in plain words. -/
import Derived.Test.YtjidcahgobilhaaP0
import Derived.Test.YtjidcahgobilhaaGIsWanted
namespace Go.OAI
set_option linter.unusedVariables false
noncomputable section

theorem IsWanted_law (x0 : DWanted) (w0 : TWanted.wf x0) : laws_FnExactIsWanted x0 = some true := by
  obtain ⟨v, h1, h2⟩ : ∃ v, impl_IsWanted x0 = some v ∧ spec_IsWanted x0 = some v := by
    unfold impl_IsWanted impl_IsWantedK spec_IsWanted spec_IsWantedK spec_blWanted spec_blWantedK spec_l1In spec_l1InK
    simp only [dec_ge]
    by_cases c1 : 1 ≤ x0.1 <;> by_cases c2 : x0.1 ≤ 12 <;> by_cases c3 : 0 ≤ x0.2.1 <;> by_cases c4 : x0.2.1 ≤ x0.2.2.1 <;> by_cases c5 : x0.2.2.1 ≤ 1000 <;> by_cases c6 : 0 ≤ x0.2.2.2.1 <;> by_cases c7 : x0.2.1 ≤ 1000 <;>
      first
        | (simp [c1, c2, c3, c4, c5, c6, c7]; done)
        | (exfalso; omega)
  unfold laws_FnExactIsWanted laws_FnExactIsWantedK laws_toWanted laws_toWantedK
  simp [h1, h2]
end
end Go.OAI
