/- BlendSums: the law in plain words. -/
import Derived.Test.YtjidcahgobilhaaPbl
namespace Go.OAI
set_option linter.unusedVariables false
noncomputable section

theorem BlendSums_law (x0 : List DWanted) (x1 : List Int) (w0 : (Ty.slice TWanted).wf x0) (w1 : (Ty.slice (.int .i64)).wf x1) : laws_FnExactBlendSums x0 x1 = some true := by
  unfold laws_FnExactBlendSums laws_FnExactBlendSumsK
  by_cases hx : (x1.length : Int) > 1048576
  · simp [hx]
  simp only [hx, decide_false, cond_false]
  have hl1 : x1.length ≤ 1048576 := by omega
  refine bins_head x0 w0 fun hl y hy0 hy1 => ?_
  obtain ⟨v, h1, h2⟩ : ∃ v, impl_BlendSums x0 x1 = some v ∧ spec_BlendSums x0 x1 = some v := by
    unfold impl_BlendSums impl_BlendSumsK spec_BlendSums spec_BlendSumsK
    rw [AreBins_ok x0 hl, areParts_ok x0 x1 hl1, blParts_ok x0 x1 hl hl1]
    cases hb : binsB x0 with
    | false => exact ⟨_, rfl, rfl⟩
    | true =>
      cases hp : partsB x0 x1 with
      | false => exact ⟨_, rfl, rfl⟩
      | true =>
        have O := parts_spec hb hp
        rw [proSums_ok O, refSums_ok O]
        exact ⟨_, rfl, rfl⟩
  simp only [toBinS_ok x0 (by omega), toInts_ok x1 (by omega), Option.bind_some, h1, h2, eqBinS_refl x0 (by omega), eqInts_refl x1 (by omega)]
  simp
end
end Go.OAI
