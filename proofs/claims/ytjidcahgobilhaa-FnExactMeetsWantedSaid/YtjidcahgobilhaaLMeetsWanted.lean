/- MeetsWanted: the law in plain words. -/
import Derived.Test.YtjidcahgobilhaaPbl
import Derived.Test.YtjidcahgobilhaaGMeetsWanted
namespace Go.OAI
set_option linter.unusedVariables false
noncomputable section

def wantedB (w : DWanted) : Bool := decide (1 ≤ w.1) && (decide (w.1 ≤ 12) && (decide (0 ≤ w.2.1) && (decide (w.2.1 ≤ w.2.2.1) && (decide (w.2.2.1 ≤ 1000) && (decide (0 ≤ w.2.2.2.1) && decide (w.2.2.2.1 ≤ 1000))))))
theorem wanted_ok (x0 : DWanted) : impl_IsWanted x0 = some (wantedB x0) ∧ spec_blWanted x0 = some (wantedB x0) := by
  unfold impl_IsWanted impl_IsWantedK spec_blWanted spec_blWantedK spec_l1In spec_l1InK wantedB
  simp only [dec_ge]
  by_cases c1 : 1 ≤ x0.1 <;> by_cases c2 : x0.1 ≤ 12 <;> by_cases c3 : 0 ≤ x0.2.1 <;> by_cases c4 : x0.2.1 ≤ x0.2.2.1 <;> by_cases c5 : x0.2.2.1 ≤ 1000 <;> by_cases c6 : 0 ≤ x0.2.2.2.1 <;> by_cases c7 : x0.2.1 ≤ 1000 <;>
    first
      | (simp [c1, c2, c3, c4, c5, c6, c7]; done)
      | (exfalso; omega)
theorem MeetsWanted_law (x0 : List DWanted) (x1 : DWanted) (x2 : List Int) (w0 : (Ty.slice TWanted).wf x0) (w1 : TWanted.wf x1) (w2 : (Ty.slice (.int .i64)).wf x2) : laws_FnExactMeetsWanted x0 x1 x2 = some true := by
  unfold laws_FnExactMeetsWanted laws_FnExactMeetsWantedK
  by_cases hx : (x2.length : Int) > 1048576
  · simp [hx]
  simp only [hx, decide_false, cond_false]
  have hl1 : x2.length ≤ 1048576 := by omega
  refine bins_head x0 w0 fun hl y hy0 hy1 => ?_
  obtain ⟨g1, g2⟩ := wanted_ok x1
  obtain ⟨v, h1, h2⟩ : ∃ v, impl_MeetsWanted x0 x1 x2 = some v ∧ spec_MeetsWanted x0 x1 x2 = some v := by
    unfold impl_MeetsWanted impl_MeetsWantedK spec_MeetsWanted spec_MeetsWantedK
    rw [AreBins_ok x0 hl, areParts_ok x0 x2 hl1, blParts_ok x0 x2 hl hl1, g1, g2]
    cases hw : wantedB x1 with
    | false => cases binsB x0 <;> exact ⟨_, rfl, rfl⟩
    | true =>
      cases hb : binsB x0 with
      | false => exact ⟨_, rfl, rfl⟩
      | true =>
        cases hp : partsB x0 x2 with
        | false => exact ⟨_, rfl, rfl⟩
        | true =>
          have O := parts_spec hb hp
          unfold impl_meetsWanted impl_meetsWantedK spec_blMeets spec_blMeetsK spec_l1In spec_l1InK
          rw [proSums_ok O, refSums_ok O]
          generalize bsum s1 x2 x0 = a
          generalize bsum s2 x2 x0 = b
          generalize bsum s3 x2 x0 = c
          have l0 : lat [a, b, c, bsum s4 x2 x0] 0 = some a := rfl
          have l1 : lat [a, b, c, bsum s4 x2 x0] 1 = some b := rfl
          have l2 : lat [a, b, c, bsum s4 x2 x0] 2 = some c := rfl
          simp only [Option.bind_some, Bool.not_true, cond_false, Bool.and_self, l0, l1, l2, dec_ge]
          cases a == x1.1 <;> cases decide (IntKind.i64.wrap (x1.2.1 * x1.1) ≤ b) <;> cases decide (b ≤ IntKind.i64.wrap (x1.2.2.1 * x1.1)) <;> exact ⟨_, rfl, rfl⟩
  simp only [toBinS_ok x0 (by omega), toInts_ok x2 (by omega), Option.bind_some, eqBinS_refl x0 (by omega), eqInts_refl x2 (by omega), laws_toWanted, laws_toWantedK, h1, h2]
  simp
end
end Go.OAI
