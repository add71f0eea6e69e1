/- GradeRange: the law in plain words. -/
import Derived.Test.YtjidcahgobilhaaPeg
namespace Go.OAI
set_option linter.unusedVariables false
noncomputable section

theorem GradeRange_law (x0 : List DWanted) (x1 : Int) (w0 : (Ty.slice TWanted).wf x0) (w1 : (Ty.int .i64).wf x1) : laws_FnExactGradeRange x0 x1 = some true := by
  unfold laws_FnExactGradeRange laws_FnExactGradeRangeK
  refine bins_head x0 w0 fun hl y hy0 hy1 => ?_
  obtain ⟨v, h1, h2⟩ : ∃ v, impl_GradeRange x0 x1 = some v ∧ spec_GradeRange x0 x1 = some v := by
    unfold impl_GradeRange impl_GradeRangeK spec_GradeRange spec_GradeRangeK
    rw [AreBins_ok x0 hl, blBins_ok x0 hl, l1InB]
    cases hb : binsB x0 with
    | false => exact ⟨_, rfl, rfl⟩
    | true =>
      have O := bins_spec hb
      simp only [Bool.not_true, cond_false, Option.bind_some, dec_lt, dec_gt]
      by_cases c1 : 0 ≤ x1
      · by_cases c2 : x1 ≤ 12
        · obtain ⟨u, rfl⟩ : ∃ u : Nat, x1 = (u : Int) := ⟨x1.toNat, by omega⟩
          have hu : u ≤ 12 := by omega
          have k1 := eachParts2_ok O hu (-1, -1)
          have k2 := blEdge_ok hb (k := 1) (.inl rfl) hu
          have hr : Rel2 ((allP x0 u).foldl (fun s q => gra s (bsum (sk 1) q x0)) (-1, -1)) ((allP x0 u).foldl (fun s q => edg s (bsum (sk 1) q x0)) (0, 0, false)) :=
            Rel2.fold (fun q => bsum (sk 1) q x0) _ (val_pos O) (.inl ⟨rfl, rfl, rfl⟩)
          rw [show ((1 : Nat) : Int) = 1 from rfl] at k2
          dsimp only at k1
          rw [k1, k2]
          generalize (allP x0 u).foldl (fun s q => gra s (bsum (sk 1) q x0)) (-1, -1) = s at hr
          generalize (allP x0 u).foldl (fun s q => edg s (bsum (sk 1) q x0)) (0, 0, false) = e at hr
          simp only [c1, c2, decide_true, Bool.not_true, cond_false, Bool.and_self, Option.bind_some]
          rcases hr with ⟨q1, q2, q3⟩ | ⟨q1, q2, q3, q4⟩
          · subst q2; subst q3
            exact ⟨_, rfl, rfl⟩
          · obtain ⟨lo, hh, ok⟩ := e
            dsimp only at q1 q2
            subst q1; subst q2
            dsimp only at q3
            refine ⟨_, ?_, rfl⟩
            simp [q3]
        · simp only [c1, c2, decide_true, decide_false, Bool.not_true, Bool.not_false, cond_false, cond_true, Bool.and_false]
          exact ⟨_, rfl, rfl⟩
      · simp only [c1, decide_false, Bool.not_false, cond_true, Bool.false_and]
        exact ⟨_, rfl, rfl⟩
  obtain ⟨n, n2, ok⟩ := v
  simp only [toBinS_ok x0 (by omega), Option.bind_some, h1, h2, eqBinS_refl x0 (by omega)]
  simp
end
end Go.OAI
