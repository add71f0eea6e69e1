/- ExcessOf: the law in plain words. -/
import Derived.Test.YtokaffjipngphaaPrb
import Derived.Test.YtokaffjipngphaaGExcessOf
namespace Go.OAI
set_option linter.unusedVariables false
noncomputable section

theorem ExcessOf_law (x0 : DJob) (x1 : List Int) (w0 : TJob.wf x0) (w1 : (Ty.slice (.int .i64)).wf x1) : laws_FnExactExcessOf x0 x1 = some true := by
  unfold laws_FnExactExcessOf laws_FnExactExcessOfK
  by_cases hb : (x1.length : Int) > 1048576
  · simp [hb]
  · have hx1 : x1.length ≤ 1048576 := by omega
    simp only [hb, decide_false, cond_false]
    refine job_head x0 w0 fun s y1 hy0 hy1 => ?_
    obtain ⟨v, h1, h2, h3⟩ : ∃ v, impl_ExcessOf x0 x1 = some v ∧ spec_ExcessOf x0 x1 = some v ∧ v.1.length ≤ 1048576 := by
      unfold impl_ExcessOf impl_ExcessOfK spec_ExcessOf spec_ExcessOfK
      rw [IsJob_ok x0 s, areMultipliers_ok x0 x1 (by omega), reGood_ok x0 s x1 (by omega)]
      cases hj : jobB x0 with
      | false => exact ⟨_, rfl, rfl, by simp⟩
      | true =>
        cases hm : mulB x0 x1 with
        | false => exact ⟨_, rfl, rfl, by simp⟩
        | true =>
          have J := jobB_spec hj
          obtain ⟨v, g1, g2, g3⟩ := excess_ok J (mulB_spec hm)
          obtain ⟨p1, p2, p3⟩ := nP_int J
          simp only [Bool.not_true, cond_false, Option.bind_some, Bool.and_self, g1, g2]
          exact ⟨_, rfl, rfl, by show v.length ≤ _; omega⟩
    obtain ⟨w, ok⟩ := v
    dsimp only at h3
    obtain ⟨k', m1, m2, m3⟩ := markJob_ok x0 s 1 (by omega) (by omega)
    obtain ⟨l', n1, n2, n3⟩ := markIntS_ok x1 (by omega) k' (by omega) (by omega)
    obtain ⟨l2, o1, o2, o3⟩ := markIntS_ok w (by omega) 1 (by omega) (by omega)
    have c1 : ¬ k' + (x1.length : Int) < 0 := by omega
    have c2 : ¬ 1 + (w.length : Int) < 0 := by omega
    simp only [toJob_ok x0 s, toIntS_ok x1 (by omega), Option.bind_some, jobEta, h1, h2, eqIntS_refl w (by omega), eqJob_refl x0 s, eqIntS_refl x1 (by omega), m1, n1, o1, o3, c1, c2]
    simp
end
end Go.OAI
