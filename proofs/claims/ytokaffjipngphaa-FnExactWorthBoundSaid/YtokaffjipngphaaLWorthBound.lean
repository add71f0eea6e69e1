/- WorthBound: the law in plain words. -/
import Derived.Test.YtokaffjipngphaaPbp
namespace Go.OAI
set_option linter.unusedVariables false
noncomputable section

theorem WorthBound_law (x0 : DJob) (w0 : TJob.wf x0) : laws_FnExactWorthBound x0 = some true := by
  unfold laws_FnExactWorthBound laws_FnExactWorthBoundK
  refine job_head x0 w0 fun s y1 hy0 hy1 => ?_
  obtain ⟨v, h1, h2⟩ : ∃ v, impl_WorthBound x0 = some v ∧ spec_WorthBound x0 = some v := by
    unfold impl_WorthBound impl_WorthBoundK spec_WorthBound spec_WorthBoundK
    rw [IsJob_ok x0 s, plJob_ok x0 s]
    cases hj : jobB x0 with
    | false => exact ⟨_, rfl, rfl⟩
    | true =>
      have J := jobB_spec hj
      obtain ⟨v, g1, L, g2, g3⟩ := best_both s hj
      have hp := J.per
      have hd := J.den
      have hm := J.num
      have p1 := impl_power_ok x0.2.2.2.2.2.2.1 (by omega) (by omega) (x0.2.2.2.2.1 - 1).toNat (by omega)
      have p2 := spec_srPower_ok x0.2.2.2.2.2.2.1 (by omega) (by omega) (x0.2.2.2.2.1 - 1).toNat (by omega)
      have e : (((x0.2.2.2.2.1 - 1).toNat : Nat) : Int) = x0.2.2.2.2.1 - 1 := by omega
      rw [e] at p1 p2
      have w : IntKind.i64.wrap (x0.2.2.2.2.1 - 1) = x0.2.2.2.2.1 - 1 := wr (by omega) (by omega)
      simp only [Bool.not_true, cond_false, Option.bind_some]
      unfold spec_woScale spec_woScaleK
      rw [w, g1, g2]
      simp only [Option.bind_some]
      rw [g3, p1, p2]
      exact ⟨_, rfl, rfl⟩
  obtain ⟨n, ok⟩ := v
  simp only [toJob_ok x0 s, Option.bind_some, jobEta, h1, h2, eqJob_refl x0 s]
  simp
end
end Go.OAI
