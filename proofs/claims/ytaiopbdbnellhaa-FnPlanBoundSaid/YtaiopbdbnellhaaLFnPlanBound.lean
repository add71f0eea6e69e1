/- FnPlanBound: the law in plain words. -/
import Derived.Test.YtaiopbdbnellhaaPsb
namespace Go.OAI
set_option linter.unusedVariables false
noncomputable section

theorem FnPlanBound_law (x0 : DJob) (x1 : Int) (x2 : DPlan) (w0 : TJob.wf x0) (w1 : (Ty.int .i64).wf x1) (w2 : TPlan.wf x2) : laws_FnPlanBound x0 x1 x2 = some true := by
  obtain ⟨v1, v2, v3, _⟩ := w0
  have sw : JobWf x0 := ⟨v1.1, fun r hr => (v1.2 r hr).1, v2.1, v3.1⟩
  unfold laws_FnPlanBound laws_FnPlanBoundK
  by_cases c1 : (x2.2.1.length : Int) > 65536
  · simp [c1]
  · by_cases c2 : (x0.1.length : Int) > 65536
    · simp [c2]
    · have hl : x2.2.1.length ≤ 1048576 := by omega
      simp only [c1, c2, decide_false, cond_false]
      rcases SearchPlan_both x0 sw x1 with ⟨g1, g2⟩ | ⟨g0, h1, h2, g1, g2⟩
      · rw [g1, g2]
        have := pSamePlan_refl (0, [], ()) (by simp)
        simp only [Option.bind_some, this]
        simp
      · obtain ⟨S, hjb⟩ := searchB_spec g0
        have J := S.toJobOk
        have n12 := S.n12
        have F := done_feas J x1
        have hbl : (done x0 x1).best.length ≤ 1048576 := by have := F.len; omega
        have hpb := planB_of F.w F.len
        have hfe := (feas_okp J F.w F.len).2 F.okp
        simp only [feasB, Bool.and_eq_true] at hfe
        obtain ⟨F1, f1, f2⟩ := OrderFaults_ok x0 (x0.2.2.2.2.1, (done x0 x1).best, ()) hjb hbl
        obtain ⟨F2, f3, f4⟩ := OverLimits_ok x0 (x0.2.2.2.2.1, (done x0 x1).best, ()) hjb hbl
        have f5 := ScaledWorth_ok x0 (x0.2.2.2.2.1, (done x0 x1).best, ()) g0 hbl
        rw [hpb] at f1 f2 f3 f4 f5
        have e1 : F1 = [] := by have := f2 rfl; rw [hfe.1] at this; exact of_decide_eq_true this
        have e2 : F2 = [] := by have := f4 rfl; rw [hfe.2] at this; exact of_decide_eq_true this
        subst e1 e2
        obtain ⟨G1, k1, k2⟩ := OrderFaults_ok x0 x2 hjb hl
        obtain ⟨G2, k3, k4⟩ := OverLimits_ok x0 x2 hjb hl
        have k5 := ScaledWorth_ok x0 x2 g0 hl
        have hval := F.val
        have hle : ¬ (done x0 x1).worth > (planOut x0 x1).2.2.1 := by
          show ¬ (done x0 x1).worth > if (done x0 x1).opn > (done x0 x1).worth then (done x0 x1).opn else (done x0 x1).worth
          split <;> omega
        have hs := pSamePlan_refl (x0.2.2.2.2.1, (done x0 x1).best, ()) (by show (done x0 x1).best.length ≤ _; omega)
        rw [g1, g2]
        simp only [Option.bind_some]
        show (cond (!((true : Bool) == true)) _ _) = _
        simp only [beq_self_eq_true, Bool.not_true, cond_false, planOut]
        rw [hs]
        simp only [Option.bind_some, Bool.not_true, cond_false, bne_self_eq_false]
        rw [f1, f3, f5]
        have hle' : ¬ (done x0 x1).worth > (if (done x0 x1).opn > (done x0 x1).worth then (done x0 x1).opn else (done x0 x1).worth) := hle
        simp only [Option.bind_some, Bool.not_true, cond_false, if_true, ← hval, bne_self_eq_false, List.length_nil, hle', decide_false, k1, k3, k5]
        have z : ((((0 : Nat) : Int)) != 0) = false := rfl
        simp only [z, cond_false]
        cases hp : planB x0 x2 with
        | false => rfl
        | true =>
          have Q := planB_spec hp
          have W2 : WOk x0 x2.2.1 := ⟨by have := Q.len; omega, Q.w⟩
          have lb : ∀ {α : Type} (L : List α), (((L.length : Nat) : Int) != 0) = !decide (L = []) := fun L => by
            show (!(((L.length : Nat) : Int) == 0)) = _
            rw [len_beq]
          simp only [Bool.not_true, cond_false, lb, k2 hp, k4 hp, if_true]
          cases ho : ordB x0 x2.2.1 with
          | false => rfl
          | true =>
            cases hc : capB x0 x2.2.1 with
            | false => rfl
            | true =>
              have O2 := (feas_okp J W2 Q.len).1 (by simp [feasB, ho, hc])
              have := done_bound J x1 W2 O2 Q.len
              have this : worth x0 x2.2.1 x0.2.2.1 ≤ (if (done x0 x1).opn > (done x0 x1).worth then (done x0 x1).opn else (done x0 x1).worth) := this
              simp [this]
end
end Go.OAI
