/- DeepestDebt: the law in plain words. -/
import Derived.Test.YtnmeejeedfeolaaPs
import Derived.Test.YtnmeejeedfeolaaGDeepestDebt
namespace Go.OAI
set_option linter.unusedVariables false
noncomputable section

theorem debt_loops (L : List Int) (h : Bd 384000000000000 L) (hn : L.length ≤ 6) : ∀ i, i ≤ L.length → ∀ d : Int, -9000000000000000 ≤ d → d ≤ 0 →
    ∃ v : Int, impl_DeepestDebt_l0 (L.length : Int) L (pre L i) (-d) i = some (-v) ∧ spec_DeepestDebt_l0 ((sums L).length : Int) (sums L) d i = some v ∧ -9000000000000000 ≤ v ∧ v ≤ 0 := by
  refine down (fun d h1 h2 => ?_) fun i hi ih d h1 h2 => ?_
  · rw [impl_DeepestDebt_l0_eq, spec_DeepestDebt_l0_eq]; unfold impl_DeepestDebt_l0K spec_DeepestDebt_l0K
    rw [lt_out (Nat.le_refl _), lt_out (by rw [sums_len]; exact Nat.le_refl _)]
    exact ⟨d, rfl, rfl, h1, h2⟩
  · have hs := pre_small h hn (i := i + 1) (by omega)
    have hi' : i < (sums L).length := by rw [sums_len]; exact hi
    rw [impl_DeepestDebt_l0_eq, spec_DeepestDebt_l0_eq]; unfold impl_DeepestDebt_l0K spec_DeepestDebt_l0K
    rw [lt_in hi, ck_in hi, getD_nat hi, wr_succ hi (by omega), lt_in hi', ck_in hi', getD_nat hi', sums_get hi']
    have e := pre_succ hi
    rw [wr (n := pre L i + L[i]) (by omega) (by omega), ← e, wr (n := 0 - pre L (i + 1)) (by omega) (by omega)]
    unfold spec_l1Least spec_l1LeastK
    by_cases c : d < pre L (i + 1)
    · have c' : ¬ 0 - pre L (i + 1) > -d := by omega
      simp only [c, decide_true, cond_true, Option.bind_some, c', if_false]
      exact ih d h1 h2
    · simp only [c, decide_false, cond_false, Option.bind_some]
      have e2 : (if 0 - pre L (i + 1) > -d then 0 - pre L (i + 1) else -d) = -(pre L (i + 1)) := by split <;> omega
      rw [e2]
      exact ih _ (by omega) (by omega)
theorem DeepestDebt_law (x0 : DJob) (x1 : DPlan) (w0 : TJob.wf x0) (w1 : TPlan.wf x1) : laws_FnExactDeepestDebt x0 x1 = some true := by
  unfold laws_FnExactDeepestDebt laws_FnExactDeepestDebtK
  refine job_head x0 w0 fun s y1 hy0 hy1 => plan_head x1 w1 y1 hy0 hy1 fun hl y2 _ _ => ?_
  obtain ⟨v, h1, h2⟩ : ∃ v, impl_DeepestDebt x0 x1 = some v ∧ spec_DeepestDebt x0 x1 = some v := by
    unfold impl_DeepestDebt impl_DeepestDebtK spec_DeepestDebt spec_DeepestDebtK
    rw [IsJob_ok x0 s, isPlan_ok x0 x1 hl, plBoth_ok x0 x1 s hl]
    cases hj : jobB x0 with
    | false => exact ⟨_, rfl, rfl⟩
    | true =>
      cases hp : planB x0 x1 with
      | false => exact ⟨_, rfl, rfl⟩
      | true =>
        have J := jobB_spec hj
        have Q := planB_spec hp
        have hb := pws_bound J Q
        have hn : (pws x0 x1).length ≤ 6 := by rw [pws_len]; have := J.per; omega
        rw [impl_periodWorths_ok x0 x1 J Q, spec_woPeriods_ok x0 x1 J Q]
        obtain ⟨v, g1, g2, g3, g4⟩ := debt_loops (pws x0 x1) hb hn 0 (Nat.zero_le _) 0 (by omega) (by omega)
        rw [pre_zero] at g1
        have g1 : impl_DeepestDebt_l0 ((pws x0 x1).length : Int) (pws x0 x1) 0 0 0 = some (-v) := g1
        have g2 : spec_DeepestDebt_l0 ((sums (pws x0 x1)).length : Int) (sums (pws x0 x1)) 0 0 = some v := g2
        simp only [Bool.not_true, cond_false, Option.bind_some, Bool.and_self, woSums_ok _ hb hn, g1, g2]
        rw [wr (by omega) (by omega)]
        refine ⟨(-v, true), rfl, ?_⟩
        simp
  simp only [toJob_ok x0 s, toPlan_ok x1 hl, Option.bind_some, jobEta, planEta, h1, h2, eqJob_refl x0 s, eqPlan_refl x1 hl]
  simp
end
end Go.OAI
