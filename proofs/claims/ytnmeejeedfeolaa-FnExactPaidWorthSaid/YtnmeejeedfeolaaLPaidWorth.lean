/- PaidWorth: the law in plain words. -/
import Derived.Test.YtnmeejeedfeolaaPs
import Derived.Test.YtnmeejeedfeolaaPM
import Derived.Test.YtnmeejeedfeolaaPt
import Derived.Test.YtnmeejeedfeolaaGPaidWorth
namespace Go.OAI
set_option linter.unusedVariables false
noncomputable section

theorem paid_loops (m : List Int) (c : Int) (n : Nat) (hn : n ≤ 6) (hm : m.length = n) (f : Nat → Int × Int) : ∀ i, i ≤ n → ∀ a : Int, ∃ v,
    impl_paidWorth_l0 m (n : Int) c (tab n f) a (i : Int) = some v ∧ spec_rePaid_l0 m (n : Int) c (tab n f) a (i : Int) = some v := by
  refine down (fun a => ?_) fun i hi ih a => ?_
  · rw [impl_paidWorth_l0_eq, spec_rePaid_l0_eq]; unfold impl_paidWorth_l0K spec_rePaid_l0K
    rw [lt_out (Nat.le_refl _), lt_out (Nat.le_refl _)]
    exact ⟨a, rfl, rfl⟩
  · rw [impl_paidWorth_l0_eq, spec_rePaid_l0_eq]; unfold impl_paidWorth_l0K spec_rePaid_l0K
    have hm' : i < m.length := by omega
    rw [lt_in hi, lt_in hi, ck_in (by rw [tab_len]; exact hi), ck_in (by rw [tab_len]; exact hi), lat_nat hm', wr_succ hi (by omega), tab_get hi]
    simp only [Option.bind_some]
    have l0 : (0 : Int) < (([(f i).1, (f i).2] : List Int).length : Int) := by simp
    simp only [l0, decide_true, cond_true]
    exact ih _
theorem PaidWorth_law (x0 : DJob) (x1 : List Int) (x2 : DPlan) (w0 : TJob.wf x0) (w1 : (Ty.slice (.int .i64)).wf x1) (w2 : TPlan.wf x2) : laws_FnExactPaidWorth x0 x1 x2 = some true := by
  unfold laws_FnExactPaidWorth laws_FnExactPaidWorthK
  by_cases hb : (x1.length : Int) > 1048576
  · simp [hb]
  · have hx1 : x1.length ≤ 1048576 := by omega
    simp only [hb, decide_false, cond_false]
    refine job_head x0 w0 fun s y1 hy0 hy1 => plan_head x2 w2 y1 hy0 hy1 fun hl y2 _ _ => ?_
    obtain ⟨v, h1, h2⟩ : ∃ v, impl_PaidWorth x0 x1 x2 = some v ∧ spec_PaidWorth x0 x1 x2 = some v := by
      unfold impl_PaidWorth impl_PaidWorthK spec_PaidWorth spec_PaidWorthK
      rw [IsJob_ok x0 s, isPlan_ok x0 x2 hl, areMultipliers_ok x0 x1 (by omega), reGood_ok x0 s x1 (by omega)]
      cases hj : jobB x0 with
      | false => exact ⟨_, rfl, rfl⟩
      | true =>
        rw [plGood_ok x0 x2 hl hj]
        cases hm : mulB x0 x1 with
        | false => exact ⟨_, rfl, rfl⟩
        | true =>
          cases hp : planB x0 x2 with
          | false => exact ⟨_, rfl, rfl⟩
          | true =>
            have J := jobB_spec hj
            have Q := planB_spec hp
            have M := mulB_spec hm
            have hper := J.per
            have hlen := Q.len
            have hml := M.len
            have e2 : x0.2.2.2.2.1 = ((x0.2.2.2.2.1.toNat : Nat) : Int) := by omega
            obtain ⟨v, g1, g2⟩ := paid_loops x1 x0.2.2.2.1.1 x0.2.2.2.2.1.toNat (by omega) (by omega) (fun t => ton (zip3 x2.2.1 x0.2.1 x0.2.2.1) (t : Int)) 0 (Nat.zero_le _) (worth x0 x2.2.1 x0.2.2.1)
            have tl : (tonnes x0 x2).length = x0.2.2.2.2.1.toNat := tab_len _ _
            unfold impl_paidWorth impl_paidWorthK spec_rePaid spec_rePaidK
            rw [scaledWorth_ok x0 x2 J Q, srWorth_ok x0 x2.2.1 J (by omega) (fun t ht => (Q.w t ht).2), tonnesIn_ok x0 x2 J Q, plTonnes_ok x0 x2 J Q]
            have g1 : impl_paidWorth_l0 x1 ((tonnes x0 x2).length : Int) x0.2.2.2.1.1 (tonnes x0 x2) (worth x0 x2.2.1 x0.2.2.1) 0 = some v := by rw [tl]; exact g1
            have g2 : spec_rePaid_l0 x1 ((tonnes x0 x2).length : Int) x0.2.2.2.1.1 (tonnes x0 x2) (worth x0 x2.2.1 x0.2.2.1) 0 = some v := by rw [tl]; exact g2
            simp only [Bool.not_true, cond_false, Option.bind_some, Bool.and_self, g1, g2]
            exact ⟨_, rfl, rfl⟩
    simp only [toJob_ok x0 s, toPlan_ok x2 hl, toIntS_ok x1 (by omega), Option.bind_some, jobEta, planEta, h1, h2, eqJob_refl x0 s, eqPlan_refl x2 hl, eqIntS_refl x1 (by omega)]
    simp
end
end Go.OAI
