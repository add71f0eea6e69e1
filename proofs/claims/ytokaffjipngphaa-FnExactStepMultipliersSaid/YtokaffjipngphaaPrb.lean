/- Bounds and excess of the relaxed plan: both sides say the same. -/
import Derived.Test.YtokaffjipngphaaPreq
import Derived.Test.YtokaffjipngphaaPt
import Derived.Test.YtokaffjipngphaaGRb
namespace Go.OAI
set_option linter.unusedVariables false
noncomputable section
variable {j : DJob} {l : List Int}

theorem paid_both (m : List Int) (c : Int) (n : Nat) (hn : n ≤ 6) (hm : m.length = n) (f : Nat → Int × Int) : ∀ i, i ≤ n → ∀ a : Int, ∃ v,
    impl_paidWorth_l0 m (n : Int) c (tab n f) a (i : Int) = some v ∧ spec_rePaid_l0 m (n : Int) c (tab n f) a (i : Int) = some v := by
  refine down (fun a => ?_) fun i hi ih a => ?_
  · rw [impl_paidWorth_l0_eq, spec_rePaid_l0_eq]; unfold impl_paidWorth_l0K spec_rePaid_l0K
    rw [lt_out (Nat.le_refl _), lt_out (Nat.le_refl _)]
    exact ⟨a, rfl, rfl⟩
  · rw [impl_paidWorth_l0_eq, spec_rePaid_l0_eq]; unfold impl_paidWorth_l0K spec_rePaid_l0K
    have hm' : i < m.length := by omega
    rw [lt_in hi, lt_in hi, ck_in (by rw [tab_len]; exact hi), ck_in (by rw [tab_len]; exact hi), lat_nat hm', wr_succ hi (by omega), tab_get hi]
    simp only [Option.bind_some]
    have l0 : (0 : Int) < (([(f i).1, (f i).2] : List Int).length : Int) := by simp
    simp only [l0, decide_true, cond_true]
    exact ih _
theorem paid_ok (J : JobOk j) (M : MulOk j l) {p : DPlan} (Q : PlanOk j p) : ∃ v, impl_paidWorth j l p = some v ∧ spec_rePaid j l p = some v := by
  obtain ⟨p1, p2, p3⟩ := nP_int J
  have hlen := Q.len
  have hml := M.len
  obtain ⟨v, g1, g2⟩ := paid_both l j.2.2.2.1.1 j.2.2.2.2.1.toNat (by omega) (by omega) (fun t => ton (zip3 p.2.1 j.2.1 j.2.2.1) (t : Int)) 0 (Nat.zero_le _) (worth j p.2.1 j.2.2.1)
  have tl : (tonnes j p).length = j.2.2.2.2.1.toNat := tab_len _ _
  refine ⟨v, ?_, ?_⟩
  · unfold impl_paidWorth impl_paidWorthK
    rw [scaledWorth_ok j p J Q, tonnesIn_ok j p J Q]
    have g1 : impl_paidWorth_l0 l ((tonnes j p).length : Int) j.2.2.2.1.1 (tonnes j p) (worth j p.2.1 j.2.2.1) 0 = some v := by rw [tl]; exact g1
    simp only [Option.bind_some, g1]
  · unfold spec_rePaid spec_rePaidK
    rw [srWorth_ok j p.2.1 J (by omega) (fun t ht => (Q.w t ht).2), plTonnes_ok j p J Q]
    have g2 : spec_rePaid_l0 l ((tonnes j p).length : Int) j.2.2.2.1.1 (tonnes j p) (worth j p.2.1 j.2.2.1) 0 = some v := by rw [tl]; exact g2
    simp only [Option.bind_some, g2]
/-- The bound: the paid worth of the relaxed plan. -/
theorem bound_ok (J : JobOk j) (M : MulOk j l) : ∃ v W, impl_relaxedPlan j l = some (j.2.2.2.2.1, W) ∧ impl_paidWorth j l (j.2.2.2.2.1, (W, ())) = some v ∧ spec_reBound j l = some v := by
  obtain ⟨W, h1, h2, h3⟩ := relaxed_ok J M
  obtain ⟨v, g1, g2⟩ := paid_ok J M h3
  refine ⟨v, W, h1, g1, ?_⟩
  unfold spec_reBound spec_reBoundK
  simp only [h2, Option.bind_some, g2]
theorem excess_loops (c : Int) (n : Nat) (hn : n ≤ 6) (f : Nat → Int × Int) : ∀ i, i ≤ n → ∀ a : List Int, a.length = i → ∃ v : List Int,
    impl_excessOf_l0 (n : Int) c (tab n f) (i : Int) a = some v ∧ spec_reExcess_l0 (n : Int) c (tab n f) (i : Int) a = some v ∧ v.length = n := by
  refine down (fun a ha => ?_) fun i hi ih a ha => ?_
  · rw [impl_excessOf_l0_eq, spec_reExcess_l0_eq]; unfold impl_excessOf_l0K spec_reExcess_l0K
    rw [lt_out (Nat.le_refl _), lt_out (Nat.le_refl _)]
    exact ⟨a, rfl, rfl, ha⟩
  · rw [impl_excessOf_l0_eq, spec_reExcess_l0_eq]; unfold impl_excessOf_l0K spec_reExcess_l0K
    rw [lt_in hi, lt_in hi, ck_in (by rw [tab_len]; exact hi), ck_in (by rw [tab_len]; exact hi), wr_succ hi (by omega), tab_get hi]
    have l0 : (0 : Int) < (([(f i).1, (f i).2] : List Int).length : Int) := by simp
    have c0 : ∀ x : Int, decide (a.length + [x].length ≤ 1099511627776) = true := fun x => decide_eq_true (by simp only [List.length_singleton]; omega)
    simp only [l0, decide_true, cond_true, c0, Option.bind_some]
    exact ih _ (by simp [ha])
theorem excess_ok (J : JobOk j) (M : MulOk j l) : ∃ v : List Int, impl_excessOf j l = some v ∧ spec_reExcess j l = some v ∧ v.length = nP j := by
  obtain ⟨p1, p2, p3⟩ := nP_int J
  obtain ⟨W, h1, h2, h3⟩ := relaxed_ok J M
  obtain ⟨v, g1, g2, g3⟩ := excess_loops j.2.2.2.1.1 j.2.2.2.2.1.toNat (by omega) (fun t => ton (zip3 (j.2.2.2.2.1, (W, ())).2.1 j.2.1 j.2.2.1) (t : Int)) 0 (Nat.zero_le _) [] rfl
  have tl : (tonnes j (j.2.2.2.2.1, (W, ()))).length = j.2.2.2.2.1.toNat := tab_len _ _
  refine ⟨v, ?_, ?_, g3⟩
  · unfold impl_excessOf impl_excessOfK
    have g1 : impl_excessOf_l0 ((tonnes j (j.2.2.2.2.1, (W, ()))).length : Int) j.2.2.2.1.1 (tonnes j (j.2.2.2.2.1, (W, ()))) 0 [] = some v := by rw [tl]; exact g1
    simp only [h1, Option.bind_some]
    rw [tonnesIn_ok j _ J h3]
    simp only [Option.bind_some, g1]
  · unfold spec_reExcess spec_reExcessK
    have g2 : spec_reExcess_l0 ((tonnes j (j.2.2.2.2.1, (W, ()))).length : Int) j.2.2.2.1.1 (tonnes j (j.2.2.2.2.1, (W, ()))) 0 [] = some v := by rw [tl]; exact g2
    simp only [h2, Option.bind_some]
    rw [plTonnes_ok j _ J h3]
    simp only [Option.bind_some, g2]
end
end Go.OAI
