/- ClimbPlan: the law in plain words. -/
import Derived.Test.YtnmeejeedfeolaaPbm
import Derived.Test.YtnmeejeedfeolaaGClimbPlan
namespace Go.OAI
set_option linter.unusedVariables false
noncomputable section

theorem climb_loop (j : DJob) (s : JobSm j) (J : JobOk j) (c : Int) (m : Int) (hm : m ≤ 40) : ∀ n : Nat, ∀ k : Int, 0 ≤ k → (m - k).toNat = n → ∀ w : List Int, PlanOk j (c, w, ()) → ∃ r : (Int × Bool × List Int) ⊕ List Int,
    impl_ClimbPlan_l0 m j.1 j.2.1 j.2.2.1 j.2.2.2.1.1 j.2.2.2.1.2.1 j.2.2.2.2.1 j.2.2.2.2.2.1 j.2.2.2.2.2.2.1 c k w = some r ∧ (r.elim (fun y => y.2.2.length) (fun y => y.length)) ≤ 1048576 ∧
    spec_ClimbPlan_l0 m j.1 j.2.1 j.2.2.1 j.2.2.2.1.1 j.2.2.2.1.2.1 j.2.2.2.2.1 j.2.2.2.2.2.1 j.2.2.2.2.2.2.1 k c w = some (match r with | .inl y => .inl (y.1, (y.2.1, (c, y.2.2))) | .inr y => .inr (c, y)) := by
  have hn2 := J.n2
  intro n
  induction n with
  | zero =>
    intro k h0 hk w Q
    have hl : w.length = j.1.length := Q.len
    rw [impl_ClimbPlan_l0_eq, spec_ClimbPlan_l0_eq]; unfold impl_ClimbPlan_l0K spec_ClimbPlan_l0K
    have c1 : ¬ k < m := by omega
    simp only [c1, decide_false, cond_false]
    exact ⟨.inr w, rfl, by show w.length ≤ _; omega, rfl⟩
  | succ n ih =>
    intro k h0 hk w Q
    have hl : w.length = j.1.length := Q.len
    have c1 : k < m := by omega
    obtain ⟨r, g1, g2, g3⟩ := bestMove_ok j s J c w Q
    rw [impl_ClimbPlan_l0_eq, spec_ClimbPlan_l0_eq]; unfold impl_ClimbPlan_l0K spec_ClimbPlan_l0K
    rw [jobEta]
    simp only [c1, decide_true, cond_true, g1, g2, Option.bind_some]
    rw [wr (n := k + 1) (by omega) (by omega)]
    rcases g3 with h | ⟨h1, ⟨i, h2, h3⟩, h4, h5⟩
    · rw [h]
      exact ⟨.inl (k, (true, w)), rfl, by show w.length ≤ _; omega, rfl⟩
    · have c2 : (r.2.2 == 0) = false := by rw [beq_dec, decide_eq_false]; omega
      have c3 : r.2.2 > 0 := h1
      have pw := plWith_ok (c, w, ()) (by show w.length ≤ _; omega) i r.2.1 h3
      rw [h2, ck_in h3]
      simp only [c2, c3, decide_true, Bool.not_true, cond_false, pw, Option.bind_some]
      have e : (0 : Nat) + ((i : Int)).toNat = i := by omega
      rw [e]
      exact ih (k + 1) (by omega) (by omega) _ (Q.set (i := i) h4 h5)
theorem ClimbPlan_law (x0 : DJob) (x1 : DPlan) (x2 : Int) (w0 : TJob.wf x0) (w1 : TPlan.wf x1) (w2 : (Ty.int .i64).wf x2) : laws_FnExactClimbPlan x0 x1 x2 = some true := by
  unfold laws_FnExactClimbPlan laws_FnExactClimbPlanK
  refine job_head x0 w0 fun s y1 hy0 hy1 => plan_head x1 w1 y1 hy0 hy1 fun hl y2 _ _ => ?_
  obtain ⟨v, h1, h2, h3⟩ : ∃ v, impl_ClimbPlan x0 x1 x2 = some v ∧ spec_ClimbPlan x0 x1 x2 = some v ∧ v.1.2.length ≤ 1048576 := by
    unfold impl_ClimbPlan impl_ClimbPlanK spec_ClimbPlan spec_ClimbPlanK
    rw [isKept_ok x0 x1 s hl, wiGood_ok x0 x1 s hl, l1In_ok]
    cases hk : keptB x0 x1 with
    | false => exact ⟨_, rfl, rfl, by simp⟩
    | true =>
      obtain ⟨J, Q, hf⟩ := keptB_spec hk
      have hlen := Q.len
      have hn := J.n1
      by_cases d1 : x2 < 0
      · have d1' : ¬ 0 ≤ x2 := by omega
        exact ⟨_, by simp [d1]; rfl, by simp [d1'], by simp⟩
      by_cases d2 : x2 > 40
      · have d2' : ¬ x2 ≤ 40 := by omega
        exact ⟨_, by simp [d1, d2]; rfl, by simp [d2'], by simp⟩
      have d1' : 0 ≤ x2 := by omega
      have d2' : x2 ≤ 40 := by omega
      have h0 : 0 < x1.2.1.length := by omega
      have m2 := plWith_ok x1 hl 0 x1.2.1[0] h0
      have m2 : spec_plWith x1 0 x1.2.1[0] = some (x1.1, x1.2.1.set 0 x1.2.1[0]) := m2
      rw [List.set_getElem_self] at m2
      have l0 : lat x1.2.1 0 = some x1.2.1[0] := lat_nat h0
      obtain ⟨r, g1, g2, g3⟩ := climb_loop x0 s J x1.1 x2 d2' _ 0 (Int.le_refl _) rfl x1.2.1 Q
      simp only [Bool.not_true, cond_false, d1, d2, d1', d2', decide_true, decide_false, Bool.and_self, Option.bind_some, copyPlan_ok x1 hl, l0, m2, g1, g3]
      cases r with
      | inl y => exact ⟨_, rfl, rfl, g2⟩
      | inr y => exact ⟨_, rfl, rfl, g2⟩
  obtain ⟨⟨c, w⟩, n, ok⟩ := v
  dsimp only at h3
  obtain ⟨k', m1, m2, m3⟩ := markJob_ok x0 s 1 (by omega) (by omega)
  obtain ⟨l', n1, n2, n3⟩ := markPlan_ok x1.1 x1.2.1 hl k' (by omega) (by omega)
  obtain ⟨l2, o1, o2, o3⟩ := markPlan_ok c w h3 1 (by omega) (by omega)
  have c1 : ¬ k' + (x1.2.1.length : Int) < 0 := by omega
  have c2 : ¬ 1 + (w.length : Int) < 0 := by omega
  have er := eqPlan_refl (c, w, ()) h3
  simp only [toJob_ok x0 s, toPlan_ok x1 hl, Option.bind_some, jobEta, planEta, h1, h2, er, eqJob_refl x0 s, eqPlan_refl x1 hl, m1, n1, o1, o3, c1, c2]
  simp
end
end Go.OAI
