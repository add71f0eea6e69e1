/- EarlierPlan: the law in plain words. -/
import Derived.Test.YtnmeejeedfeolaaPk
import Derived.Test.YtnmeejeedfeolaaGEarlierPlan
namespace Go.OAI
set_option linter.unusedVariables false
noncomputable section

theorem earlier_inner (j : DJob) (s : JobSm j) (J : JobOk j) (i : Nat) (c e : Int) (w : List Int) (Q : PlanOk j (c, w, ())) (hi : i < w.length) (he : w[i] = e) (hep : e < j.2.2.2.2.1) :
    ∀ n : Nat, ∀ t : Int, 0 ≤ t → (e - t).toNat = n → ∃ w',
      impl_EarlierPlan_l1 (i : Int) e j.1 j.2.1 j.2.2.1 j.2.2.2.1.1 j.2.2.2.1.2.1 j.2.2.2.2.1 j.2.2.2.2.2.1 j.2.2.2.2.2.2.1 c w t = some (c, w') ∧
      spec_EarlierPlan_l1 (i : Int) j.1 j.2.1 j.2.2.1 j.2.2.2.1.1 j.2.2.2.1.2.1 j.2.2.2.2.1 j.2.2.2.2.2.1 j.2.2.2.2.2.2.1 t c w = some (c, w') ∧
      PlanOk j (c, w', ()) ∧ w'.length = w.length ∧ ∀ m, i < m → w'.getD m 0 = w.getD m 0 := by
  have hlen : w.length = j.1.length := Q.len
  have hn := J.n2
  have hper := J.per
  have hg : w.getD (0 + ((i : Nat) : Int).toNat) 0 = e := by rw [getD_nat hi, he]
  intro n
  induction n with
  | zero =>
    intro t h0 ht
    rw [impl_EarlierPlan_l1_eq, spec_EarlierPlan_l1_eq]; unfold impl_EarlierPlan_l1K spec_EarlierPlan_l1K
    rw [ck_in hi, hg]
    have c1 : ¬ t < e := by omega
    simp only [c1, decide_false, cond_false]
    exact ⟨w, rfl, rfl, Q, rfl, fun _ _ => rfl⟩
  | succ n ih =>
    intro t h0 ht
    have c1 : t < e := by omega
    have Q' : PlanOk j (c, w.set i t, ()) := Q.set (i := i) (by omega) (by omega)
    have m1 := movedPlan_ok (c, w, ()) (by show w.length ≤ _; omega) i t hi
    have m2 := plWith_ok (c, w, ()) (by show w.length ≤ _; omega) i t hi
    have f1 := isFeasible_ok j (c, w.set i t, ()) s J Q'
    have f2 := plFeasible_ok j (c, w.set i t, ()) s J Q'
    rw [impl_EarlierPlan_l1_eq, spec_EarlierPlan_l1_eq]; unfold impl_EarlierPlan_l1K spec_EarlierPlan_l1K
    rw [ck_in hi, hg, jobEta]
    simp only [c1, decide_true, cond_true, m1, m2, Option.bind_some, f1, f2]
    rw [wr (n := t + 1) (by omega) (by omega)]
    cases hf : feasB j (w.set i t) with
    | true =>
      simp only [cond_true]
      have hi2 : i < (w.set i t).length := by simp; exact hi
      have hg2 : (w.set i t).getD (0 + ((i : Nat) : Int).toNat) 0 = t := by rw [getD_nat hi2]; simp
      rw [spec_EarlierPlan_l1_eq]; unfold spec_EarlierPlan_l1K
      rw [ck_in hi2, hg2]
      have c2 : ¬ t + 1 < t := by omega
      simp only [c2, decide_false, cond_false]
      refine ⟨w.set i t, rfl, rfl, Q', by simp, fun m hm => ?_⟩
      have : i ≠ m := by omega
      simp [this]
    | false =>
      simp only [cond_false]
      exact ih (t + 1) (by omega) (by omega)
theorem earlier_outer (j : DJob) (s : JobSm j) (J : JobOk j) (p : DPlan) (Qp : PlanOk j p) (c : Int) : ∀ i, i ≤ p.2.1.length → ∀ w : List Int, PlanOk j (c, w, ()) → (∀ m, i ≤ m → w.getD m 0 = p.2.1.getD m 0) → ∃ w',
    impl_EarlierPlan_l0 p.2.1 (p.2.1.length : Int) j.1 j.2.1 j.2.2.1 j.2.2.2.1.1 j.2.2.2.1.2.1 j.2.2.2.2.1 j.2.2.2.2.2.1 j.2.2.2.2.2.2.1 (i : Int) c w = some (c, w') ∧
    spec_EarlierPlan_l0 (p.2.1.length : Int) j.1 j.2.1 j.2.2.1 j.2.2.2.1.1 j.2.2.2.1.2.1 j.2.2.2.2.1 j.2.2.2.2.2.1 j.2.2.2.2.2.2.1 (i : Int) c w = some (c, w') ∧ w'.length ≤ 1048576 := by
  have hlen := Qp.len
  have hn := J.n2
  refine down (fun w Q hw => ?_) fun i hi ih w Q hw => ?_
  · rw [impl_EarlierPlan_l0_eq, spec_EarlierPlan_l0_eq]; unfold impl_EarlierPlan_l0K spec_EarlierPlan_l0K
    rw [lt_out (Nat.le_refl _), lt_out (Nat.le_refl _)]
    have hl : w.length = j.1.length := Q.len
    exact ⟨w, rfl, rfl, by omega⟩
  · have hl : w.length = j.1.length := Q.len
    have hi2 : i < w.length := by omega
    have hwi : w[i] = p.2.1[i] := by
      have := hw i (Nat.le_refl _)
      simpa [hi2, hi] using this
    have hb := Qp.w _ (List.getElem_mem hi)
    obtain ⟨w1, g1, g2, g3, g4, g5⟩ := earlier_inner j s J i c p.2.1[i] w Q hi2 hwi hb.2 _ 0 (Int.le_refl _) rfl
    rw [impl_EarlierPlan_l0_eq, spec_EarlierPlan_l0_eq]; unfold impl_EarlierPlan_l0K spec_EarlierPlan_l0K
    rw [lt_in hi, lt_in hi, lat_nat hi, wr_succ hi (by omega)]
    simp only [Option.bind_some, g1, g2]
    exact ih w1 g3 fun m hm => by rw [g5 m (by omega)]; exact hw m (by omega)
theorem EarlierPlan_law (x0 : DJob) (x1 : DPlan) (w0 : TJob.wf x0) (w1 : TPlan.wf x1) : laws_FnExactEarlierPlan x0 x1 = some true := by
  unfold laws_FnExactEarlierPlan laws_FnExactEarlierPlanK
  refine job_head x0 w0 fun s y1 hy0 hy1 => plan_head x1 w1 y1 hy0 hy1 fun hl y2 _ _ => ?_
  obtain ⟨v, h1, h2, h3⟩ : ∃ v, impl_EarlierPlan x0 x1 = some v ∧ spec_EarlierPlan x0 x1 = some v ∧ v.1.2.length ≤ 1048576 := by
    unfold impl_EarlierPlan impl_EarlierPlanK spec_EarlierPlan spec_EarlierPlanK
    rw [isKept_ok x0 x1 s hl, wiGood_ok x0 x1 s hl]
    cases hk : keptB x0 x1 with
    | false => exact ⟨_, rfl, rfl, by simp⟩
    | true =>
      obtain ⟨J, Q, hf⟩ := keptB_spec hk
      have hlen := Q.len
      have hn := J.n1
      have h0 : 0 < x1.2.1.length := by omega
      have m2 := plWith_ok x1 hl 0 x1.2.1[0] h0
      have m2 : spec_plWith x1 0 x1.2.1[0] = some (x1.1, x1.2.1.set 0 x1.2.1[0]) := m2
      rw [List.set_getElem_self] at m2
      have l0 : lat x1.2.1 0 = some x1.2.1[0] := lat_nat h0
      obtain ⟨w', g1, g2, g3⟩ := earlier_outer x0 s J x1 Q x1.1 0 (Nat.zero_le _) x1.2.1 Q fun _ _ => rfl
      have g1 : impl_EarlierPlan_l0 x1.2.1 (x1.2.1.length : Int) x0.1 x0.2.1 x0.2.2.1 x0.2.2.2.1.1 x0.2.2.2.1.2.1 x0.2.2.2.2.1 x0.2.2.2.2.2.1 x0.2.2.2.2.2.2.1 0 x1.1 x1.2.1 = some (x1.1, w') := g1
      have g2 : spec_EarlierPlan_l0 (x1.2.1.length : Int) x0.1 x0.2.1 x0.2.2.1 x0.2.2.2.1.1 x0.2.2.2.1.2.1 x0.2.2.2.2.1 x0.2.2.2.2.2.1 x0.2.2.2.2.2.2.1 0 x1.1 x1.2.1 = some (x1.1, w') := g2
      simp only [Bool.not_true, cond_false, Option.bind_some, copyPlan_ok x1 hl, l0, m2, g1, g2]
      exact ⟨_, rfl, rfl, g3⟩
  obtain ⟨⟨c, w⟩, ok⟩ := v
  dsimp only at h3
  obtain ⟨k', m1, m2, m3⟩ := markJob_ok x0 s 1 (by omega) (by omega)
  obtain ⟨l', n1, n2, n3⟩ := markPlan_ok x1.1 x1.2.1 hl k' (by omega) (by omega)
  obtain ⟨l2, o1, o2, o3⟩ := markPlan_ok c w h3 1 (by omega) (by omega)
  have c1 : ¬ k' + (x1.2.1.length : Int) < 0 := by omega
  have c2 : ¬ 1 + (w.length : Int) < 0 := by omega
  have er := eqPlan_refl (c, w, ()) h3
  simp only [toJob_ok x0 s, toPlan_ok x1 hl, Option.bind_some, jobEta, planEta, h1, h2, er, eqJob_refl x0 s, eqPlan_refl x1 hl, m1, n1, o1, o3, c1, c2]
  simp
end
end Go.OAI
