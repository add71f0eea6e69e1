/- GreedyPlan: the law in plain words. -/
import Derived.Test.YtnmeejeedfeolaaPfi
import Derived.Test.YtnmeejeedfeolaaGGreedyPlan
namespace Go.OAI
set_option linter.unusedVariables false
noncomputable section

def bestOk (w : List Int) (r : Int) : Prop := r = -1 ∨ ∃ b : Nat, r = (b : Int) ∧ b < w.length ∧ w.getD b 0 < 0
theorem greedy_inner (j : DJob) (s : JobSm j) (J : JobOk j) (c : Int) (w : List Int) (Q : PlanOk j (c, w, ())) (t : Nat) (ht : t < j.2.2.2.2.1.toNat) : ∀ i, i ≤ w.length → ∀ r : Int, bestOk w r → ∃ r',
    impl_GreedyPlan_l2 (t : Int) (w.length : Int) j.1 j.2.1 j.2.2.1 j.2.2.2.1.1 j.2.2.2.1.2.1 j.2.2.2.2.1 j.2.2.2.2.2.1 j.2.2.2.2.2.2.1 c w r (i : Int) = some r' ∧
    spec_GreedyPlan_l2 (t : Int) j.2.2.1 (j.2.2.1.length : Int) j.1 j.2.1 j.2.2.1 j.2.2.2.1.1 j.2.2.2.1.2.1 j.2.2.2.2.1 j.2.2.2.2.2.1 j.2.2.2.2.2.2.1 c w r (i : Int) = some r' ∧ bestOk w r' := by
  have hlen : w.length = j.1.length := Q.len
  have hlv := J.lv
  have hn2 := J.n2
  refine down (fun r hr => ?_) fun i hi ih r hr => ?_
  · rw [impl_GreedyPlan_l2_eq, spec_GreedyPlan_l2_eq]; unfold impl_GreedyPlan_l2K spec_GreedyPlan_l2K
    rw [lt_out (Nat.le_refl _), lt_out (by omega)]
    exact ⟨r, rfl, rfl, hr⟩
  · have hv : i < j.2.2.1.length := by omega
    have hgi : w.getD i 0 = w[i] := by simp [hi]
    rw [impl_GreedyPlan_l2_eq, spec_GreedyPlan_l2_eq]; unfold impl_GreedyPlan_l2K spec_GreedyPlan_l2K
    rw [lt_in hi, lt_in hv, ck_in hi, wr_succ hi (by omega), lat_nat hv, jobEta]
    simp only [Option.bind_some]
    rw [ck_in hi, getD_nat hi]
    by_cases c1 : w[i] < 0
    · have f1 := fitsIn_ok j s J c w [(i : Int)] t Q (by simp) (by simp; omega) ht
      have f2 := wiOpen_ok j s J c w i (t : Int) (by omega) hlen
      have f3 := wiRoom_ok j s J c w [(i : Int)] t Q (by simp) (by simp; omega) ht
      rw [fit_one j J w i (t : Int) (by omega) hlen (by rw [hgi]; exact c1) (by omega)] at f1
      have hi' : bestOk w (i : Int) := .inr ⟨i, rfl, hi, by rw [hgi]; exact c1⟩
      simp only [c1, decide_true, cond_true, f1, f2, f3, Option.bind_some]
      rcases hr with hr | ⟨b, hr, hb, hb2⟩
      · subst hr
        have c2 : (-1 : Int) < 0 := by omega
        simp only [c2, decide_true, cond_true]
        cases openB j w (i : Int) (t : Int) with
        | false => exact ih _ (.inl rfl)
        | true =>
          cases roomB j w (t : Int) [(i : Int)] with
          | false => exact ih _ (.inl rfl)
          | true => exact ih _ hi'
      · subst hr
        have c2 : ¬ ((b : Int) < 0) := by omega
        have hbv : b < j.2.2.1.length := by omega
        have hr : bestOk w (b : Int) := .inr ⟨b, rfl, hb, hb2⟩
        simp only [c2, decide_false, cond_false, lat_nat hbv, Option.bind_some]
        by_cases c3 : j.2.2.1[i] > j.2.2.1[b]
        · simp only [c3, decide_true, cond_true]
          cases openB j w (i : Int) (t : Int) with
          | false => exact ih _ hr
          | true =>
            cases roomB j w (t : Int) [(i : Int)] with
            | false => exact ih _ hr
            | true => exact ih _ hi'
        · simp only [c3, decide_false, cond_false]
          exact ih _ hr
    · simp only [c1, decide_false, cond_false]
      exact ih _ hr
theorem greedy_mid (j : DJob) (s : JobSm j) (J : JobOk j) (c : Int) (t : Nat) (ht : t < j.2.2.2.2.1.toNat) : ∀ (n : Nat) (w : List Int), PlanOk j (c, w, ()) → w.countP (fun x => decide (x < 0)) = n → ∃ w',
    impl_GreedyPlan_l1 (t : Int) j.1 j.2.1 j.2.2.1 j.2.2.2.1.1 j.2.2.2.1.2.1 j.2.2.2.2.1 j.2.2.2.2.2.1 j.2.2.2.2.2.2.1 c w = some w' ∧ spec_GreedyPlan_l1 (t : Int) j.1 j.2.1 j.2.2.1 j.2.2.2.1.1 j.2.2.2.1.2.1 j.2.2.2.2.1 j.2.2.2.2.2.1 j.2.2.2.2.2.2.1 c w = some w' ∧ PlanOk j (c, w', ()) := by
  intro n
  induction n using Nat.strongRecOn with
  | ind n ih =>
    intro w Q hc
    have hper := J.per
    obtain ⟨r, g1, g2, g3⟩ := greedy_inner j s J c w Q t ht 0 (Nat.zero_le _) (-1) (.inl rfl)
    have g1 : impl_GreedyPlan_l2 (t : Int) (w.length : Int) j.1 j.2.1 j.2.2.1 j.2.2.2.1.1 j.2.2.2.1.2.1 j.2.2.2.2.1 j.2.2.2.2.2.1 j.2.2.2.2.2.2.1 c w (-1) 0 = some r := g1
    have g2 : spec_GreedyPlan_l2 (t : Int) j.2.2.1 (j.2.2.1.length : Int) j.1 j.2.1 j.2.2.1 j.2.2.2.1.1 j.2.2.2.1.2.1 j.2.2.2.2.1 j.2.2.2.2.2.1 j.2.2.2.2.2.2.1 c w (-1) 0 = some r := g2
    rw [impl_GreedyPlan_l1_eq, spec_GreedyPlan_l1_eq]; unfold impl_GreedyPlan_l1K spec_GreedyPlan_l1K
    simp only [g1, g2, Option.bind_some]
    rcases g3 with h | ⟨b, h, hb, hb2⟩
    · subst h
      exact ⟨w, rfl, rfl, Q⟩
    · subst h
      have c2 : ¬ ((b : Int) < 0) := by omega
      simp only [c2, decide_false, cond_false]
      rw [ck_in hb, ck_in hb]
      have e : (0 : Nat) + ((b : Int)).toNat = b := by omega
      have hg : w.getD b 0 = w[b] := by simp [hb]
      rw [hg] at hb2
      rw [e]
      refine ih _ ?_ (w.set b (t : Int)) (Q.set (p := (c, w, ())) (i := b) (by omega) (by omega)) rfl
      have ct : ¬ ((t : Int) < 0) := by omega
      have hpos : 0 < w.countP (fun x => decide (x < 0)) := List.countP_pos_iff.2 ⟨w[b], List.getElem_mem hb, by simpa using hb2⟩
      rw [List.countP_set hb]
      simp only [hb2, ct, decide_true, decide_false, if_true]
      simp
      omega
theorem greedy_outer (j : DJob) (s : JobSm j) (J : JobOk j) (c : Int) : ∀ t, t ≤ j.2.2.2.2.1.toNat → ∀ w : List Int, PlanOk j (c, w, ()) → ∃ w',
    impl_GreedyPlan_l0 j.1 j.2.1 j.2.2.1 j.2.2.2.1.1 j.2.2.2.1.2.1 j.2.2.2.2.1 j.2.2.2.2.2.1 j.2.2.2.2.2.2.1 c (t : Int) w = some w' ∧ spec_GreedyPlan_l0 j.1 j.2.1 j.2.2.1 j.2.2.2.1.1 j.2.2.2.1.2.1 j.2.2.2.2.1 j.2.2.2.2.2.1 j.2.2.2.2.2.2.1 c (t : Int) w = some w' ∧ w'.length ≤ 1048576 := by
  have hper := J.per
  have hn2 := J.n2
  refine down (fun w Q => ?_) fun t ht ih w Q => ?_
  · have hlen : w.length = j.1.length := Q.len
    rw [impl_GreedyPlan_l0_eq, spec_GreedyPlan_l0_eq]; unfold impl_GreedyPlan_l0K spec_GreedyPlan_l0K
    have c1 : ¬ ((j.2.2.2.2.1.toNat : Nat) : Int) < j.2.2.2.2.1 := by omega
    simp only [c1, decide_false, cond_false]
    exact ⟨w, rfl, rfl, by omega⟩
  · obtain ⟨w1, g1, g2, g3⟩ := greedy_mid j s J c t ht _ w Q rfl
    rw [impl_GreedyPlan_l0_eq, spec_GreedyPlan_l0_eq]; unfold impl_GreedyPlan_l0K spec_GreedyPlan_l0K
    have c1 : (t : Int) < j.2.2.2.2.1 := by omega
    rw [wr_succ ht (by omega)]
    simp only [c1, decide_true, cond_true, g1, g2, Option.bind_some]
    exact ih w1 g3
theorem GreedyPlan_law (x0 : DJob) (w0 : TJob.wf x0) : laws_FnExactGreedyPlan x0 = some true := by
  unfold laws_FnExactGreedyPlan laws_FnExactGreedyPlanK
  refine job_head x0 w0 fun s y1 hy0 hy1 => ?_
  obtain ⟨v, h1, h2, h3⟩ : ∃ v, impl_GreedyPlan x0 = some v ∧ spec_GreedyPlan x0 = some v ∧ v.1.2.length ≤ 1048576 := by
    unfold impl_GreedyPlan impl_GreedyPlanK spec_GreedyPlan spec_GreedyPlanK
    rw [IsJob_ok x0 s, plJob_ok x0 s]
    cases hk : jobB x0 with
    | false => exact ⟨_, rfl, rfl, by simp⟩
    | true =>
      have J := jobB_spec hk
      obtain ⟨w', g1, g2, g3⟩ := greedy_outer x0 s J x0.2.2.2.2.1 0 (Nat.zero_le _) _ (emptyOk x0 J)
      have g1 : impl_GreedyPlan_l0 x0.1 x0.2.1 x0.2.2.1 x0.2.2.2.1.1 x0.2.2.2.1.2.1 x0.2.2.2.2.1 x0.2.2.2.2.2.1 x0.2.2.2.2.2.2.1 x0.2.2.2.2.1 0 (List.replicate x0.1.length (-1)) = some w' := g1
      have g2 : spec_GreedyPlan_l0 x0.1 x0.2.1 x0.2.2.1 x0.2.2.2.1.1 x0.2.2.2.1.2.1 x0.2.2.2.2.1 x0.2.2.2.2.2.1 x0.2.2.2.2.2.2.1 x0.2.2.2.2.1 0 (List.replicate x0.1.length (-1)) = some w' := g2
      obtain ⟨e1, e2⟩ := emptyPlan_ok x0 J
      simp only [Bool.not_true, cond_false, Option.bind_some, e1, e2, g1, g2]
      exact ⟨_, rfl, rfl, g3⟩
  obtain ⟨⟨c, w⟩, ok⟩ := v
  dsimp only at h3
  obtain ⟨k', m1, m2, m3⟩ := markJob_ok x0 s 1 (by omega) (by omega)
  obtain ⟨l2, o1, o2, o3⟩ := markPlan_ok c w h3 1 (by omega) (by omega)
  have c1 : ¬ k' < 0 := by omega
  have c2 : ¬ 1 + (w.length : Int) < 0 := by omega
  have er := eqPlan_refl (c, w, ()) h3
  simp only [toJob_ok x0 s, Option.bind_some, jobEta, planEta, h1, h2, er, eqJob_refl x0 s, m1, o1, o3, c1, c2]
  simp
end
end Go.OAI
