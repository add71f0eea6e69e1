/- The best move. -/
import Derived.Test.YtnmeejeedfeolaaPk
import Derived.Test.YtnmeejeedfeolaaGBm
namespace Go.OAI
set_option linter.unusedVariables false
noncomputable section

/-- Nothing found, or a good move. -/
def mvOk (j : DJob) (w : List Int) (r : Int × Int × Int) : Prop :=
  r = (0, (0, 0)) ∨ (0 < r.2.2 ∧ (∃ i : Nat, r.1 = (i : Int) ∧ i < w.length) ∧ -1 ≤ r.2.1 ∧ r.2.1 < j.2.2.2.2.1)
theorem best_inner (j : DJob) (s : JobSm j) (J : JobOk j) (i : Nat) (c : Int) (w : List Int) (Q : PlanOk j (c, w, ())) (hi : i < w.length) :
    ∀ n : Nat, ∀ t : Int, -1 ≤ t → (j.2.2.2.2.1 - t).toNat = n → ∀ a0 a1 a2 : Int, mvOk j w (a0, (a1, a2)) → ∃ r,
      impl_bestMove_l1 (i : Int) w[i] j.1 j.2.1 j.2.2.1 j.2.2.2.1.1 j.2.2.2.1.2.1 j.2.2.2.2.1 j.2.2.2.2.2.1 j.2.2.2.2.2.2.1 c w a0 a1 a2 t = some r ∧
      spec_wiMove_l1 (worth j w j.2.2.1) (i : Int) j.1 j.2.1 j.2.2.1 j.2.2.2.1.1 j.2.2.2.1.2.1 j.2.2.2.2.1 j.2.2.2.2.2.1 j.2.2.2.2.2.2.1 c w a0 a1 a2 t = some r ∧ mvOk j w r := by
  have hlen : w.length = j.1.length := Q.len
  have hn := J.n2
  have hper := J.per
  have hv : i < j.2.2.1.length := by have := J.lv; omega
  have hvb := J.v _ (List.getElem_mem hv)
  have hwi := Q.w _ (List.getElem_mem hi)
  have fw := fac_bound J hwi.2
  have ww := worth_bound J w j.2.2.1 (fun t ht => (Q.w t ht).2) J.v
  intro n
  induction n with
  | zero =>
    intro t h0 ht a0 a1 a2 h
    rw [impl_bestMove_l1_eq, spec_wiMove_l1_eq]; unfold impl_bestMove_l1K spec_wiMove_l1K
    have c1 : ¬ t < j.2.2.2.2.1 := by omega
    simp only [c1, decide_false, cond_false]
    exact ⟨_, rfl, rfl, h⟩
  | succ n ih =>
    intro t h0 ht a0 a1 a2 h
    have c1 : t < j.2.2.2.2.1 := by omega
    have Q' : PlanOk j (c, w.set i t, ()) := Q.set (i := i) h0 c1
    have m1 := movedPlan_ok (c, w, ()) (by show w.length ≤ _; omega) i t hi
    have m2 := plWith_ok (c, w, ()) (by show w.length ≤ _; omega) i t hi
    have f1 := isFeasible_ok j (c, w.set i t, ()) s J Q'
    have f2 := plFeasible_ok j (c, w.set i t, ()) s J Q'
    have ft := fac_bound J c1
    have hs := worth_set (j := j) w j.2.2.1 i t hi hv
    have b1 := mul_bound hvb ft
    have b2 := mul_bound hvb fw
    have b3 : j.2.2.1[i] * (fac j t - fac j w[i]) = j.2.2.1[i] * fac j t - j.2.2.1[i] * fac j w[i] := Int.mul_sub ..
    have sw := srWorth_ok j (w.set i t) J (by simp; omega) (fun t ht => (Q'.w t ht).2)
    rw [impl_bestMove_l1_eq, spec_wiMove_l1_eq]; unfold impl_bestMove_l1K spec_wiMove_l1K
    simp only [c1, decide_true, cond_true]
    rw [lat_nat hv]
    simp only [Option.bind_some]
    rw [jobEta, scaledFactor_ok j J t c1, scaledFactor_ok j J w[i] hwi.2]
    simp only [m1, m2, Option.bind_some, f1, f2, sw]
    rw [hs, wr (n := t + 1) (by omega) (by omega), wr (n := fac j t - fac j w[i]) (by omega) (by omega), wr (n := j.2.2.1[i] * (fac j t - fac j w[i])) (by omega) (by omega)]
    have e : worth j w j.2.2.1 + j.2.2.1[i] * (fac j t - fac j w[i]) - worth j w j.2.2.1 = j.2.2.1[i] * (fac j t - fac j w[i]) := by omega
    rw [e, wr (n := j.2.2.1[i] * (fac j t - fac j w[i])) (by omega) (by omega)]
    generalize j.2.2.1[i] * (fac j t - fac j w[i]) = g
    by_cases c2 : g > a2
    · simp only [c2, decide_true, cond_true]
      cases hf : feasB j (w.set i t) with
      | true =>
        simp only [cond_true]
        refine ih (t + 1) (by omega) (by omega) _ _ _ (.inr ⟨?_, ⟨i, rfl, hi⟩, h0, c1⟩)
        show 0 < g
        have h2 : 0 ≤ a2 := by
          rcases h with h | h
          · cases h; omega
          · have := h.1; dsimp only at this; omega
        omega
      | false =>
        simp only [cond_false]
        exact ih (t + 1) (by omega) (by omega) _ _ _ h
    · simp only [c2, decide_false, cond_false]
      exact ih (t + 1) (by omega) (by omega) _ _ _ h
theorem best_outer (j : DJob) (s : JobSm j) (J : JobOk j) (c : Int) (w : List Int) (Q : PlanOk j (c, w, ())) : ∀ i, i ≤ w.length → ∀ a0 a1 a2 : Int, mvOk j w (a0, (a1, a2)) → ∃ r,
      impl_bestMove_l0 w (w.length : Int) j.1 j.2.1 j.2.2.1 j.2.2.2.1.1 j.2.2.2.1.2.1 j.2.2.2.2.1 j.2.2.2.2.2.1 j.2.2.2.2.2.2.1 c w a0 a1 a2 (i : Int) = some r ∧
      spec_wiMove_l0 (worth j w j.2.2.1) (w.length : Int) j.1 j.2.1 j.2.2.1 j.2.2.2.1.1 j.2.2.2.1.2.1 j.2.2.2.2.1 j.2.2.2.2.2.1 j.2.2.2.2.2.2.1 c w a0 a1 a2 (i : Int) = some r ∧ mvOk j w r := by
  have hlen : w.length = j.1.length := Q.len
  have hn := J.n2
  have hper := J.per
  refine down (fun a0 a1 a2 h => ?_) fun i hi ih a0 a1 a2 h => ?_
  · rw [impl_bestMove_l0_eq, spec_wiMove_l0_eq]; unfold impl_bestMove_l0K spec_wiMove_l0K
    rw [lt_out (Nat.le_refl _), lt_out (Nat.le_refl _)]
    exact ⟨_, rfl, rfl, h⟩
  · obtain ⟨r, g1, g2, g3⟩ := best_inner j s J i c w Q hi _ (-1) (by omega) rfl a0 a1 a2 h
    rw [impl_bestMove_l0_eq, spec_wiMove_l0_eq]; unfold impl_bestMove_l0K spec_wiMove_l0K
    rw [lt_in hi, lt_in hi, lat_nat hi, wr_succ hi (by omega)]
    simp only [Option.bind_some, g1, g2]
    exact ih _ _ _ g3
theorem bestMove_ok (j : DJob) (s : JobSm j) (J : JobOk j) (c : Int) (w : List Int) (Q : PlanOk j (c, w, ())) : ∃ r,
    impl_bestMove j (c, w, ()) = some (r.1, (r.2.1, (r.2.2, decide (r.2.2 > 0)))) ∧ spec_wiMove j (c, w, ()) = some r ∧ mvOk j w r := by
  have hlen : w.length = j.1.length := Q.len
  obtain ⟨r, g1, g2, g3⟩ := best_outer j s J c w Q 0 (Nat.zero_le _) 0 0 0 (.inl rfl)
  have g1 : impl_bestMove_l0 w (w.length : Int) j.1 j.2.1 j.2.2.1 j.2.2.2.1.1 j.2.2.2.1.2.1 j.2.2.2.2.1 j.2.2.2.2.2.1 j.2.2.2.2.2.2.1 c w 0 0 0 0 = some r := g1
  have g2 : spec_wiMove_l0 (worth j w j.2.2.1) (w.length : Int) j.1 j.2.1 j.2.2.1 j.2.2.2.1.1 j.2.2.2.1.2.1 j.2.2.2.2.1 j.2.2.2.2.2.1 j.2.2.2.2.2.2.1 c w 0 0 0 0 = some r := g2
  refine ⟨r, ?_, ?_, g3⟩
  · unfold impl_bestMove impl_bestMoveK
    simp only [g1, Option.bind_some]
    rcases g3 with h | h
    · rw [h]; rfl
    · have c1 : (r.2.2 == 0) = false := by rw [beq_dec, decide_eq_false]; omega
      have c2 : r.2.2 > 0 := h.1
      simp only [c1, cond_false, c2, decide_true]
  · unfold spec_wiMove spec_wiMoveK
    simp only [srWorth_ok j w J (by omega) (fun t ht => (Q.w t ht).2), Option.bind_some, g2]
end
end Go.OAI
