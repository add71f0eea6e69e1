/- StepMultipliers: the law in plain words. -/
import Derived.Test.YtokaffjipngphaaPrb
import Derived.Test.YtokaffjipngphaaGStepMultipliers
namespace Go.OAI
set_option linter.unusedVariables false
noncomputable section

theorem sign_ok (n : Int) : spec_l1Sign n = some (if 0 < n then 1 else if n < 0 then -1 else 0) := by
  unfold spec_l1Sign spec_l1SignK
  by_cases h1 : 0 < n
  · have : decide (n > 0) = true := decide_eq_true h1
    rw [this, if_pos h1]; rfl
  · have : decide (n > 0) = false := decide_eq_false h1
    rw [this, if_neg h1]
    by_cases h2 : n < 0
    · rw [decide_eq_true h2, if_pos h2]; rfl
    · rw [decide_eq_false h2, if_neg h2]; rfl
theorem most_ok (a b : Int) : spec_l1Most a b = some (if b < a then a else b) := by
  unfold spec_l1Most spec_l1MostK
  by_cases h1 : b < a
  · have : decide (a > b) = true := decide_eq_true h1
    rw [this, if_pos h1]; rfl
  · have : decide (a > b) = false := decide_eq_false h1
    rw [this, if_neg h1]; rfl
def stepOf (l : List Int) (e : List Int) (st : Int) (t : Nat) : Int :=
  if 0 < e.getD t 0 then l.getD t 0 + st else if e.getD t 0 < 0 then (if 0 < l.getD t 0 - st then l.getD t 0 - st else 0) else l.getD t 0
theorem stepOf_pos {l e : List Int} {st : Int} {t : Nat} (h : 0 < e.getD t 0) : stepOf l e st t = l.getD t 0 + st := by unfold stepOf; rw [if_pos h]
theorem stepOf_zero {l e : List Int} {st : Int} {t : Nat} (h : 0 = e.getD t 0) : stepOf l e st t = l.getD t 0 := by unfold stepOf; rw [if_neg (by omega), if_neg (by omega)]
theorem stepOf_neg {l e : List Int} {st : Int} {t : Nat} (h : e.getD t 0 < 0) : stepOf l e st t = if 0 < l.getD t 0 - st then l.getD t 0 - st else 0 := by unfold stepOf; rw [if_neg (by omega), if_pos h]
theorem step_loops (l e : List Int) (st : Int) (h0 : 0 ≤ st) (h1 : st ≤ 1000000) (he : e.length = l.length) (hl : l.length ≤ 6) (hx : ∀ x ∈ l, 0 ≤ x ∧ x ≤ 1000000000) : ∀ (r t : Nat), t + r = l.length →
    ∃ v, impl_StepMultipliers_l0 st (e.length : Int) e (t : Int) ((List.range t).map (stepOf l e st) ++ l.drop t) = some v ∧
      spec_StepMultipliers_l0 l st (e.length : Int) e (t : Int) ((List.range t).map (stepOf l e st)) = some v ∧ v.length = l.length := by
  intro r
  induction r with
  | zero =>
    intro t ht
    have hd : l.drop t = [] := List.drop_eq_nil_of_le (by omega)
    refine ⟨(List.range t).map (stepOf l e st), ?_, ?_, by simp; omega⟩
    · rw [hd, List.append_nil, impl_StepMultipliers_l0_eq]
      unfold impl_StepMultipliers_l0K
      have : decide ((t : Int) < (e.length : Int)) = false := by simp; omega
      rw [this]; rfl
    · rw [spec_StepMultipliers_l0_eq]
      unfold spec_StepMultipliers_l0K
      have : decide ((t : Int) < (e.length : Int)) = false := by simp; omega
      rw [this]; rfl
  | succ r ih =>
    intro t ht
    have htl : t < l.length := by omega
    have hte : t < e.length := by omega
    have hb := hx _ (List.getElem_mem htl)
    have hg : l.getD t 0 = l[t] := gd htl
    have wk : IntKind.i64.wrap ((t : Int) + 1) = ((t + 1 : Nat) : Int) := by rw [wr (by omega) (by omega)]; omega
    have hcur : ((List.range t).map (stepOf l e st) ++ l.drop t).getD t 0 = l[t] := by
      rw [List.getD_eq_getElem?_getD, List.getElem?_append_right (by simp), List.getElem?_drop]
      simp [htl]
    have hlen : ((List.range t).map (stepOf l e st) ++ l.drop t).length = l.length := by simp; omega
    have hset : ∀ x : Int, ((List.range t).map (stepOf l e st) ++ l.drop t).set t x = (List.range t).map (stepOf l e st) ++ x :: l.drop (t + 1) := fun x => by
      rw [List.drop_eq_getElem_cons htl, List.set_append_right _ _ (by simp)]
      simp only [List.length_map, List.length_range, Nat.sub_self, List.set_cons_zero]
    have hsame : (List.range t).map (stepOf l e st) ++ l.drop t = (List.range t).map (stepOf l e st) ++ l[t] :: l.drop (t + 1) := by rw [List.drop_eq_getElem_cons htl]
    have hnext : ∀ x : Int, x = stepOf l e st t → (List.range t).map (stepOf l e st) ++ x :: l.drop (t + 1) = (List.range (t + 1)).map (stepOf l e st) ++ l.drop (t + 1) := fun x hx => by
      rw [hx, List.range_succ, List.map_append]; simp
    have hnext2 : ∀ x : Int, x = stepOf l e st t → (List.range t).map (stepOf l e st) ++ [x] = (List.range (t + 1)).map (stepOf l e st) := fun x hx => by
      rw [hx, List.range_succ, List.map_append]; simp
    obtain ⟨v, g1, g2, g3⟩ := ih (t + 1) (by omega)
    refine ⟨v, ?_, ?_, g3⟩
    · rw [impl_StepMultipliers_l0_eq]
      unfold impl_StepMultipliers_l0K
      have w1 : IntKind.i64.wrap (l[t] + st) = l[t] + st := wr (by omega) (by omega)
      have w2 : IntKind.i64.wrap (l[t] - st) = l[t] - st := wr (by omega) (by omega)
      have f8 := dl (i := t) (n := ((List.range t).map (stepOf l e st) ++ l.drop t).length) (by omega)
      simp only [dl hte, dz, cond_true, Bool.and_self, tz, Nat.zero_add, f8, hcur, w1, w2, wk]
      rcases Int.lt_trichotomy 0 (e.getD t 0) with h | h | h
      · have q1 : decide (e.getD t 0 > 0) = true := decide_eq_true h
        have q2 : decide (e.getD t 0 < 0) = false := decide_eq_false (by omega)
        simp only [q1, q2, cond_true, cond_false, Option.bind_some]
        rw [hset, hnext _ (by rw [stepOf_pos h, hg])]
        exact g1
      · have q1 : decide (e.getD t 0 > 0) = false := decide_eq_false (by omega)
        have q2 : decide (e.getD t 0 < 0) = false := decide_eq_false (by omega)
        simp only [q1, q2, cond_false]
        rw [hsame, hnext _ (by rw [stepOf_zero h, hg])]
        exact g1
      · have q1 : decide (e.getD t 0 > 0) = false := decide_eq_false (by omega)
        have q2 : decide (e.getD t 0 < 0) = true := decide_eq_true h
        simp only [q1, q2, cond_true, cond_false, Option.bind_some]
        rw [hset, hnext _ (by rw [stepOf_neg h, hg])]
        exact g1
    · rw [spec_StepMultipliers_l0_eq]
      unfold spec_StepMultipliers_l0K
      have c0 : ∀ x : Int, decide (((List.range t).map (stepOf l e st)).length + [x].length ≤ 1099511627776) = true := fun x => decide_eq_true (by simp; omega)
      simp only [dl hte, dz, cond_true, Bool.and_self, tz, Nat.zero_add, lat_nat htl, Option.bind_some, sign_ok, most_ok, c0, wk]
      have hy : (if IntKind.i64.wrap (l[t] + IntKind.i64.wrap (st * if 0 < e.getD t 0 then 1 else if e.getD t 0 < 0 then -1 else 0)) < 0 then 0 else IntKind.i64.wrap (l[t] + IntKind.i64.wrap (st * if 0 < e.getD t 0 then 1 else if e.getD t 0 < 0 then -1 else 0))) = stepOf l e st t := by
        rcases Int.lt_trichotomy 0 (e.getD t 0) with h | h | h
        · rw [stepOf_pos h, hg, if_pos h, Int.mul_one, wr (n := st) (by omega) (by omega), wr (n := l[t] + st) (by omega) (by omega), if_neg (by omega)]
        · have q1 : ¬ 0 < e.getD t 0 := by omega
          have q2 : ¬ e.getD t 0 < 0 := by omega
          simp only [q1, q2, if_false]
          rw [stepOf_zero h, hg, Int.mul_zero, wr (n := 0) (by omega) (by omega), Int.add_zero, wr (n := l[t]) (by omega) (by omega), if_neg (by omega)]
        · have q1 : ¬ 0 < e.getD t 0 := by omega
          simp only [q1, h, if_false, if_true]
          rw [stepOf_neg h, hg, wr (n := st * -1) (by omega) (by omega), wr (n := l[t] + st * -1) (by omega) (by omega)]
          by_cases c : 0 < l[t] - st
          · rw [if_neg (by omega), if_pos c]; omega
          · rw [if_neg c]
            by_cases c2 : l[t] + st * -1 < 0
            · rw [if_pos c2]
            · rw [if_neg c2]; omega
      rw [hnext2 _ hy]
      exact g2
theorem StepMultipliers_law (x0 : DJob) (x1 : List Int) (x2 : Int) (w0 : TJob.wf x0) (w1 : (Ty.slice (.int .i64)).wf x1) (w2 : (Ty.int .i64).wf x2) : laws_FnExactStepMultipliers x0 x1 x2 = some true := by
  unfold laws_FnExactStepMultipliers laws_FnExactStepMultipliersK
  by_cases hb : (x1.length : Int) > 1048576
  · simp [hb]
  · have hx1 : x1.length ≤ 1048576 := by omega
    simp only [hb, decide_false, cond_false]
    refine job_head x0 w0 fun s y1 hy0 hy1 => ?_
    obtain ⟨v, h1, h2, h3⟩ : ∃ v, impl_StepMultipliers x0 x1 x2 = some v ∧ spec_StepMultipliers x0 x1 x2 = some v ∧ v.1.length ≤ 1048576 := by
      unfold impl_StepMultipliers impl_StepMultipliersK spec_StepMultipliers spec_StepMultipliersK
      rw [IsJob_ok x0 s, areMultipliers_ok x0 x1 (by omega), reGood_ok x0 s x1 (by omega)]
      cases hj : jobB x0 with
      | false => exact ⟨_, rfl, rfl, by simp⟩
      | true =>
        cases hm : mulB x0 x1 with
        | false => exact ⟨_, rfl, rfl, by simp⟩
        | true =>
          have J := jobB_spec hj
          have M := mulB_spec hm
          have hml := M.len
          obtain ⟨p1, p2, p3⟩ := nP_int J
          have e1 : spec_l1In x2 0 1000000 = some (decide (0 ≤ x2) && decide (x2 ≤ 1000000)) := by
            unfold spec_l1In spec_l1InK
            simp only [dec_ge]
            cases decide ((0 : Int) ≤ x2) <;> rfl
          rw [e1]
          simp only [Bool.not_true, cond_false, Option.bind_some, Bool.and_self, dec_lt, dec_gt]
          by_cases c1 : 0 ≤ x2
          · by_cases c2 : x2 ≤ 1000000
            · obtain ⟨e, g1, g2, g3⟩ := excess_ok J M
              obtain ⟨w, s1, s2, s3⟩ := step_loops x1 e x2 c1 c2 (by omega) (by omega) M.x x1.length 0 (by omega)
              have s1 : impl_StepMultipliers_l0 x2 (e.length : Int) e 0 (([] : List Int) ++ x1) = some w := s1
              have s2 : spec_StepMultipliers_l0 x1 x2 (e.length : Int) e 0 [] = some w := s2
              have cc : decide (([] : List Int).length + x1.length ≤ 1099511627776) = true := decide_eq_true (by simp only [List.length_nil]; omega)
              simp only [c1, c2, decide_true, Bool.not_true, cond_false, cond_true, Bool.and_self, cc, g1, g2, Option.bind_some, s1, s2]
              rw [areMultipliers_ok x0 w (by omega), reGood_ok x0 s w (by omega), hj]
              cases mulB x0 w with
              | false => exact ⟨_, rfl, rfl, by simp⟩
              | true => exact ⟨_, rfl, rfl, by show w.length ≤ _; omega⟩
            · simp only [c1, c2, decide_true, decide_false, Bool.not_true, Bool.not_false, cond_false, cond_true, Bool.and_false]
              exact ⟨_, rfl, rfl, by simp⟩
          · simp only [c1, decide_false, Bool.not_false, cond_true, Bool.false_and]
            exact ⟨_, rfl, rfl, by simp⟩
    obtain ⟨w, ok⟩ := v
    dsimp only at h3
    obtain ⟨k', m1, m2, m3⟩ := markJob_ok x0 s 1 (by omega) (by omega)
    obtain ⟨l', n1, n2, n3⟩ := markIntS_ok x1 (by omega) k' (by omega) (by omega)
    obtain ⟨l2, o1, o2, o3⟩ := markIntS_ok w (by omega) 1 (by omega) (by omega)
    have c1 : ¬ k' + (x1.length : Int) < 0 := by omega
    have c2 : ¬ 1 + (w.length : Int) < 0 := by omega
    simp only [toJob_ok x0 s, toIntS_ok x1 (by omega), Option.bind_some, jobEta, h1, h2, eqIntS_refl w (by omega), eqJob_refl x0 s, eqIntS_refl x1 (by omega), m1, n1, o1, o3, c1, c2]
    simp
end
end Go.OAI
