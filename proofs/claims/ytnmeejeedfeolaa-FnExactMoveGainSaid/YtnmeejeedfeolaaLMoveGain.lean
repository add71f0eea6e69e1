/- MoveGain: the law in plain words. -/
import Derived.Test.YtnmeejeedfeolaaPs
import Derived.Test.YtnmeejeedfeolaaGMoveGain
namespace Go.OAI
set_option linter.unusedVariables false
noncomputable section

theorem plWith_ok (n : Int) (l : List Int) (i t : Int) (hl : l.length ≤ 1048576) (h0 : 0 ≤ i) (hi : i < (l.length : Int)) : spec_plWith (n, l, ()) i t = some (n, l.set i.toNat t) := by
  unfold spec_plWith spec_plWithK spec_l1Own spec_l1OwnK
  have c : ([] : List Int).length + l.length ≤ 1099511627776 := by simp; omega
  simp only [c, decide_true, cond_true, Option.bind_some, List.nil_append]
  rw [ck_int h0 hi, Nat.zero_add]
theorem MoveGain_both (x0 : DJob) (x1 : DPlan) (x2 x3 : Int) (s : JobSm x0) (hl : x1.2.1.length ≤ 1048576) : ∃ v, impl_MoveGain x0 x1 x2 x3 = some v ∧ spec_MoveGain x0 x1 x2 x3 = some v := by
  unfold impl_MoveGain impl_MoveGainK spec_MoveGain spec_MoveGainK
  rw [IsJob_ok x0 s, isPlan_ok x0 x1 hl, plBoth_ok x0 x1 s hl]
  cases hj : jobB x0 with
  | false => exact ⟨_, rfl, rfl⟩
  | true =>
    cases hp : planB x0 x1 with
    | false => exact ⟨_, rfl, rfl⟩
    | true =>
      have J := jobB_spec hj
      have Q := planB_spec hp
      have hper := J.per
      have hlen := Q.len
      have hlv := J.lv
      have hn2 := J.n2
      rw [wr (n := (x0.1.length : Int) - 1) (by omega) (by omega), wr (n := x0.2.2.2.2.1 - 1) (by omega) (by omega)]
      unfold spec_l1In spec_l1InK
      by_cases c1 : x2 < 0
      · refine ⟨(0, false), ?_, ?_⟩
        · simp [c1]
        · have c1' : ¬ 0 ≤ x2 := by omega
          simp [c1']
      · by_cases c2 : x2 ≥ (x1.2.1.length : Int)
        · refine ⟨(0, false), ?_, ?_⟩
          · simp [c1, c2]
          · have c1' : 0 ≤ x2 := by omega
            have c2' : ¬ x2 ≤ (x0.1.length : Int) - 1 := by omega
            simp [c1', c2']
        · have c1' : 0 ≤ x2 := by omega
          have c2' : x2 ≤ (x0.1.length : Int) - 1 := by omega
          by_cases c3 : x3 < -1
          · refine ⟨(0, false), ?_, ?_⟩
            · simp [c1, c2, c3]
            · have c3' : ¬ -1 ≤ x3 := by omega
              simp [c1', c2', c3']
          · by_cases c4 : x3 ≥ x0.2.2.2.2.1
            · refine ⟨(0, false), ?_, ?_⟩
              · simp [c1, c2, c3, c4]
              · have c3' : -1 ≤ x3 := by omega
                have c4' : ¬ x3 ≤ x0.2.2.2.2.1 - 1 := by omega
                simp [c1', c2', c3', c4']
            · have c3' : -1 ≤ x3 := by omega
              have c4' : x3 ≤ x0.2.2.2.2.1 - 1 := by omega
              have hi : x2.toNat < x1.2.1.length := by omega
              have hiv : x2.toNat < x0.2.2.1.length := by omega
              have hv := J.v _ (List.getElem_mem hiv)
              have hw := Q.w _ (List.getElem_mem hi)
              have hf1 := fac_bound J (t := x3) (by omega)
              have hf2 := fac_bound J (t := x1.2.1[x2.toNat]) (by omega)
              have hset : ∀ t ∈ x1.2.1.set x2.toNat x3, t < x0.2.2.2.2.1 := fun t ht => by
                rcases List.mem_or_eq_of_mem_set ht with ht | ht
                · exact (Q.w t ht).2
                · omega
              have hws := worth_set (j := x0) x1.2.1 x0.2.2.1 x2.toNat x3 hi hiv
              have hb1 := worth_bound J x1.2.1 x0.2.2.1 (fun t ht => (Q.w t ht).2) J.v
              have hb2 := worth_bound J (x1.2.1.set x2.toNat x3) x0.2.2.1 hset J.v
              rw [List.length_set] at hb2
              have e1 := plWith_ok x1.1 x1.2.1 x2 x3 hl c1' (by omega)
              rw [planEta] at e1
              have e2 := srWorth_ok x0 x1.2.1 J (by omega) (fun t ht => (Q.w t ht).2)
              have e3 := srWorth_ok x0 (x1.2.1.set x2.toNat x3) J (by simp; omega) hset
              refine ⟨(x0.2.2.1[x2.toNat] * (fac x0 x3 - fac x0 x1.2.1[x2.toNat]), true), ?_, ?_⟩
              · simp only [c1, c2, c3, c4, decide_false, cond_false, Option.bind_some, Bool.not_true]
                rw [lat_int c1' hiv, lat_int c1' hi]
                simp only [Option.bind_some]
                rw [scaledFactor_ok x0 J x3 (by omega)]
                simp only [Option.bind_some]
                rw [scaledFactor_ok x0 J _ hw.2]
                simp only [Option.bind_some]
                rw [wr (n := fac x0 x3 - fac x0 x1.2.1[x2.toNat]) (by omega) (by omega), wr (by omega) (by omega)]
              · simp only [ge_iff_le, c1', c2', c3', c4', decide_true, cond_true, cond_false, Option.bind_some, Bool.not_true, Bool.and_self]
                rw [e1]
                simp only [Option.bind_some]
                rw [e3, e2]
                simp only [Option.bind_some]
                rw [wr (by omega) (by omega)]
                congr 2; omega
theorem MoveGain_law (x0 : DJob) (x1 : DPlan) (x2 x3 : Int) (w0 : TJob.wf x0) (w1 : TPlan.wf x1) (w2 : (Ty.int .i64).wf x2) (w3 : (Ty.int .i64).wf x3) : laws_FnExactMoveGain x0 x1 x2 x3 = some true := by
  unfold laws_FnExactMoveGain laws_FnExactMoveGainK
  refine job_head x0 w0 fun s y1 hy0 hy1 => plan_head x1 w1 y1 hy0 hy1 fun hl y2 _ _ => ?_
  obtain ⟨v, h1, h2⟩ := MoveGain_both x0 x1 x2 x3 s hl
  simp only [toJob_ok x0 s, toPlan_ok x1 hl, Option.bind_some, jobEta, planEta, h1, h2, eqJob_refl x0 s, eqPlan_refl x1 hl]
  simp
end
end Go.OAI
