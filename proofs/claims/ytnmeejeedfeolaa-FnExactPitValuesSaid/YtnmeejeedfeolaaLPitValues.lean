/- PitValues: the law in plain words. -/
import Derived.Test.YtnmeejeedfeolaaPs
import Derived.Test.YtnmeejeedfeolaaGPitValues
namespace Go.OAI
set_option linter.unusedVariables false
noncomputable section

/-- v added to all cells from k on. -/
def aF (L : List Int) (k : Nat) (v : Int) : List Int := (List.range L.length).map fun i => if k ≤ i then L.getD i 0 + v else L.getD i 0
theorem aF_len (L : List Int) (k : Nat) (v : Int) : (aF L k v).length = L.length := by simp [aF]
theorem aF_get {L : List Int} {k : Nat} {v : Int} {i : Nat} (h : i < (aF L k v).length) : (aF L k v)[i] = if k ≤ i then L.getD i 0 + v else L.getD i 0 := by simp [aF]
theorem aF_end (L : List Int) (v : Int) : aF L L.length v = L := by
  refine List.ext_getElem (aF_len _ _ _) fun i h1 h2 => ?_
  rw [aF_get]
  have : ¬ L.length ≤ i := by omega
  simp [this, h2]
theorem aF_set {L : List Int} {k : Nat} (v : Int) (h : k < L.length) : aF (L.set k (L[k] + v)) (k + 1) v = aF L k v := by
  refine List.ext_getElem (by simp [aF_len]) fun i h1 h2 => ?_
  rw [aF_get, aF_get]
  have hi : i < L.length := by rw [aF_len] at h2; exact h2
  by_cases c : i = k
  · subst c
    have c1 : ¬ i + 1 ≤ i := by omega
    simp [hi, c1]
  · have e : (L.set k (L[k] + v)).getD i 0 = L.getD i 0 := by simp [Ne.symm c]
    rw [e]
    by_cases c2 : k ≤ i
    · have : k + 1 ≤ i := by omega
      simp [c2, this]
    · have : ¬ k + 1 ≤ i := by omega
      simp [c2, this]
theorem pre_set {L : List Int} {k : Nat} (v : Int) (h : k < L.length) (i : Nat) : pre (L.set k (L.getD k 0 + v)) i = if k < i then pre L i + v else pre L i := by
  unfold pre
  rw [List.take_set]
  by_cases c : k < i
  · have hk : k < (L.take i).length := by rw [List.length_take]; omega
    have e : L.getD k 0 = (L.take i).getD k 0 := by simp [List.getElem?_take, c]
    rw [e, sum_set _ _ _ hk]
    simp [c]
  · rw [List.set_eq_of_length_le (by rw [List.length_take]; omega)]
    simp [c]
theorem sums_set {L : List Int} {k : Nat} (v : Int) (h : k < L.length) : sums (L.set k (L.getD k 0 + v)) = aF (sums L) k v := by
  refine List.ext_getElem (by simp [aF_len, sums_len]) fun i h1 h2 => ?_
  have hi : i < (sums L).length := by rw [aF_len] at h2; exact h2
  rw [sums_get, aF_get, pre_set v h]
  have e : (sums L).getD i 0 = pre L (i + 1) := by rw [← sums_get hi]; simp [hi]
  rw [e]
  by_cases c : k ≤ i
  · have : k < i + 1 := by omega
    simp [c, this]
  · have : ¬ k < i + 1 := by omega
    simp [c, this]
theorem sums_zero (n : Nat) : sums (List.replicate n 0) = List.replicate n 0 := by
  refine List.ext_getElem (by simp [sums_len]) fun i h1 h2 => ?_
  rw [sums_get]
  simp [pre, List.take_replicate]
theorem pit_inner (i : Nat) (e : Int) (V : List Int) (n : Nat) (he : 0 ≤ e) (hn6 : n ≤ 6) (hv : i < V.length) (hv2 : -1000000 ≤ V[i] ∧ V[i] ≤ 1000000) :
    ∀ k, k ≤ n → ∀ L : List Int, L.length = n → (∀ j, k ≤ j → -4000000000000000000 ≤ L.getD j 0 ∧ L.getD j 0 ≤ 4000000000000000000) →
      impl_PitValues_l1 (i : Int) e V (n : Int) (k : Int) L = some (aF L k V[i]) := by
  refine down (fun L hL hb => ?_) fun k hk ih L hL hb => ?_
  · rw [impl_PitValues_l1_eq]; unfold impl_PitValues_l1K
    rw [lt_out (Nat.le_refl _)]
    have c : e ≥ 0 := he
    simp only [c, decide_true, cond_true]
    rw [← hL, aF_end]
  · have hkL : k < L.length := by omega
    have hg : L.getD k 0 = L[k] := by simp [hkL]
    have hbk := hb k (Nat.le_refl _)
    rw [hg] at hbk
    rw [impl_PitValues_l1_eq]; unfold impl_PitValues_l1K
    have c : e ≥ 0 := he
    simp only [c, decide_true, cond_true]
    rw [lt_in hk, ck_in hkL, lat_nat hv, getD_nat hkL, wr_succ hk (by omega)]
    simp only [Option.bind_some]
    rw [ck_in hkL, wr (by omega) (by omega)]
    have e3 : (0 : Nat) + ((k : Int)).toNat = k := by omega
    rw [e3, ih (L.set k (L[k] + V[i])) (by simp [hL]) (fun j hj => by
      have : (L.set k (L[k] + V[i])).getD j 0 = L.getD j 0 := by
        have : k ≠ j := by omega
        simp [this]
      rw [this]; exact hb j (by omega)), aF_set _ hkL]
theorem pit_loops (j : DJob) (p : DPlan) (J : JobOk j) (Q : PlanOk j p) : ∀ i, i ≤ p.2.1.length → ∀ L : List Int, L.length = j.2.2.2.2.1.toNat → Bd (1000000 * (i : Int)) L →
    ∃ R : List Int, impl_PitValues_l0 p.2.1 (p.2.1.length : Int) j.2.2.1 j.2.2.2.2.1 (i : Int) (sums L) = some (sums R) ∧
      spec_PitValues_l0 p.2.1 (p.2.1.length : Int) j.2.2.1 (i : Int) L = some R ∧ R.length = j.2.2.2.2.1.toNat ∧ Bd 384000000000000 R := by
  have hlen := Q.len
  have hper := J.per
  have hn := J.n2
  refine down (fun L hL hb => ?_) fun i hi ih L hL hb => ?_
  · rw [impl_PitValues_l0_eq, spec_PitValues_l0_eq]; unfold impl_PitValues_l0K spec_PitValues_l0K
    rw [lt_out (Nat.le_refl _), lt_out (Nat.le_refl _)]
    exact ⟨L, rfl, rfl, hL, hb.mono (by omega)⟩
  · have hv : i < j.2.2.1.length := by have := J.lv; omega
    have hvb := J.v _ (List.getElem_mem hv)
    have hw := Q.w _ (List.getElem_mem hi)
    rw [impl_PitValues_l0_eq, spec_PitValues_l0_eq]; unfold impl_PitValues_l0K spec_PitValues_l0K
    rw [lt_in hi, lt_in hi, lat_nat hi, wr_succ hi (by omega)]
    simp only [Option.bind_some]
    by_cases c : p.2.1[i] ≥ 0
    · obtain ⟨k, hk⟩ := Int.eq_ofNat_of_zero_le c
      have hkL : k < L.length := by omega
      have e1 : (if p.2.1[i] > 0 then p.2.1[i] else 0) = (k : Int) := by split <;> omega
      have e2 : j.2.2.2.2.1 = ((j.2.2.2.2.1.toNat : Nat) : Int) := by omega
      have e4 : L.getD k 0 = L[k] := by simp [hkL]
      have hbL := hb _ (List.getElem_mem hkL)
      have hs := pre_bound (B := 1000000 * (i : Int)) (by omega) hb
      have hin := pit_inner i p.2.1[i] j.2.2.1 j.2.2.2.2.1.toNat c (by omega) hv hvb k (by omega) (sums L) (by rw [sums_len]; exact hL) (fun t _ => by
        by_cases ht : t < (sums L).length
        · have e5 : (sums L).getD t 0 = (sums L)[t] := by simp [ht]
          rw [e5, sums_get]
          rw [sums_len] at ht
          have h3 := hs (t + 1) (by omega)
          have h4 : 1000000 * (i : Int) * ((t + 1 : Nat) : Int) ≤ 1000000 * 120 * 6 := Int.mul_le_mul (by omega) (by omega) (by omega) (by omega)
          omega
        · have e5 : (sums L).getD t 0 = 0 := by simp [List.getElem?_eq_none (Nat.le_of_not_lt ht)]
          omega)
      rw [e1, e2, hin]
      simp only [Option.bind_some, decide_eq_true_eq, c, decide_true, cond_true]
      rw [← sums_set _ hkL, e4, ← e2, hk, lat_nat hv, getD_nat hkL]
      have hkk : (k : Int) < (L.length : Int) := by omega
      simp only [Option.bind_some, Bool.true_and, hkk, decide_true, cond_true]
      have e3 : (0 : Nat) + ((k : Int)).toNat = k := by omega
      rw [e3, wr (by omega) (by omega)]
      exact ih _ (by simp [hL]) ((hb.mono (by omega)).set (by omega))
    · rw [impl_PitValues_l1_eq]; unfold impl_PitValues_l1K
      simp only [c, decide_false, cond_false, Option.bind_some]
      exact ih L hL (hb.mono (by omega))
theorem PitValues_law (x0 : DJob) (x1 : DPlan) (w0 : TJob.wf x0) (w1 : TPlan.wf x1) : laws_FnExactPitValues x0 x1 = some true := by
  unfold laws_FnExactPitValues laws_FnExactPitValuesK
  refine job_head x0 w0 fun s y1 hy0 hy1 => plan_head x1 w1 y1 hy0 hy1 fun hl y2 _ _ => ?_
  obtain ⟨v, b, h1, h2, h3⟩ : ∃ v b, impl_PitValues x0 x1 = some (v, b) ∧ spec_PitValues x0 x1 = some (v, b) ∧ v.length ≤ 1048576 := by
    unfold impl_PitValues impl_PitValuesK spec_PitValues spec_PitValuesK
    rw [IsJob_ok x0 s, isPlan_ok x0 x1 hl, plBoth_ok x0 x1 s hl]
    cases hj : jobB x0 with
    | false => exact ⟨_, _, rfl, rfl, Nat.zero_le _⟩
    | true =>
      cases hp : planB x0 x1 with
      | false => exact ⟨_, _, rfl, rfl, Nat.zero_le _⟩
      | true =>
        have J := jobB_spec hj
        have Q := planB_spec hp
        have hper := J.per
        have e2 : x0.2.2.2.2.1 = ((x0.2.2.2.2.1.toNat : Nat) : Int) := by omega
        obtain ⟨R, g1, g2, g3, g4⟩ := pit_loops x0 x1 J Q 0 (Nat.zero_le _) (List.replicate x0.2.2.2.2.1.toNat 0) (by simp) (fun x hx => by
          have := List.eq_of_mem_replicate hx; omega)
        rw [sums_zero] at g1
        have g1 : impl_PitValues_l0 x1.2.1 (x1.2.1.length : Int) x0.2.2.1 x0.2.2.2.2.1 0 (List.replicate x0.2.2.2.2.1.toNat 0) = some (sums R) := g1
        have g2 : spec_PitValues_l0 x1.2.1 (x1.2.1.length : Int) x0.2.2.1 0 (List.replicate x0.2.2.2.2.1.toNat 0) = some R := g2
        have hc : (decide ((0 : Int) ≤ x0.2.2.2.2.1) && (decide (x0.2.2.2.2.1 ≤ x0.2.2.2.2.1) && decide (x0.2.2.2.2.1 ≤ 1099511627776))) = true := by
          simp only [Bool.and_eq_true, decide_eq_true_eq]; omega
        simp only [hc, cond_true, Bool.not_true, cond_false, Option.bind_some, Bool.and_self, g1, g2, woSums_ok R g4 (by omega)]
        exact ⟨sums R, true, rfl, rfl, by rw [sums_len]; omega⟩
  obtain ⟨k', m1, m2, m3⟩ := markJob_ok x0 s 1 (by omega) (by omega)
  obtain ⟨l', n1, n2, n3⟩ := markPlan_ok x1.1 x1.2.1 hl k' (by omega) (by omega)
  obtain ⟨l2, o1, o2, o3⟩ := markIntS_ok v (by omega) 1 (by omega) (by omega)
  have c1 : ¬ k' + (x1.2.1.length : Int) < 0 := by omega
  have c2 : ¬ 1 + (v.length : Int) < 0 := by omega
  simp only [toJob_ok x0 s, toPlan_ok x1 hl, Option.bind_some, jobEta, planEta, h1, h2, eqIntS_refl v (by omega), eqJob_refl x0 s, eqPlan_refl x1 hl, m1, n1, o1, o3, c1, c2]
  simp
end
end Go.OAI
