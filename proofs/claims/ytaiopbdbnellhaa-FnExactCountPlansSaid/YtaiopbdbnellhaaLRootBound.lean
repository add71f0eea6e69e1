/- RootBound: the law in plain words. -/
import Derived.Test.YtaiopbdbnellhaaPs
import Derived.Test.YtaiopbdbnellhaaPsr
import Derived.Test.YtaiopbdbnellhaaPem
import Derived.Test.YtaiopbdbnellhaaPt
import Derived.Test.YtaiopbdbnellhaaGRootBound
namespace Go.OAI
set_option linter.unusedVariables false
noncomputable section

def top (D : Int) (V : List Int) : Int := (V.map fun v => (if v > 0 then v else 0) * D).sum
theorem top_bound {D : Int} (h0 : 0 ≤ D) (h1 : D ≤ 3200000) : ∀ V : List Int, (∀ v ∈ V, -1000000 ≤ v ∧ v ≤ 1000000) → 0 ≤ top D V ∧ top D V ≤ 3200000000000 * (V.length : Int)
  | [], _ => by simp [top]
  | v :: V, h => by
    have ih := top_bound h0 h1 V fun x hx => h x (List.mem_cons_of_mem _ hx)
    have hv := h v (List.mem_cons_self ..)
    have e : top D (v :: V) = (if v > 0 then v else 0) * D + top D V := by simp [top]
    have hm := mul_bound (v := if v > 0 then v else 0) (f := D) (by split <;> omega) ⟨h0, h1⟩
    have h2 : 0 ≤ (if v > 0 then v else 0) * D := Int.mul_nonneg (by split <;> omega) h0
    rw [e]
    simp only [List.length_cons]
    omega
theorem bound_loop (j : DJob) (S : SearchOk j) (D : Int) (hD : j.2.2.2.2.2.2.1 ^ (j.2.2.2.2.1 - 1).toNat = D) (h0 : 0 ≤ D) (h1 : D ≤ 3200000) : ∀ i, i ≤ j.2.2.1.length → ∀ a : Int, 0 ≤ a → a ≤ 3200000000000 * (i : Int) →
    spec_srBound_l0 j.2.2.1 (j.2.2.1.length : Int) j.2.2.2.2.1 j.2.2.2.2.2.2.1 a (i : Int) = some (a + top D (j.2.2.1.drop i)) := by
  have hlv := S.lv
  have hn := S.n12
  have hper := S.per
  have hden := S.den
  have hnum := S.num
  refine down (fun a h2 h3 => ?_) fun i hi ih a h2 h3 => ?_
  · rw [spec_srBound_l0_eq]; unfold spec_srBound_l0K
    rw [lt_out (Nat.le_refl _), List.drop_length]; simp [top]
  · have hv := S.v _ (List.getElem_mem hi)
    have e : j.2.2.2.2.1 - 1 = (((j.2.2.2.2.1 - 1).toNat : Nat) : Int) := by omega
    have p2 : spec_srPower j.2.2.2.2.2.2.1 (j.2.2.2.2.1 - 1) = some D := by
      have := spec_srPower_ok j.2.2.2.2.2.2.1 (by omega) (by omega) (j.2.2.2.2.1 - 1).toNat (by omega)
      rw [← e, hD] at this; exact this
    have hm := mul_bound (v := if j.2.2.1[i] > 0 then j.2.2.1[i] else 0) (f := D) (by split <;> omega) ⟨h0, h1⟩
    have h4 : 0 ≤ (if j.2.2.1[i] > 0 then j.2.2.1[i] else 0) * D := Int.mul_nonneg (by split <;> omega) h0
    have hmost : spec_l1Most j.2.2.1[i] 0 = some (if j.2.2.1[i] > 0 then j.2.2.1[i] else 0) := by
      unfold spec_l1Most spec_l1MostK
      by_cases c : j.2.2.1[i] > 0 <;> simp [c]
    rw [spec_srBound_l0_eq]; unfold spec_srBound_l0K
    rw [loop_step hi, hmost, wr (n := j.2.2.2.2.1 - 1) (by omega) (by omega), p2, wr_succ hi (by omega)]
    simp only [Option.bind_some]
    rw [wr (n := (if j.2.2.1[i] > 0 then j.2.2.1[i] else 0) * D) (by omega) (by omega), wr (by omega) (by omega), ih _ (by omega) (by omega), drop_cons hi]
    simp only [top, List.map_cons, List.sum_cons]
    congr 1
    omega
theorem rest_loop (j : DJob) (S : SearchOk j) (D : Int) (hD : j.2.2.2.2.2.2.1 ^ (j.2.2.2.2.1 - 1).toNat = D) (h0 : 0 ≤ D) (h1 : D ≤ 3200000) : ∀ k, k ≤ j.2.2.1.length → ∀ R : List Int, R.length = j.2.2.1.length + 1 → R.getD k 0 = top D (j.2.2.1.drop k) → (∀ m, m < k → R.getD m 0 = 0) → ∃ R',
    impl_newSearch_l0 j.2.2.1 j.2.2.2.2.1 j.2.2.2.2.2.2.1 ((k : Int) - 1) R = some R' ∧ R'.length = j.2.2.1.length + 1 ∧ R'.getD 0 0 = top D j.2.2.1 ∧ (∀ m, k ≤ m → R'.getD m 0 = R.getD m 0) ∧ (∀ m, m ≤ k → R'.getD m 0 = top D (j.2.2.1.drop m)) := by
  have hlv := S.lv
  have hn := S.n12
  have hper := S.per
  have hden := S.den
  have hnum := S.num
  intro k
  induction k with
  | zero =>
    intro _ R hR hk _
    rw [impl_newSearch_l0_eq]; unfold impl_newSearch_l0K
    have c1 : ¬ (((0 : Nat) : Int) - 1 ≥ 0) := by omega
    simp only [c1, decide_false, cond_false]
    refine ⟨R, rfl, hR, by rw [hk]; simp, fun _ _ => rfl, fun m hm => ?_⟩
    have : m = 0 := by omega
    subst this; exact hk
  | succ k ih =>
    intro hkn R hR hk hz
    have hi : k < j.2.2.1.length := hkn
    have hv := S.v _ (List.getElem_mem hi)
    have e : j.2.2.2.2.1 - 1 = (((j.2.2.2.2.1 - 1).toNat : Nat) : Int) := by omega
    have p2 : impl_power j.2.2.2.2.2.2.1 (j.2.2.2.2.1 - 1) = some D := by
      have := impl_power_ok j.2.2.2.2.2.2.1 (by omega) (by omega) (j.2.2.2.2.1 - 1).toNat (by omega)
      rw [← e, hD] at this; exact this
    have hm := mul_bound (v := if j.2.2.1[k] > 0 then j.2.2.1[k] else 0) (f := D) (by split <;> omega) ⟨h0, h1⟩
    have ht := top_bound h0 h1 (j.2.2.1.drop (k + 1)) fun x hx => S.v x (List.mem_of_mem_drop hx)
    rw [List.length_drop] at ht
    have e1 : ((k + 1 : Nat) : Int) - 1 = (k : Int) := by omega
    have c1 : (k : Int) ≥ 0 := by omega
    rw [e1, impl_newSearch_l0_eq]; unfold impl_newSearch_l0K
    rw [wr (n := (k : Int) + 1) (by omega) (by omega), wr (n := j.2.2.2.2.1 - 1) (by omega) (by omega), p2, wr (n := (k : Int) - 1) (by omega) (by omega)]
    have hin : k + 1 < R.length := by omega
    have e2 : (k : Int) + 1 = ((k + 1 : Nat) : Int) := by omega
    rw [e2, ck_in hin, lat_nat hi]
    have hkR : (k : Int) < (R.length : Int) := by omega
    have e3 : R.getD (0 + ((k + 1 : Nat) : Int).toNat) 0 = top D (j.2.2.1.drop (k + 1)) := by
      rw [← hk]
      congr 1
      omega
    simp only [c1, hkR, Bool.true_and, decide_true, cond_true, Option.bind_some, e3]
    rw [wr (n := (if j.2.2.1[k] > 0 then j.2.2.1[k] else 0) * D) (by omega) (by omega), wr (by omega) (by omega)]
    have e4 : (0 : Nat) + ((k : Int)).toNat = k := by omega
    rw [e4]
    have ed : top D (j.2.2.1.drop k) = (if j.2.2.1[k] > 0 then j.2.2.1[k] else 0) * D + top D (j.2.2.1.drop (k + 1)) := by
      rw [drop_cons hi]; simp only [top, List.map_cons, List.sum_cons]
    obtain ⟨R', g1, g2, g3, g4, g5⟩ := ih (by omega) (R.set k (top D (j.2.2.1.drop (k + 1)) + (if j.2.2.1[k] > 0 then j.2.2.1[k] else 0) * D)) (by simp [hR]) (by
      have : k < R.length := by omega
      rw [ed, List.getD_eq_getElem?_getD, List.getElem?_set_self this, Option.getD_some, Int.add_comm]) (fun m hm => by
      have hne : k ≠ m := by omega
      have := hz m (by omega)
      simpa [hne] using this)
    refine ⟨R', g1, g2, g3, fun m hm => ?_, fun m hm => ?_⟩
    · rw [g4 m (by omega)]
      have hne : k ≠ m := by omega
      simp [hne]
    · by_cases c : m ≤ k
      · exact g5 m c
      · have : m = k + 1 := by omega
        subst this
        rw [g4 _ (by omega)]
        have hne : k ≠ k + 1 := by omega
        rw [← hk]
        simp
theorem RootBound_law (x0 : DJob) (w0 : TJob.wf x0) : laws_FnExactRootBound x0 = some true := by
  unfold laws_FnExactRootBound laws_FnExactRootBoundK
  refine job_head x0 w0 fun s y1 hy0 hy1 => ?_
  obtain ⟨v, h1, h2⟩ : ∃ v, impl_RootBound x0 = some v ∧ spec_RootBound x0 = some v := by
    unfold impl_RootBound impl_RootBoundK spec_RootBound spec_RootBoundK
    rw [IsSearchable_ok x0 s, srGood_ok x0 s]
    cases hj : searchB x0 with
    | false => exact ⟨_, rfl, rfl⟩
    | true =>
      obtain ⟨S, hjb⟩ := searchB_spec hj
      have J := S.toJobOk
      have hlv := S.lv
      have hn := S.n12
      have hn1 := S.n1
      have hper := S.per
      have hden := S.den
      have hnum := S.num
      have hp := pow_le20 (b := x0.2.2.2.2.2.2.1) (by omega) (by omega) (x0.2.2.2.2.1 - 1).toNat
      have hp20 := pow20 (n := (x0.2.2.2.2.1 - 1).toNat) (by omega)
      refine ⟨(top (x0.2.2.2.2.2.2.1 ^ (x0.2.2.2.2.1 - 1).toNat) x0.2.2.1, true), ?_, ?_⟩
      · unfold impl_newSearch impl_newSearchK
        have te := tonnesIn_ok x0 (x0.2.2.2.2.1, List.replicate x0.1.length (-1), ()) J (emptyPlanOk x0 J)
        rw [implEmpty_ok x0 J, wr (n := (x0.1.length : Int) + 1) (by omega) (by omega), wr (n := (x0.1.length : Int) - 1) (by omega) (by omega)]
        have e1 : (x0.1.length : Int) + 1 = ((x0.1.length + 1 : Nat) : Int) := by omega
        simp only [Bool.not_true, cond_false, Option.bind_some, te]
        rw [e1, cap_ok (by omega)]
        obtain ⟨R', g1, g2, g3, g4, g5⟩ := rest_loop x0 S _ rfl (by omega) (by omega) x0.2.2.1.length (Nat.le_refl _) (List.replicate (x0.1.length + 1) 0) (by simp [hlv]) (by
          rw [List.drop_length]
          simp [hlv, top]) (fun m hm => by
          have : m < x0.1.length + 1 := by omega
          simp [this])
        rw [hlv] at g1
        simp only [Int.toNat_natCast, Option.bind_some, g1]
        have c : (0 : Int) < (R'.length : Int) := by omega
        simp only [c, decide_true, cond_true]
        rw [show (0 : Nat) + 0 = 0 from rfl, g3]
      · unfold spec_srBound spec_srBoundK
        rw [srWorth_ok x0 [] J (by simp) (by simp)]
        have c : (decide ((0 : Int) ≤ (([] : List Int).length : Int)) && (decide ((([] : List Int).length : Int) ≤ (x0.2.2.1.length : Int)) && decide ((x0.2.2.1.length : Int) ≤ (x0.2.2.1.length : Int)))) = true := by
          simp
        have e5 : (x0.2.2.1.drop (((([] : List Int).length : Nat) : Int).toNat)).take ((x0.2.2.1.length : Int).toNat - ((([] : List Int).length : Nat) : Int).toNat) = x0.2.2.1 := by simp
        have k0 := bound_loop x0 S _ rfl (by omega) (by omega) 0 (Nat.zero_le _) 0 (by omega) (by omega)
        have k0 : spec_srBound_l0 x0.2.2.1 (x0.2.2.1.length : Int) x0.2.2.2.2.1 x0.2.2.2.2.2.2.1 0 0 = some (0 + top (x0.2.2.2.2.2.2.1 ^ (x0.2.2.2.2.1 - 1).toNat) x0.2.2.1) := k0
        have ew : worth x0 [] x0.2.2.1 = 0 := by cases x0.2.2.1 <;> rfl
        simp only [Bool.not_true, cond_false, Option.bind_some, c, cond_true, e5, ew, k0, Int.zero_add]
  simp only [toJob_ok x0 s, Option.bind_some, jobEta, h1, h2, eqJob_refl x0 s]
  simp
end
end Go.OAI
