/- BestMultipliers: the law in plain words. -/
import Derived.Test.YtokaffjipngphaaPrb
import Derived.Test.YtokaffjipngphaaGBestMultipliers
namespace Go.OAI
set_option linter.unusedVariables false
noncomputable section

/-- The bounds of the first lists, and which was least. -/
theorem best_loops (j : DJob) (J : JobOk j) (L : List (List Int)) (hL : L.length ≤ 12) (hM : ∀ l ∈ L, MulOk j l) (s : JobSm j) (hj : jobB j = true) (hB : ∀ l ∈ L, mulB j l = true) (hl : ∀ l ∈ L, l.length ≤ 1048576) :
    ∀ i, i ≤ L.length → ∀ best least : Int, ∃ v, impl_BestMultipliers_l1 L (L.length : Int) j.1 j.2.1 j.2.2.1 j.2.2.2.1.1 j.2.2.2.1.2.1 j.2.2.2.2.1 j.2.2.2.2.2.1 j.2.2.2.2.2.2.1 best least (i : Int) = some v ∧
      spec_BestMultipliers_l0 L (L.length : Int) j.1 j.2.1 j.2.2.1 j.2.2.2.1.1 j.2.2.2.1.2.1 j.2.2.2.2.1 j.2.2.2.2.2.1 j.2.2.2.2.2.2.1 best least (i : Int) = some (.inr v) := by
  refine down (fun b c => ?_) fun i hi ih b c => ?_
  · rw [impl_BestMultipliers_l1_eq, spec_BestMultipliers_l0_eq]
    unfold impl_BestMultipliers_l1K spec_BestMultipliers_l0K
    rw [lt_out (Nat.le_refl _), lt_out (Nat.le_refl _)]
    exact ⟨b, rfl, rfl⟩
  · have hm := List.getElem_mem hi
    obtain ⟨v, W, g1, g2, g3⟩ := bound_ok J (hM _ hm)
    have g4 := reGood_ok j s L[i] (by have := hl _ hm; omega)
    rw [hj, hB _ hm] at g4
    rw [impl_BestMultipliers_l1_eq, spec_BestMultipliers_l0_eq]
    unfold impl_BestMultipliers_l1K spec_BestMultipliers_l0K
    rw [lt_in hi, lt_in hi, lat_nat hi, wr_succ hi (by omega)]
    simp only [Option.bind_some, jobEta, g1, g2, g3, g4, Bool.and_self, Bool.not_true, cond_false]
    cases hz : ((i : Int) == 0) with
    | true => simp only [cond_true]; exact ih _ _
    | false =>
      simp only [cond_false]
      cases hc : decide (v < c) with
      | true => simp only [cond_true]; exact ih _ _
      | false => simp only [cond_false]; exact ih _ _
theorem bad_loop (j : DJob) (J : JobOk j) (L : List (List Int)) (hL : L.length ≤ 12) (s : JobSm j) (hj : jobB j = true) (hl : ∀ l ∈ L, l.length ≤ 1048576) (m : Nat) (hm : m < L.length) (hbad : mulB j L[m] = false) (hgood : ∀ i (h : i < L.length), i < m → mulB j L[i] = true) :
    ∀ i, i ≤ m → ∀ best least : Int, spec_BestMultipliers_l0 L (L.length : Int) j.1 j.2.1 j.2.2.1 j.2.2.2.1.1 j.2.2.2.1.2.1 j.2.2.2.2.1 j.2.2.2.2.2.1 j.2.2.2.2.2.2.1 best least (i : Int) = some (.inl (0, false)) := by
  refine down (fun b c => ?_) fun i hi ih b c => ?_
  · have g4 := reGood_ok j s L[m] (by have := hl _ (List.getElem_mem hm); omega)
    rw [hj, hbad] at g4
    rw [spec_BestMultipliers_l0_eq]
    unfold spec_BestMultipliers_l0K
    rw [lt_in hm, lat_nat hm]
    simp only [Option.bind_some, jobEta, g4]
    rfl
  · have hi' : i < L.length := by omega
    have hg := hgood i hi' hi
    obtain ⟨v, W, g1, g2, g3⟩ := bound_ok J (mulB_spec hg)
    have g4 := reGood_ok j s L[i] (by have := hl _ (List.getElem_mem hi'); omega)
    rw [hj, hg] at g4
    rw [spec_BestMultipliers_l0_eq]
    unfold spec_BestMultipliers_l0K
    rw [lt_in hi', lat_nat hi', wr_succ hi' (by omega)]
    simp only [Option.bind_some, jobEta, g3, g4, Bool.and_self, Bool.not_true, cond_false]
    cases hz : ((i : Int) == 0) with
    | true => simp only [cond_true]; exact ih _ _
    | false =>
      simp only [cond_false]
      cases hc : decide (v < c) with
      | true => simp only [cond_true]; exact ih _ _
      | false => simp only [cond_false]; exact ih _ _
theorem first_bad (p : Nat → Bool) : ∀ n : Nat, (∀ i, i < n → p i = true) ∨ ∃ m, m < n ∧ p m = false ∧ ∀ i, i < m → p i = true
  | 0 => .inl fun i hi => by omega
  | n + 1 => by
    rcases first_bad p n with h | ⟨m, h1, h2, h3⟩
    · cases hp : p n with
      | true =>
        refine .inl fun i hi => ?_
        by_cases c : i = n
        · rw [c]; exact hp
        · exact h i (by omega)
      | false => exact .inr ⟨n, by omega, hp, h⟩
    · exact .inr ⟨m, by omega, h2, h3⟩
theorem BestMultipliers_law (x0 : DJob) (x1 : List (List Int)) (w0 : TJob.wf x0) (w1 : (Ty.slice (.slice (.int .i64))).wf x1) : laws_FnExactBestMultipliers x0 x1 = some true := by
  unfold laws_FnExactBestMultipliers laws_FnExactBestMultipliersK
  refine job_head x0 w0 fun s y1 hy0 hy1 => ?_
  obtain ⟨y2, z1, z2⟩ := szIntSS_ok x1 w1.1 (fun r hr => (w1.2 r hr).1) y1 hy0 (by omega)
  rw [z1]
  rcases z2 with z2 | ⟨z2, z3, z4, z5⟩
  · simp [z2]
  · have hy2 : ¬ y2 < 0 := by omega
    have hlr : ∀ r ∈ x1, r.length ≤ 1048576 := fun r hr => by have := z5 r hr; omega
    simp only [Option.bind_some, hy2, decide_false, cond_false]
    obtain ⟨v, h1, h2⟩ : ∃ v, impl_BestMultipliers x0 x1 = some v ∧ spec_BestMultipliers x0 x1 = some v := by
      unfold impl_BestMultipliers impl_BestMultipliersK spec_BestMultipliers spec_BestMultipliersK
      rw [IsJob_ok x0 s, plJob_ok x0 s]
      cases hj : jobB x0 with
      | false => exact ⟨_, rfl, rfl⟩
      | true =>
        have J := jobB_spec hj
        have e1 : spec_l1In (x1.length : Int) 1 12 = some (decide (1 ≤ (x1.length : Int)) && decide ((x1.length : Int) ≤ 12)) := by
          unfold spec_l1In spec_l1InK
          simp only [dec_ge]
          cases decide ((1 : Int) ≤ (x1.length : Int)) <;> rfl
        rw [e1]
        simp only [Bool.not_true, cond_false, Option.bind_some, dec_lt, dec_gt]
        by_cases c1 : (1 : Int) ≤ (x1.length : Int)
        · by_cases c2 : (x1.length : Int) ≤ 12
          · simp only [c1, c2, decide_true, Bool.not_true, cond_false, Bool.and_self]
            have hm0 : ∀ i (h : i < x1.length), impl_areMultipliers x0 x1[i] = some (mulB x0 x1[i]) := fun i h => areMultipliers_ok x0 _ (by have := hlr _ (List.getElem_mem h); omega)
            have hall := allL_loop (f := fun i => impl_BestMultipliers_l0 x1 (x1.length : Int) x0.1 x0.2.1 x0.2.2.1 x0.2.2.2.1.1 x0.2.2.2.1.2.1 x0.2.2.2.2.1 x0.2.2.2.2.2.1 x0.2.2.2.2.2.2.1 i) (l := x1) (good := fun l => mulB x0 l) (y := .inr ()) (n := .inl (0, false)) (by
                show impl_BestMultipliers_l0 _ _ _ _ _ _ _ _ _ _ _ = _
                rw [impl_BestMultipliers_l0_eq]; unfold impl_BestMultipliers_l0K
                rw [lt_out (Nat.le_refl _)]) fun i hi => by
                show impl_BestMultipliers_l0 _ _ _ _ _ _ _ _ _ _ _ = _
                rw [impl_BestMultipliers_l0_eq]; unfold impl_BestMultipliers_l0K
                rw [lt_in hi, lat_nat hi, wr_succ hi (by omega)]
                simp only [Option.bind_some, jobEta, hm0 i hi]
                cases mulB x0 x1[i] <;> rfl
            rw [hall]
            rcases first_bad (fun i => mulB x0 (x1.getD i [])) x1.length with hg | ⟨m, m1, m2, m3⟩
            · have ha : x1.all (fun l => mulB x0 l) = true := List.all_eq_true.2 fun l hl => by
                obtain ⟨i, hi, rfl⟩ := List.getElem_of_mem hl
                have := hg i hi
                rwa [gd hi] at this
              have hB : ∀ l ∈ x1, mulB x0 l = true := fun l hl => List.all_eq_true.1 ha l hl
              obtain ⟨v, g1, g2⟩ := best_loops x0 J x1 (by omega) (fun l hl => mulB_spec (hB l hl)) s hj hB hlr 0 (Nat.zero_le _) 0 0
              have g1 : impl_BestMultipliers_l1 x1 (x1.length : Int) x0.1 x0.2.1 x0.2.2.1 x0.2.2.2.1.1 x0.2.2.2.1.2.1 x0.2.2.2.2.1 x0.2.2.2.2.2.1 x0.2.2.2.2.2.2.1 0 0 0 = _ := g1
              have g2 : spec_BestMultipliers_l0 x1 (x1.length : Int) x0.1 x0.2.1 x0.2.2.1 x0.2.2.2.1.1 x0.2.2.2.1.2.1 x0.2.2.2.2.1 x0.2.2.2.2.2.1 x0.2.2.2.2.2.2.1 0 0 0 = _ := g2
              simp only [ha, if_true, Option.bind_some, sumO, g1, g2]
              exact ⟨_, rfl, rfl⟩
            · rw [gd m1] at m2
              have ha : x1.all (fun l => mulB x0 l) = false := by
                rw [List.all_eq_false]
                exact ⟨_, List.getElem_mem m1, by rw [m2]; simp⟩
              have g2 := bad_loop x0 J x1 (by omega) s hj hlr m m1 m2 (fun i hi him => by have := m3 i him; rwa [gd hi] at this) 0 (Nat.zero_le _) 0 0
              have g2 : spec_BestMultipliers_l0 x1 (x1.length : Int) x0.1 x0.2.1 x0.2.2.1 x0.2.2.2.1.1 x0.2.2.2.1.2.1 x0.2.2.2.2.1 x0.2.2.2.2.2.1 x0.2.2.2.2.2.2.1 0 0 0 = _ := g2
              rw [ha]
              simp only [Bool.false_eq_true, if_false, Option.bind_some, sumO, g2]
              exact ⟨_, rfl, rfl⟩
          · simp only [c1, c2, decide_true, decide_false, Bool.not_true, Bool.not_false, cond_false, cond_true, Bool.and_false]
            exact ⟨_, rfl, rfl⟩
        · simp only [c1, decide_false, Bool.not_false, cond_true, Bool.false_and]
          exact ⟨_, rfl, rfl⟩
    have hl1 : x1.length ≤ 1099511627776 := by omega
    have hlr' : ∀ r ∈ x1, r.length ≤ 1099511627776 := fun r hr => by have := hlr r hr; omega
    simp only [toJob_ok x0 s, toIntSS_ok x1 hl1 hlr', Option.bind_some, jobEta, h1, h2, eqJob_refl x0 s, eqIntSS_refl x1 hl1 hlr']
    simp
end
end Go.OAI
