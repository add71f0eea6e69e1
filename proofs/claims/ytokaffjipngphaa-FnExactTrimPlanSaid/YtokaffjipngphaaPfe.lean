/- Which plans are feasible. -/
import Derived.Test.YtokaffjipngphaaPt
import Derived.Test.YtokaffjipngphaaPs
import Derived.Test.YtokaffjipngphaaGF
namespace Go.OAI
set_option linter.unusedVariables false
noncomputable section

theorem PlanOk.set {j : DJob} {p : DPlan} (Q : PlanOk j p) {i : Nat} {t : Int} (h1 : -1 ≤ t) (h2 : t < j.2.2.2.2.1) : PlanOk j (p.1, p.2.1.set i t, ()) :=
  ⟨Q.per, by simp [Q.len], fun x hx => by
    rcases List.mem_or_eq_of_mem_set hx with h | h
    · exact Q.w x h
    · omega⟩
theorem copyPlan_ok (p : DPlan) (hl : p.2.1.length ≤ 1048576) : impl_copyPlan p = some (p.1, p.2.1) := by
  unfold impl_copyPlan impl_copyPlanK
  have hcap : ([] : List Int).length + p.2.1.length ≤ 1099511627776 := by simp; omega
  simp only [hcap, decide_true, cond_true, List.nil_append]
/-! ### Order -/
def arcB (w : List Int) (i : Nat) (a : Int) : Bool := decide (w.getD i 0 < 0) || (decide (0 ≤ w.getD a.toNat 0) && decide (w.getD a.toNat 0 ≤ w.getD i 0))
def ordB (j : DJob) (w : List Int) : Bool := allI (fun i r => r.all (arcB w i)) j.1
theorem keepsOrder_ok (j : DJob) (p : DPlan) (s : JobSm j) (J : JobOk j) (Q : PlanOk j p) (i : Nat) (hi : i < j.1.length) : impl_keepsOrder j p (i : Int) = some (j.1[i].all (arcB p.2.1 i)) := by
  have hlen := Q.len
  have hr : j.1[i].length ≤ 1048576 := s.r _ (List.getElem_mem hi)
  have hiw : i < p.2.1.length := by omega
  have hgi : p.2.1.getD i 0 = p.2.1[i] := by simp [hiw]
  have h1 : impl_keepsOrder_l0 (i : Int) j.1[i] (j.1[i].length : Int) p.2.1 0 = some (if j.1[i].all (arcB p.2.1 i) then .inr () else .inl false) := by
    refine allL_loop (f := fun k => impl_keepsOrder_l0 (i : Int) j.1[i] (j.1[i].length : Int) p.2.1 k) ?_ fun k hk => ?_
    · show impl_keepsOrder_l0 _ _ _ _ _ = _
      rw [impl_keepsOrder_l0_eq]; unfold impl_keepsOrder_l0K
      rw [lt_out (Nat.le_refl _)]
    · show impl_keepsOrder_l0 _ _ _ _ _ = _
      have ha := (J.arc i hi).1 _ (List.getElem_mem hk)
      have haw : j.1[i][k].toNat < p.2.1.length := by omega
      have hga : p.2.1.getD j.1[i][k].toNat 0 = p.2.1[j.1[i][k].toNat] := by simp [haw]
      rw [impl_keepsOrder_l0_eq]; unfold impl_keepsOrder_l0K
      rw [loop_step hk, wr_succ hk (by omega)]
      simp only [lat_nat hiw, lat_int ha.1 haw, Option.bind_some, arcB, hgi, hga]
      by_cases c1 : p.2.1[i] < 0
      · have c1' : ¬ p.2.1[i] ≥ 0 := by omega
        simp [c1, c1']
      · have c1' : p.2.1[i] ≥ 0 := by omega
        by_cases c2 : p.2.1[j.1[i][k].toNat] < 0
        · have c2' : ¬ 0 ≤ p.2.1[j.1[i][k].toNat] := by omega
          simp [c1, c1', c2, c2']
        · have c2' : 0 ≤ p.2.1[j.1[i][k].toNat] := by omega
          by_cases c3 : p.2.1[j.1[i][k].toNat] > p.2.1[i]
          · have c3' : ¬ p.2.1[j.1[i][k].toNat] ≤ p.2.1[i] := by omega
            simp [c1, c1', c2, c2', c3, c3']
          · have c3' : p.2.1[j.1[i][k].toNat] ≤ p.2.1[i] := by omega
            simp [c1, c1', c2, c2', c3, c3']
  unfold impl_keepsOrder impl_keepsOrderK
  rw [lat_nat hi]
  simp only [Option.bind_some, h1]
  cases j.1[i].all (arcB p.2.1 i) <;> simp [sumO]
def capB (j : DJob) (w : List Int) : Bool := (List.range j.2.2.2.2.1.toNat).all fun t => decide ((ton (zip3 w j.2.1 j.2.2.1) (t : Int)).1 ≤ j.2.2.2.1.1) && decide ((ton (zip3 w j.2.1 j.2.2.1) (t : Int)).2 ≤ j.2.2.2.1.2.1)
def feasB (j : DJob) (w : List Int) : Bool := ordB j w && capB j w
theorem tab_any (n : Nat) (f : Nat → Int × Int) (t : Nat) (h : t < n) : (tab n f)[t]'(by rw [tab_len]; exact h) = [(f t).1, (f t).2] := by simp [tab]
theorem isFeasible_ok (j : DJob) (p : DPlan) (s : JobSm j) (J : JobOk j) (Q : PlanOk j p) : impl_isFeasible j p = some (feasB j p.2.1) := by
  have hlen := Q.len
  have hn := J.n2
  have hper := J.per
  have h1 : impl_isFeasible_l0 (p.2.1.length : Int) j.1 j.2.1 j.2.2.1 j.2.2.2.1.1 j.2.2.2.1.2.1 j.2.2.2.2.1 j.2.2.2.2.2.1 j.2.2.2.2.2.2.1 p.1 p.2.1 0 = some (if ordB j p.2.1 then .inr () else .inl false) := by
    refine allI_loop (f := fun k => impl_isFeasible_l0 (p.2.1.length : Int) j.1 j.2.1 j.2.2.1 j.2.2.2.1.1 j.2.2.2.1.2.1 j.2.2.2.2.1 j.2.2.2.2.2.1 j.2.2.2.2.2.2.1 p.1 p.2.1 k) ?_ fun k hk => ?_
    · show impl_isFeasible_l0 _ _ _ _ _ _ _ _ _ _ _ _ = _
      rw [impl_isFeasible_l0_eq]; unfold impl_isFeasible_l0K
      rw [lt_out (by omega)]
    · show impl_isFeasible_l0 _ _ _ _ _ _ _ _ _ _ _ _ = _
      rw [impl_isFeasible_l0_eq]; unfold impl_isFeasible_l0K
      have hk2 : k < p.2.1.length := by omega
      have e := keepsOrder_ok j p s J Q k hk
      rw [lt_in hk2, jobEta, planEta, e, wr_succ hk2 (by omega)]
      cases j.1[k].all (arcB p.2.1 k) <;> simp
  have h2 : impl_isFeasible_l1 ((tonnes j p).length : Int) j.2.2.2.1.1 j.2.2.2.1.2.1 (tonnes j p) 0 = some (if capB j p.2.1 then .inr () else .inl false) := by
    have e : capB j p.2.1 = allI (fun i _ => decide ((ton (zip3 p.2.1 j.2.1 j.2.2.1) (i : Int)).1 ≤ j.2.2.2.1.1) && decide ((ton (zip3 p.2.1 j.2.1 j.2.2.1) (i : Int)).2 ≤ j.2.2.2.1.2.1)) (tonnes j p) := by
      rw [Bool.eq_iff_iff, allI_iff]
      simp only [capB, List.all_eq_true, List.mem_range, tonnes, tab_len]
    rw [e]
    refine allI_loop (f := fun k => impl_isFeasible_l1 ((tonnes j p).length : Int) j.2.2.2.1.1 j.2.2.2.1.2.1 (tonnes j p) k) ?_ fun k hk => ?_
    · show impl_isFeasible_l1 _ _ _ _ _ = _
      rw [impl_isFeasible_l1_eq]; unfold impl_isFeasible_l1K
      rw [lt_out (Nat.le_refl _)]
    · show impl_isFeasible_l1 _ _ _ _ _ = _
      have hk3 : k < j.2.2.2.2.1.toNat := by rw [tonnes, tab_len] at hk; exact hk
      rw [impl_isFeasible_l1_eq]; unfold impl_isFeasible_l1K
      rw [lt_in hk, ck_in hk, wr_succ hk (by rw [tonnes, tab_len]; omega)]
      unfold tonnes
      rw [tab_get hk3]
      generalize ton (zip3 p.2.1 j.2.1 j.2.2.1) (k : Int) = q
      by_cases c1 : q.1 ≤ j.2.2.2.1.1 <;> by_cases c2 : q.2 ≤ j.2.2.2.1.2.1 <;> simp [c1, c2, dec_gt]
  unfold impl_isFeasible impl_isFeasibleK feasB
  rw [h1]
  cases ho : ordB j p.2.1 with
  | false => simp [sumO]
  | true =>
    rw [tonnesIn_ok j p J Q]
    simp only [Option.bind_some, h2, if_true, sumO]
    cases capB j p.2.1 <;> simp [sumO]

/-! ### The reference's side -/
theorem l1In_ok (x a b : Int) : spec_l1In x a b = some (decide (a ≤ x) && decide (x ≤ b)) := by
  unfold spec_l1In spec_l1InK
  by_cases h1 : a ≤ x <;> by_cases h2 : x ≤ b <;> simp [h1, h2]
theorem faults_inner (j : DJob) (p : DPlan) (s : JobSm j) (J : JobOk j) (Q : PlanOk j p) (i : Nat) (hi : i < j.1.length) (hi2 : i < p.2.1.length) (hw : 0 ≤ p.2.1[i]) :
    ∀ k, k ≤ j.1[i].length → ∀ acc : List (List Int), acc.length ≤ 1048576 * i + k → ∃ F, spec_plFaults_l1 (i : Int) p.2.1[i] j.1[i] (j.1[i].length : Int) p.2.1 (k : Int) acc = some F ∧ F.length ≤ 1048576 * i + j.1[i].length ∧
      (F = [] ↔ acc = [] ∧ ∀ x ∈ j.1[i].drop k, arcB p.2.1 i x = true) := by
  have hlen := Q.len
  have hn := J.n2
  have hr : j.1[i].length ≤ 1048576 := s.r _ (List.getElem_mem hi)
  have hgi : p.2.1.getD i 0 = p.2.1[i] := by simp [hi2]
  refine down (fun acc hacc => ?_) fun k hk ih acc hacc => ?_
  · rw [spec_plFaults_l1_eq]; unfold spec_plFaults_l1K
    rw [lt_out (Nat.le_refl _)]
    exact ⟨acc, rfl, hacc, by simp⟩
  · have ha := (J.arc i hi).1 _ (List.getElem_mem hk)
    have haw : j.1[i][k].toNat < p.2.1.length := by omega
    have hga : p.2.1.getD j.1[i][k].toNat 0 = p.2.1[j.1[i][k].toNat] := by simp [haw]
    have harc : arcB p.2.1 i j.1[i][k] = (decide (0 ≤ p.2.1[j.1[i][k].toNat]) && decide (p.2.1[j.1[i][k].toNat] ≤ p.2.1[i])) := by
      have c : ¬ p.2.1[i] < 0 := by omega
      simp only [arcB, hgi, hga, c, decide_false, Bool.false_or]
    rw [spec_plFaults_l1_eq]; unfold spec_plFaults_l1K
    rw [loop_step hk, wr_succ hk (by omega)]
    simp only [lat_int ha.1 haw, Option.bind_some, l1In_ok, ← harc]
    rw [drop_cons hk]
    cases hb : arcB p.2.1 i j.1[i][k] with
    | true =>
      obtain ⟨F, g1, g2, g3⟩ := ih acc (by omega)
      simp only [Bool.not_true, cond_false]
      refine ⟨F, g1, g2, g3.trans ⟨fun ⟨h1, h2⟩ => ⟨h1, fun x hx => ?_⟩, fun ⟨h1, h2⟩ => ⟨h1, fun x hx => h2 x (List.mem_cons_of_mem _ hx)⟩⟩⟩
      rcases List.mem_cons.1 hx with h | h
      · rw [h]; exact hb
      · exact h2 x h
    | false =>
      have hl : acc.length + [[(i : Int), j.1[i][k]]].length ≤ 1099511627776 := by simp; omega
      simp only [Bool.not_false, cond_true, hl, decide_true]
      obtain ⟨F, g1, g2, g3⟩ := ih (acc ++ [[(i : Int), j.1[i][k]]]) (by simp; omega)
      refine ⟨F, g1, g2, g3.trans ⟨fun ⟨h1, h2⟩ => absurd h1 (by simp), fun ⟨h1, h2⟩ => ?_⟩⟩
      have := h2 _ (List.mem_cons_self ..)
      rw [hb] at this; exact absurd this (by simp)
theorem faults_outer (j : DJob) (p : DPlan) (s : JobSm j) (J : JobOk j) (Q : PlanOk j p) : ∀ i, i ≤ p.2.1.length → ∀ acc : List (List Int), acc.length ≤ 1048576 * i →
    ∃ F, spec_plFaults_l0 p.2.1 (p.2.1.length : Int) j.1 p.2.1 (i : Int) acc = some F ∧ (F = [] ↔ acc = [] ∧ ∀ m (h : m < j.1.length), i ≤ m → j.1[m].all (arcB p.2.1 m) = true) := by
  have hlen := Q.len
  have hn := J.n2
  refine down (fun acc hacc => ?_) fun i hi ih acc hacc => ?_
  · rw [spec_plFaults_l0_eq]; unfold spec_plFaults_l0K
    rw [lt_out (Nat.le_refl _)]
    exact ⟨acc, rfl, fun h => ⟨h, fun m hm h2 => by omega⟩, fun h => h.1⟩
  · have hij : i < j.1.length := by omega
    have hr : j.1[i].length ≤ 1048576 := s.r _ (List.getElem_mem hij)
    have hgi : p.2.1.getD i 0 = p.2.1[i] := by simp [hi]
    rw [spec_plFaults_l0_eq]; unfold spec_plFaults_l0K
    rw [loop_step hi, wr_succ hi (by omega)]
    by_cases c : p.2.1[i] < 0
    · simp only [c, decide_true, cond_true]
      obtain ⟨F, g1, g3⟩ := ih acc (by omega)
      refine ⟨F, g1, g3.trans ⟨fun ⟨h1, h2⟩ => ⟨h1, fun m hm hmi => ?_⟩, fun ⟨h1, h2⟩ => ⟨h1, fun m hm hmi => h2 m hm (by omega)⟩⟩⟩
      by_cases e : m = i
      · subst e
        rw [List.all_eq_true]
        intro x _
        simp only [arcB, hgi, c, decide_true, Bool.true_or]
      · exact h2 m hm (by omega)
    · simp only [c, decide_false, cond_false, lat_nat hij, Option.bind_some]
      obtain ⟨F, f1, f2, f3⟩ := faults_inner j p s J Q i hij hi (by omega) 0 (Nat.zero_le _) acc (by omega)
      have f1 : spec_plFaults_l1 (i : Int) p.2.1[i] j.1[i] (j.1[i].length : Int) p.2.1 0 acc = some F := f1
      simp only [f1, Option.bind_some]
      obtain ⟨F', g1, g3⟩ := ih F (by omega)
      refine ⟨F', g1, g3.trans ⟨fun ⟨h1, h2⟩ => ?_, fun ⟨h1, h2⟩ => ⟨f3.2 ⟨h1, ?_⟩, fun m hm hmi => h2 m hm (by omega)⟩⟩⟩
      · obtain ⟨k1, k2⟩ := f3.1 h1
        refine ⟨k1, fun m hm hmi => ?_⟩
        by_cases e : m = i
        · subst e
          rw [List.all_eq_true]
          simpa using k2
        · exact h2 m hm (by omega)
      · have := h2 i hij (Nat.le_refl _)
        rw [List.all_eq_true] at this
        simpa using this
theorem over_loop (j : DJob) (n : Nat) (hn : n ≤ 6) (f : Nat → Int × Int) : ∀ i, i ≤ n → ∀ acc : List Int, acc.length ≤ i →
    ∃ F, spec_plOver_l0 (n : Int) j.2.2.2.1.1 j.2.2.2.1.2.1 (tab n f) (i : Int) acc = some F ∧ (F = [] ↔ acc = [] ∧ ∀ t, t < n → i ≤ t → (decide ((f t).1 ≤ j.2.2.2.1.1) && decide ((f t).2 ≤ j.2.2.2.1.2.1)) = true) := by
  refine down (fun acc hacc => ?_) fun i hi ih acc hacc => ?_
  · rw [spec_plOver_l0_eq]; unfold spec_plOver_l0K
    rw [lt_out (Nat.le_refl _)]
    exact ⟨acc, rfl, fun h => ⟨h, fun m hm h2 => by omega⟩, fun h => h.1⟩
  · rw [spec_plOver_l0_eq]; unfold spec_plOver_l0K
    rw [lt_in hi, ck_in (by rw [tab_len]; exact hi), wr_succ hi (by omega), tab_get hi]
    have l0 : (0 : Int) < (([(f i).1, (f i).2] : List Int).length : Int) := by simp
    have l1 : (1 : Int) < (([(f i).1, (f i).2] : List Int).length : Int) := by simp
    have v0 : ([(f i).1, (f i).2] : List Int).getD (0 + 0) 0 = (f i).1 := rfl
    have v1 : ([(f i).1, (f i).2] : List Int).getD (0 + 1) 0 = (f i).2 := rfl
    have hl : acc.length + [(i : Int)].length ≤ 1099511627776 := by simp; omega
    simp only [l0, l1, v0, v1, hl, decide_true, cond_true]
    have bad : (decide ((f i).1 ≤ j.2.2.2.1.1) && decide ((f i).2 ≤ j.2.2.2.1.2.1)) = false → ∃ F, spec_plOver_l0 (n : Int) j.2.2.2.1.1 j.2.2.2.1.2.1 (tab n f) ((i + 1 : Nat) : Int) (acc ++ [(i : Int)]) = some F ∧ (F = [] ↔ acc = [] ∧ ∀ t, t < n → i ≤ t → (decide ((f t).1 ≤ j.2.2.2.1.1) && decide ((f t).2 ≤ j.2.2.2.1.2.1)) = true) := fun hb => by
      obtain ⟨F, g1, g3⟩ := ih (acc ++ [(i : Int)]) (by simp; omega)
      refine ⟨F, g1, g3.trans ⟨fun ⟨h1, h2⟩ => absurd h1 (by simp), fun ⟨h1, h2⟩ => ?_⟩⟩
      have := h2 i hi (Nat.le_refl _)
      rw [hb] at this; exact absurd this (by simp)
    by_cases c1 : (f i).1 > j.2.2.2.1.1
    · simp only [c1, decide_true, cond_true]
      exact bad (by have : ¬ (f i).1 ≤ j.2.2.2.1.1 := by omega
                    simp [this])
    · by_cases c2 : (f i).2 > j.2.2.2.1.2.1
      · simp only [c1, c2, decide_true, decide_false, cond_true, cond_false]
        exact bad (by have : ¬ (f i).2 ≤ j.2.2.2.1.2.1 := by omega
                      simp [this])
      · simp only [c1, c2, decide_false, cond_false]
        obtain ⟨F, g1, g3⟩ := ih acc (by omega)
        refine ⟨F, g1, g3.trans ⟨fun ⟨h1, h2⟩ => ⟨h1, fun m hm hmi => ?_⟩, fun ⟨h1, h2⟩ => ⟨h1, fun m hm hmi => h2 m hm (by omega)⟩⟩⟩
        by_cases e : m = i
        · subst e
          have d1 : (f m).1 ≤ j.2.2.2.1.1 := by omega
          have d2 : (f m).2 ≤ j.2.2.2.1.2.1 := by omega
          simp [d1, d2]
        · exact h2 m hm (by omega)
theorem len_beq {α : Type} (F : List α) : (((F.length : Nat) : Int) == 0) = decide (F = []) := by
  cases F with
  | nil => rfl
  | cons a r => 
    have : ¬ ((((a :: r).length : Nat) : Int) = 0) := by rw [List.length_cons]; omega
    rw [beq_dec, decide_eq_false this]; rfl
theorem plFeasible_ok (j : DJob) (p : DPlan) (s : JobSm j) (J : JobOk j) (Q : PlanOk j p) : spec_plFeasible j p = some (feasB j p.2.1) := by
  have hper := J.per
  obtain ⟨F, f1, f2⟩ := faults_outer j p s J Q 0 (Nat.zero_le _) [] (by simp)
  have f1 : spec_plFaults_l0 p.2.1 (p.2.1.length : Int) j.1 p.2.1 0 [] = some F := f1
  obtain ⟨G, g1, g2⟩ := over_loop j j.2.2.2.2.1.toNat (by omega) (fun t => ton (zip3 p.2.1 j.2.1 j.2.2.1) (t : Int)) 0 (Nat.zero_le _) [] (by simp)
  have g1 : spec_plOver_l0 ((tonnes j p).length : Int) j.2.2.2.1.1 j.2.2.2.1.2.1 (tonnes j p) 0 [] = some G := by
    rw [show (tonnes j p).length = j.2.2.2.2.1.toNat from tab_len _ _]; exact g1
  have hF : decide (F = []) = ordB j p.2.1 := by
    rw [Bool.eq_iff_iff, decide_eq_true_eq, ordB, allI_iff, f2]
    exact ⟨fun h m hm => h.2 m hm (Nat.zero_le _), fun h => ⟨rfl, fun m hm _ => h m hm⟩⟩
  have hG : decide (G = []) = capB j p.2.1 := by
    rw [Bool.eq_iff_iff, decide_eq_true_eq, capB, List.all_eq_true, g2]
    exact ⟨fun h m hm => h.2 m (List.mem_range.1 hm) (Nat.zero_le _), fun h => ⟨rfl, fun m hm _ => h m (List.mem_range.2 hm)⟩⟩
  unfold spec_plFeasible spec_plFeasibleK spec_plFaults spec_plFaultsK spec_plOver spec_plOverK feasB
  rw [plTonnes_ok j p J Q]
  simp only [f1, g1, Option.bind_some, len_beq, hF, hG]
  cases ordB j p.2.1 <;> simp
end
end Go.OAI
