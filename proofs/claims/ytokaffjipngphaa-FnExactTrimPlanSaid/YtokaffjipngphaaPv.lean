/- Jobs and plans: when they are valid; both sides say the same. -/
import Derived.Test.YtokaffjipngphaaPj
namespace Go.OAI
set_option linter.unusedVariables false
noncomputable section

/-! ### Strictly increasing lists of blocks -/
def risB (l : List Int) (n : Int) : Bool := allI (fun i x => decide (0 ≤ x) && (decide (x < n) && (decide (i = 0) || decide (l.getD (i - 1) 0 < x)))) l
theorem areBlocks_ok (l : List Int) (n : Int) (hl : l.length ≤ 9223372036854775807) : impl_areBlocks l n = some (risB l n) := by
  unfold impl_areBlocks impl_areBlocksK
  have : impl_areBlocks_l0 l n l (l.length : Int) 0 = some (if risB l n then .inr () else .inl false) := by
    refine allI_loop (f := fun i => impl_areBlocks_l0 l n l (l.length : Int) i) ?_ fun i hi => ?_
    · show impl_areBlocks_l0 _ _ _ _ _ = _
      rw [impl_areBlocks_l0_eq]; unfold impl_areBlocks_l0K
      rw [lt_out (Nat.le_refl _)]
    · show impl_areBlocks_l0 _ _ _ _ _ = _
      rw [impl_areBlocks_l0_eq]; unfold impl_areBlocks_l0K
      rw [loop_step hi, wr_succ hi (by omega)]
      by_cases h1 : 0 ≤ l[i]
      · have h1' : ¬ l[i] < 0 := by omega
        by_cases h2 : l[i] < n
        · have h2' : ¬ l[i] ≥ n := by omega
          by_cases h3 : i = 0
          · subst h3
            simp [h1, h1', h2, h2']
          · have h3' : 0 < i := by omega
            have h3'' : (i : Int) > 0 := by omega
            have h4 : IntKind.i64.wrap ((i : Int) - 1) = ((i - 1 : Nat) : Int) := by rw [wr (by omega) (by omega)]; omega
            rw [h4, lat_nat (by omega)]
            have h5 : l.getD (i - 1) 0 = l[i - 1] := by simp [show i - 1 < l.length by omega]
            rw [h5]
            by_cases h6 : l[i] ≤ l[i - 1]
            · have h6' : ¬ l[i - 1] < l[i] := by omega
              simp [h1, h1', h2, h2', h3, h3', h3'', h6, h6']
            · have h6' : l[i - 1] < l[i] := by omega
              simp [h1, h1', h2, h2', h3, h3', h3'', h6, h6']
        · have h2' : l[i] ≥ n := by omega
          simp [h1, h1', h2, h2']
      · have h1' : l[i] < 0 := by omega
        simp [h1, h1']
  rw [this]
  cases risB l n <;> rfl
theorem l1Rising_ok (l : List Int) (n : Int) (hl : l.length ≤ 9223372036854775807) : spec_l1Rising l 0 (n - 1) = some (risB l n) := by
  unfold spec_l1Rising spec_l1RisingK
  have : spec_l1Rising_l0 l 0 (n - 1) l (l.length : Int) 0 = some (if risB l n then .inr () else .inl false) := by
    refine allI_loop (f := fun i => spec_l1Rising_l0 l 0 (n - 1) l (l.length : Int) i) ?_ fun i hi => ?_
    · show spec_l1Rising_l0 _ _ _ _ _ _ = _
      rw [spec_l1Rising_l0_eq]; unfold spec_l1Rising_l0K
      rw [lt_out (Nat.le_refl _)]
    · show spec_l1Rising_l0 _ _ _ _ _ _ = _
      rw [spec_l1Rising_l0_eq]; unfold spec_l1Rising_l0K
      rw [loop_step hi, wr_succ hi (by omega)]
      unfold spec_l1In spec_l1InK
      by_cases h1 : 0 ≤ l[i]
      · by_cases h2 : l[i] < n
        · have h2' : l[i] ≤ n - 1 := by omega
          by_cases h3 : i = 0
          · subst h3
            simp [h1, h2, h2']
          · have h3' : 0 < i := by omega
            have h3'' : (i : Int) > 0 := by omega
            have h4 : IntKind.i64.wrap ((i : Int) - 1) = ((i - 1 : Nat) : Int) := by rw [wr (by omega) (by omega)]; omega
            rw [h4, lat_nat (by omega)]
            have h5 : l.getD (i - 1) 0 = l[i - 1] := by simp [show i - 1 < l.length by omega]
            rw [h5]
            by_cases h6 : l[i - 1] ≥ l[i]
            · have h6' : ¬ l[i - 1] < l[i] := by omega
              simp [h1, h2, h2', h3, h3', h3'', h6, h6']
            · have h6' : l[i - 1] < l[i] := by omega
              simp [h1, h2, h2', h3, h3', h3'', h6, h6']
        · have h2' : ¬ l[i] ≤ n - 1 := by omega
          simp [h1, h2, h2']
      · simp [h1]
  rw [this]
  cases risB l n <;> rfl
theorem risB_spec {l : List Int} {n : Int} (h : risB l n = true) : (∀ x ∈ l, 0 ≤ x ∧ x < n) ∧ l.Pairwise (· < ·) := by
  have h := allI_iff.1 h
  have h1 : ∀ i (hi : i < l.length), 0 ≤ l[i] ∧ l[i] < n ∧ (0 < i → l.getD (i - 1) 0 < l[i]) := fun i hi => by
    have := h i hi
    simp only [Bool.and_eq_true, Bool.or_eq_true, decide_eq_true_eq] at this
    exact ⟨this.1, this.2.1, fun h0 => this.2.2.elim (fun e => absurd e (by omega)) id⟩
  refine ⟨fun x hx => ?_, ?_⟩
  · obtain ⟨i, hi, rfl⟩ := List.getElem_of_mem hx
    exact ⟨(h1 i hi).1, (h1 i hi).2.1⟩
  · rw [List.pairwise_iff_getElem]
    intro i j hi hj hij
    have step : ∀ k (hk : i + k + 1 < l.length), l[i] < l[i + k + 1] := by
      intro k
      induction k with
      | zero =>
        intro hk
        have := (h1 (i + 1) hk).2.2 (by omega)
        simpa [hi] using this
      | succ k ih =>
        intro hk
        have a := ih (by omega)
        have b := (h1 (i + (k + 1) + 1) hk).2.2 (by omega)
        have e : l.getD (i + (k + 1) + 1 - 1) 0 = l[i + k + 1] := by
          rw [show i + (k + 1) + 1 - 1 = i + k + 1 by omega]
          simp [show i + k + 1 < l.length by omega]
        rw [e] at b
        omega
    have := step (j - i - 1) (by omega)
    have e : i + (j - i - 1) + 1 = j := by omega
    simpa [e] using this

/-! ### Arcs -/
def arcsB (a : List (List Int)) : Bool := decide (1 ≤ (a.length : Int)) && (decide ((a.length : Int) ≤ 120) && allI (fun i r => risB r i) a)
theorem AreArcs_ok (a : List (List Int)) (hl : a.length ≤ 9223372036854775807) (hr : ∀ r ∈ a, r.length ≤ 9223372036854775807) : impl_AreArcs a = some (arcsB a) := by
  unfold impl_AreArcs impl_AreArcsK
  have : impl_AreArcs_l0 a (a.length : Int) 0 = some (if allI (fun i r => risB r i) a then .inr () else .inl false) := by
    refine allI_loop (f := fun i => impl_AreArcs_l0 a (a.length : Int) i) ?_ fun i hi => ?_
    · show impl_AreArcs_l0 _ _ _ = _
      rw [impl_AreArcs_l0_eq]; unfold impl_AreArcs_l0K
      rw [lt_out (Nat.le_refl _)]
    · show impl_AreArcs_l0 _ _ _ = _
      rw [impl_AreArcs_l0_eq]; unfold impl_AreArcs_l0K
      rw [loop_step hi, wr_succ hi (by omega), areBlocks_ok _ _ (hr _ (List.getElem_mem hi))]
      cases risB a[i] i <;> rfl
  rw [this]
  simp only [dec_lt, dec_gt, arcsB]
  by_cases h1 : 1 ≤ (a.length : Int) <;> by_cases h2 : (a.length : Int) ≤ 120 <;> cases allI (fun i r => risB r i) a <;> simp [h1, h2, sumO]
theorem clArcs_ok (a : List (List Int)) (hl : a.length ≤ 9223372036854775807) (hr : ∀ r ∈ a, r.length ≤ 9223372036854775807) : spec_clArcs a = some (arcsB a) := by
  unfold spec_clArcs spec_clArcsK
  have : spec_clArcs_l0 a (a.length : Int) 0 = some (if allI (fun i r => risB r i) a then .inr () else .inl false) := by
    refine allI_loop (f := fun i => spec_clArcs_l0 a (a.length : Int) i) ?_ fun i hi => ?_
    · show spec_clArcs_l0 _ _ _ = _
      rw [spec_clArcs_l0_eq]; unfold spec_clArcs_l0K
      rw [lt_out (Nat.le_refl _)]
    · show spec_clArcs_l0 _ _ _ = _
      rw [spec_clArcs_l0_eq]; unfold spec_clArcs_l0K
      rw [loop_step hi, wr_succ hi (by omega), wr (n := (i : Int) - 1) (by omega) (by omega), l1Rising_ok _ _ (hr _ (List.getElem_mem hi))]
      cases risB a[i] i <;> rfl
  rw [this]
  unfold spec_l1In spec_l1InK
  simp only [arcsB, dec_ge]
  by_cases h1 : 1 ≤ (a.length : Int) <;> by_cases h2 : (a.length : Int) ≤ 120 <;> cases allI (fun i r => risB r i) a <;> simp [h1, h2, sumO]

/-! ### Numbers within bounds -/
def inB (lo hi : Int) (l : List Int) : Bool := l.all fun x => decide (lo ≤ x) && decide (x ≤ hi)
theorem inB_spec {lo hi : Int} {l : List Int} (h : inB lo hi l = true) : ∀ x ∈ l, lo ≤ x ∧ x ≤ hi := fun x hx => by
  have := List.all_eq_true.1 h x hx
  simpa using this
theorem l1All_ok (l : List Int) (lo hi : Int) (hl : l.length ≤ 9223372036854775807) : spec_l1All l lo hi = some (inB lo hi l) := by
  unfold spec_l1All spec_l1AllK
  have : spec_l1All_l0 lo hi l (l.length : Int) 0 = some (if inB lo hi l then .inr () else .inl false) := by
    refine allL_loop (f := fun i => spec_l1All_l0 lo hi l (l.length : Int) i) ?_ fun i hi' => ?_
    · show spec_l1All_l0 _ _ _ _ _ = _
      rw [spec_l1All_l0_eq]; unfold spec_l1All_l0K
      rw [lt_out (Nat.le_refl _)]
    · show spec_l1All_l0 _ _ _ _ _ = _
      rw [spec_l1All_l0_eq]; unfold spec_l1All_l0K
      rw [loop_step hi', wr_succ hi' (by omega)]
      unfold spec_l1In spec_l1InK
      by_cases h1 : lo ≤ l[i] <;> by_cases h2 : l[i] ≤ hi <;> simp [h1, h2]
  rw [this]
  cases inB lo hi l <;> rfl
theorem goodValues_ok (l : List Int) (hl : l.length ≤ 9223372036854775807) : impl_goodValues l = some (decide (1 ≤ (l.length : Int)) && (decide ((l.length : Int) ≤ 120) && inB (-1000000) 1000000 l)) := by
  unfold impl_goodValues impl_goodValuesK
  have : impl_goodValues_l0 l (l.length : Int) 0 = some (if inB (-1000000) 1000000 l then .inr () else .inl false) := by
    refine allL_loop (f := fun i => impl_goodValues_l0 l (l.length : Int) i) ?_ fun i hi' => ?_
    · show impl_goodValues_l0 _ _ _ = _
      rw [impl_goodValues_l0_eq]; unfold impl_goodValues_l0K
      rw [lt_out (Nat.le_refl _)]
    · show impl_goodValues_l0 _ _ _ = _
      rw [impl_goodValues_l0_eq]; unfold impl_goodValues_l0K
      rw [loop_step hi', wr_succ hi' (by omega)]
      simp only [dec_lt, dec_gt]
      by_cases h1 : -1000000 ≤ l[i] <;> by_cases h2 : l[i] ≤ 1000000 <;> simp [h1, h2]
  rw [this]
  simp only [dec_lt, dec_gt]
  by_cases h1 : 1 ≤ (l.length : Int) <;> by_cases h2 : (l.length : Int) ≤ 120 <;> cases inB (-1000000) 1000000 l <;> simp [h1, h2, sumO]

/-! ### Jobs -/
def jobB (j : DJob) : Bool :=
  arcsB j.1 && (decide ((j.2.1.length : Int) = (j.1.length : Int)) && (decide ((j.2.2.1.length : Int) = (j.1.length : Int)) && (inB 0 10000 j.2.1 && (inB (-1000000) 1000000 j.2.2.1 &&
  (decide (0 ≤ j.2.2.2.1.1) && (decide (j.2.2.2.1.1 ≤ 1000000) && (decide (0 ≤ j.2.2.2.1.2.1) && (decide (j.2.2.2.1.2.1 ≤ 1000000) &&
  (decide (1 ≤ j.2.2.2.2.1) && (decide (j.2.2.2.2.1 ≤ 6) && (decide (1 ≤ j.2.2.2.2.2.1) && (decide (j.2.2.2.2.2.1 ≤ j.2.2.2.2.2.2.1) && decide (j.2.2.2.2.2.2.1 ≤ 20)))))))))))))
/-- A job as it lies in memory. -/
structure JobWf (j : DJob) : Prop where
  a : j.1.length ≤ 9223372036854775807
  r : ∀ r ∈ j.1, r.length ≤ 9223372036854775807
  t : j.2.1.length ≤ 9223372036854775807
  v : j.2.2.1.length ≤ 9223372036854775807
theorem JobSm.wf {j : DJob} (s : JobSm j) : JobWf j :=
  ⟨Nat.le_trans s.a (by decide), fun r hr => Nat.le_trans (s.r r hr) (by decide), Nat.le_trans s.t (by decide), Nat.le_trans s.v (by decide)⟩
theorem IsJob_okW (j : DJob) (s : JobWf j) : impl_IsJob j = some (jobB j) := by
  have := s.a
  have := s.t
  have := s.v
  have h1 : impl_IsJob_l0 j.2.1 (j.2.1.length : Int) 0 = some (if inB 0 10000 j.2.1 then .inr () else .inl false) := by
    refine allL_loop (f := fun i => impl_IsJob_l0 j.2.1 (j.2.1.length : Int) i) ?_ fun i hi' => ?_
    · show impl_IsJob_l0 _ _ _ = _
      rw [impl_IsJob_l0_eq]; unfold impl_IsJob_l0K
      rw [lt_out (Nat.le_refl _)]
    · show impl_IsJob_l0 _ _ _ = _
      rw [impl_IsJob_l0_eq]; unfold impl_IsJob_l0K
      rw [loop_step hi', wr_succ hi' (by omega)]
      simp only [dec_lt, dec_gt]
      by_cases h1 : 0 ≤ j.2.1[i] <;> by_cases h2 : j.2.1[i] ≤ 10000 <;> simp [h1, h2]
  have h2 : impl_areValued j.1 j.2.2.1 = some (arcsB j.1 && (decide ((j.2.2.1.length : Int) = (j.1.length : Int)) && inB (-1000000) 1000000 j.2.2.1)) := by
    unfold impl_areValued impl_areValuedK
    rw [AreArcs_ok _ (by omega) (fun r hr => by have := s.r r hr; omega), goodValues_ok _ (by omega)]
    cases ha : arcsB j.1 with
    | false => rfl
    | true =>
      simp only [arcsB, Bool.and_eq_true, decide_eq_true_eq] at ha
      obtain ⟨a1, a2, _⟩ := ha
      simp only [Option.bind_some, cond_true, Bool.true_and, beq_dec]
      by_cases e : (j.2.2.1.length : Int) = (j.1.length : Int)
      · rw [e]
        cases inB (-1000000) 1000000 j.2.2.1 <;> simp [a1, a2]
      · simp only [e, decide_false, Bool.false_and]
        cases (decide (1 ≤ (j.2.2.1.length : Int)) && (decide ((j.2.2.1.length : Int) ≤ 120) && inB (-1000000) 1000000 j.2.2.1)) <;> rfl
  unfold impl_IsJob impl_IsJobK jobB
  rw [h1, h2]
  simp only [bne_dec, dec_ge]
  cases arcsB j.1 <;> by_cases c1 : (j.2.2.1.length : Int) = (j.1.length : Int) <;> cases inB (-1000000) 1000000 j.2.2.1 <;> by_cases c2 : (j.2.1.length : Int) = (j.1.length : Int) <;> cases inB 0 10000 j.2.1 <;> simp [c1, c2, sumO]
  by_cases d1 : 0 ≤ j.2.2.2.1.1 <;> by_cases d2 : j.2.2.2.1.1 ≤ 1000000 <;> by_cases d3 : 0 ≤ j.2.2.2.1.2.1 <;> by_cases d4 : j.2.2.2.1.2.1 ≤ 1000000 <;> by_cases d5 : 1 ≤ j.2.2.2.2.1 <;> by_cases d6 : j.2.2.2.2.1 ≤ 6 <;> by_cases d7 : 1 ≤ j.2.2.2.2.2.1 <;> simp [d1, d2, d3, d4, d5, d6, d7]
  by_cases d8 : j.2.2.2.2.2.1 ≤ j.2.2.2.2.2.2.1 <;> simp [d8]
theorem IsJob_ok (j : DJob) (s : JobSm j) : impl_IsJob j = some (jobB j) := IsJob_okW j s.wf
theorem plJob_okW (j : DJob) (s : JobWf j) : spec_plJob j = some (jobB j) := by
  have := s.a
  have := s.t
  have := s.v
  unfold spec_plJob spec_plJobK jobB
  rw [clArcs_ok _ (by omega) (fun r hr => by have := s.r r hr; omega), l1All_ok _ _ _ (by omega), l1All_ok _ _ _ (by omega)]
  unfold spec_l1In spec_l1InK
  simp only [bne_dec, dec_ge]
  cases arcsB j.1 <;> by_cases c1 : (j.2.2.1.length : Int) = (j.1.length : Int) <;> cases inB (-1000000) 1000000 j.2.2.1 <;> by_cases c2 : (j.2.1.length : Int) = (j.1.length : Int) <;> cases inB 0 10000 j.2.1 <;> simp [c1, c2]
  by_cases d1 : 0 ≤ j.2.2.2.1.1 <;> by_cases d2 : j.2.2.2.1.1 ≤ 1000000 <;> by_cases d3 : 0 ≤ j.2.2.2.1.2.1 <;> by_cases d4 : j.2.2.2.1.2.1 ≤ 1000000 <;> by_cases d5 : 1 ≤ j.2.2.2.2.1 <;> by_cases d6 : j.2.2.2.2.1 ≤ 6 <;> by_cases d7 : 1 ≤ j.2.2.2.2.2.1 <;> simp [d1, d2, d3, d4, d5, d6, d7]
  all_goals
    by_cases d8 : j.2.2.2.2.2.1 ≤ j.2.2.2.2.2.2.1 <;> by_cases d9 : 1 ≤ j.2.2.2.2.2.2.1 <;> by_cases d10 : j.2.2.2.2.2.2.1 ≤ 20 <;> simp [d8, d9, d10] <;> omega
theorem plJob_ok (j : DJob) (s : JobSm j) : spec_plJob j = some (jobB j) := plJob_okW j s.wf
structure JobOk (j : DJob) : Prop where
  n1 : 1 ≤ j.1.length
  n2 : j.1.length ≤ 120
  arc : ∀ i (h : i < j.1.length), (∀ x ∈ j.1[i], 0 ≤ x ∧ x < (i : Int)) ∧ j.1[i].Pairwise (· < ·)
  lt : j.2.1.length = j.1.length
  lv : j.2.2.1.length = j.1.length
  t : ∀ x ∈ j.2.1, 0 ≤ x ∧ x ≤ 10000
  v : ∀ x ∈ j.2.2.1, -1000000 ≤ x ∧ x ≤ 1000000
  mine : 0 ≤ j.2.2.2.1.1 ∧ j.2.2.2.1.1 ≤ 1000000
  mill : 0 ≤ j.2.2.2.1.2.1 ∧ j.2.2.2.1.2.1 ≤ 1000000
  per : 1 ≤ j.2.2.2.2.1 ∧ j.2.2.2.2.1 ≤ 6
  num : 1 ≤ j.2.2.2.2.2.1
  den : j.2.2.2.2.2.1 ≤ j.2.2.2.2.2.2.1 ∧ j.2.2.2.2.2.2.1 ≤ 20
theorem jobB_spec {j : DJob} (h : jobB j = true) : JobOk j := by
  simp only [jobB, arcsB, Bool.and_eq_true, decide_eq_true_eq] at h
  obtain ⟨⟨a1, a2, a3⟩, b1, b2, b3, b4, b5, b6, b7, b8, b9, b10, b11, b12, b13⟩ := h
  exact ⟨by omega, by omega, fun i hi => risB_spec (allI_iff.1 a3 i hi), by omega, by omega, inB_spec b3, inB_spec b4, ⟨b5, b6⟩, ⟨b7, b8⟩, ⟨b9, b10⟩, b11, ⟨b12, b13⟩⟩

theorem rise_len : ∀ (l : List Int) (a b : Int), (∀ x ∈ l, a ≤ x ∧ x < b) → l.Pairwise (· < ·) → a ≤ b → (l.length : Int) ≤ b - a
  | [], a, b, _, _, h => by simp; omega
  | x :: l, a, b, h, hp, _ => by
    have hx := h x (List.mem_cons_self ..)
    rw [List.pairwise_cons] at hp
    have := rise_len l (x + 1) b (fun y hy => by have := hp.1 y hy; have := h y (List.mem_cons_of_mem _ hy); omega) hp.2 (by omega)
    rw [List.length_cons]; omega
theorem jobB_sm {j : DJob} (h : jobB j = true) : JobSm j := by
  have J := jobB_spec h
  have := J.n2
  have := J.lt
  have := J.lv
  refine ⟨by omega, fun r hr => ?_, by omega, by omega⟩
  obtain ⟨i, hi, rfl⟩ := List.getElem_of_mem hr
  obtain ⟨h1, h2⟩ := J.arc i hi
  have := rise_len j.1[i] 0 (i : Int) h1 h2 (by omega)
  omega

/-! ### Plans -/
def planB (j : DJob) (p : DPlan) : Bool := decide (p.1 = j.2.2.2.2.1) && (decide ((p.2.1.length : Int) = (j.1.length : Int)) && inB (-1) (j.2.2.2.2.1 - 1) p.2.1)
theorem isPlan_ok (j : DJob) (p : DPlan) (hl : p.2.1.length ≤ 1048576) : impl_isPlan j p = some (planB j p) := by
  have h1 : impl_isPlan_l0 p.2.1 (p.2.1.length : Int) j.2.2.2.2.1 0 = some (if inB (-1) (j.2.2.2.2.1 - 1) p.2.1 then .inr () else .inl false) := by
    refine allL_loop (f := fun i => impl_isPlan_l0 p.2.1 (p.2.1.length : Int) j.2.2.2.2.1 i) ?_ fun i hi' => ?_
    · show impl_isPlan_l0 _ _ _ _ = _
      rw [impl_isPlan_l0_eq]; unfold impl_isPlan_l0K
      rw [lt_out (Nat.le_refl _)]
    · show impl_isPlan_l0 _ _ _ _ = _
      rw [impl_isPlan_l0_eq]; unfold impl_isPlan_l0K
      rw [loop_step hi', wr_succ hi' (by omega)]
      by_cases h1 : -1 ≤ p.2.1[i]
      · have h1' : ¬ p.2.1[i] < -1 := by omega
        by_cases h2 : p.2.1[i] ≤ j.2.2.2.2.1 - 1
        · have h2' : ¬ p.2.1[i] ≥ j.2.2.2.2.1 := by omega
          simp [h1, h1', h2, h2']
        · have h2' : p.2.1[i] ≥ j.2.2.2.2.1 := by omega
          simp [h1, h1', h2, h2']
      · have h1' : p.2.1[i] < -1 := by omega
        simp [h1, h1']
  unfold impl_isPlan impl_isPlanK planB
  rw [h1]
  simp only [bne_dec]
  by_cases c1 : p.1 = j.2.2.2.2.1 <;> by_cases c2 : (p.2.1.length : Int) = (j.1.length : Int) <;> cases inB (-1) (j.2.2.2.2.1 - 1) p.2.1 <;> simp [c1, c2, sumO]
theorem plGood_ok (j : DJob) (p : DPlan) (hl : p.2.1.length ≤ 1048576) (hj : jobB j = true) : spec_plGood j p = some (planB j p) := by
  have := (jobB_spec hj).per
  unfold spec_plGood spec_plGoodK planB
  rw [wr (by omega) (by omega), l1All_ok _ _ _ (by omega)]
  simp only [beq_dec]
  by_cases c1 : p.1 = j.2.2.2.2.1 <;> by_cases c2 : (p.2.1.length : Int) = (j.1.length : Int) <;> simp [c1, c2]
theorem plBoth_ok (j : DJob) (p : DPlan) (s : JobSm j) (hl : p.2.1.length ≤ 1048576) : spec_plBoth j p = some (jobB j && planB j p) := by
  unfold spec_plBoth spec_plBothK
  rw [plJob_ok j s]
  cases hj : jobB j with
  | false => rfl
  | true => simp [plGood_ok j p hl hj]
structure PlanOk (j : DJob) (p : DPlan) : Prop where
  per : p.1 = j.2.2.2.2.1
  len : p.2.1.length = j.1.length
  w : ∀ x ∈ p.2.1, -1 ≤ x ∧ x < j.2.2.2.2.1
theorem planB_spec {j : DJob} {p : DPlan} (h : planB j p = true) : PlanOk j p := by
  simp only [planB, Bool.and_eq_true, decide_eq_true_eq] at h
  exact ⟨h.1, by omega, fun x hx => by have := inB_spec h.2.2 x hx; omega⟩
theorem jobEta (j : DJob) : ((j.1, (j.2.1, (j.2.2.1, ((j.2.2.2.1.1, (j.2.2.2.1.2.1, ())), (j.2.2.2.2.1, (j.2.2.2.2.2.1, (j.2.2.2.2.2.2.1, ()))))))) : DJob) = j := rfl
theorem planEta (p : DPlan) : ((p.1, (p.2.1, ())) : DPlan) = p := rfl
end
end Go.OAI
