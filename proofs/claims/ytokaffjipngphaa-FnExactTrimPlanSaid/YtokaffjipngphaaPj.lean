/- Jobs and plans: what is read, copied, marked; when they are valid. -/
import Derived.Test.YtokaffjipngphaaP0
import Derived.Test.YtokaffjipngphaaGA
namespace Go.OAI
set_option linter.unusedVariables false
noncomputable section

/-! ### Lists of numbers -/
theorem toIntS_ok (l : List Int) (h : l.length ≤ 1099511627776) : laws_toIntS l = some l := by
  unfold laws_toIntS laws_toIntSK
  rw [cap_ok h]
  simp only [Option.bind_some]
  rw [fill_loop (f := fun i r => laws_toIntS_l0 l i r) h (r := l)]
  · rfl
  · show laws_toIntS_l0 l _ l = _
    rw [laws_toIntS_l0_eq]; unfold laws_toIntS_l0K
    rw [lt_out (Nat.le_refl _)]
  · intro i r hi hr
    show laws_toIntS_l0 l i r = _
    rw [laws_toIntS_l0_eq]; unfold laws_toIntS_l0K
    rw [loop_step hi, ck_in (by omega), wr_succ hi (by omega)]
    simp
  · simp
theorem eqIntS_refl (l : List Int) (h : l.length ≤ 1099511627776) : laws_eqIntS l l = some true := by
  unfold laws_eqIntS laws_eqIntSK
  have : laws_eqIntS_l0 l l 0 = some (.inr ()) := by
    rw [all_loop (f := fun i => laws_eqIntS_l0 l l i) (l := l) (good := fun _ _ => true) (y := .inr ()) (n := .inl false)]
    · simp
    · show laws_eqIntS_l0 l l _ = _
      rw [laws_eqIntS_l0_eq]; unfold laws_eqIntS_l0K
      rw [lt_out (Nat.le_refl _)]
    · intro i hi
      show laws_eqIntS_l0 l l i = _
      rw [laws_eqIntS_l0_eq]; unfold laws_eqIntS_l0K
      rw [loop_step hi, wr_succ hi (by omega), lat_nat hi]
      simp
  rw [this]
  simp [sumO]
theorem markIntS_ok (l : List Int) (h : l.length ≤ 1099511627776) (k : Int) (h0 : 0 ≤ k) (hk : k ≤ 4611686018427387904) :
    ∃ l', laws_markIntS l k = some (k + (l.length : Int), l') ∧ l'.length = l.length ∧ laws_heldIntS l' k = some (k + (l.length : Int)) := by
  let m : Nat → Int := fun i => k + (i : Int)
  let L : List Int := (List.range l.length).map m
  have hL : L.length = l.length := by simp [L]
  have hLi : ∀ i (hi : i < L.length), L[i] = m i := fun i hi => by simp [L]
  have h1 : laws_markIntS_l0 k 0 l = some (k + (l.length : Int), L) := by
    have := fill_loop (f := fun i r => laws_markIntS_l0 (k + i) i r) (l := L) (r := (k + (l.length : Int), L)) (by omega) ?_ ?_ l hL.symm
    · simpa using this
    · show laws_markIntS_l0 _ _ L = _
      rw [laws_markIntS_l0_eq]; unfold laws_markIntS_l0K
      rw [lt_out (Nat.le_refl _), hL]
    · intro i r hi hr
      show laws_markIntS_l0 (k + (i : Int)) i r = laws_markIntS_l0 _ _ _
      rw [laws_markIntS_l0_eq]; unfold laws_markIntS_l0K
      rw [lt_in (by omega), ck_in (by omega), wr_succ hi (by omega), wr (by omega) (by omega), hLi i hi]
      have e1 : k + (i : Int) + 1 = k + ((i + 1 : Nat) : Int) := by omega
      rw [e1]
      simp [m]
  have h2 : laws_heldIntS_l0 L k 0 = some (.inr (k + (l.length : Int))) := by
    have key : ∀ i, i ≤ L.length → laws_heldIntS_l0 L (k + (i : Int)) i = some (.inr (k + (l.length : Int))) := by
      refine down ?_ fun i hi ih => ?_
      · rw [laws_heldIntS_l0_eq]; unfold laws_heldIntS_l0K
        rw [lt_out (Nat.le_refl _), hL]
      · rw [laws_heldIntS_l0_eq]; unfold laws_heldIntS_l0K
        rw [loop_step hi, hLi i hi, wr_succ hi (by omega), wr (by omega) (by omega)]
        have e1 : k + (i : Int) + 1 = k + ((i + 1 : Nat) : Int) := by omega
        rw [e1]
        simp only [m, bne_self_eq_false, cond_false]
        exact ih
    have := key 0 (Nat.zero_le _)
    simpa using this
  refine ⟨L, ?_, hL, ?_⟩
  · unfold laws_markIntS laws_markIntSK
    rw [h1]; rfl
  · unfold laws_heldIntS laws_heldIntSK
    rw [h2]; rfl

theorem szIntS_ok (l : List Int) (h : l.length ≤ 9223372036854775807) (n : Int) (h0 : 0 ≤ n) (h1 : n ≤ 1099511627776) : laws_szIntS l n = some (if (l.length : Int) ≤ n then n - l.length else -1) := by
  unfold laws_szIntS laws_szIntSK
  rw [wr (by omega) (by omega)]
  by_cases h2 : (l.length : Int) ≤ n
  · have : ¬ n - (l.length : Int) < 0 := by omega
    simp [h2, this]
  · have : n - (l.length : Int) < 0 := by omega
    simp [h2, this]

/-! ### Lists of lists -/
theorem szIntSS_ok (l : List (List Int)) (h : l.length ≤ 9223372036854775807) (hr : ∀ r ∈ l, r.length ≤ 9223372036854775807) (n : Int) (h0 : 0 ≤ n) (h1 : n ≤ 1099511627776) :
    ∃ y, laws_szIntSS l n = some y ∧ (y < 0 ∨ (0 ≤ y ∧ y ≤ n ∧ (l.length : Int) ≤ n ∧ ∀ r ∈ l, (r.length : Int) ≤ n)) := by
  unfold laws_szIntSS laws_szIntSSK
  rw [wr (by omega) (by omega)]
  by_cases h2 : (l.length : Int) ≤ n
  · have h3 : ¬ n - (l.length : Int) < 0 := by omega
    have key : ∀ i, i ≤ l.length → ∀ a : Int, 0 ≤ a → a ≤ n → ∃ v, laws_szIntSS_l0 l a i = some v ∧ (v = .inl (-1) ∨ ∃ y, v = .inr y ∧ 0 ≤ y ∧ y ≤ a ∧ ∀ r ∈ l.drop i, (r.length : Int) ≤ n) := by
      refine down (fun a a1 a2 => ?_) fun i hi ih a a1 a2 => ?_
      · rw [laws_szIntSS_l0_eq]; unfold laws_szIntSS_l0K
        rw [lt_out (Nat.le_refl _)]
        exact ⟨_, rfl, .inr ⟨a, rfl, a1, Int.le_refl _, by simp⟩⟩
      · rw [laws_szIntSS_l0_eq]; unfold laws_szIntSS_l0K
        rw [loop_step hi, szIntS_ok _ (hr _ (List.getElem_mem hi)) a a1 (by omega), wr_succ hi h]
        by_cases h4 : (l[i].length : Int) ≤ a
        · have h5 : ¬ a - (l[i].length : Int) < 0 := by omega
          simp only [h4, if_true, Option.bind_some, h5, decide_false, cond_false]
          obtain ⟨v, g1, g2⟩ := ih (a - (l[i].length : Int)) (by omega) (by omega)
          refine ⟨v, g1, ?_⟩
          rcases g2 with g2 | ⟨y, g2, g3, g4, g5⟩
          · exact .inl g2
          · refine .inr ⟨y, g2, g3, by omega, fun r hr' => ?_⟩
            rw [drop_cons hi] at hr'
            rcases List.mem_cons.1 hr' with e | e
            · rw [e]; omega
            · exact g5 r e
        · simp only [h4, if_false, Option.bind_some]
          exact ⟨_, rfl, .inl rfl⟩
    obtain ⟨v, g1, g2⟩ := key 0 (Nat.zero_le _) (n - (l.length : Int)) (by omega) (by omega)
    have g1 : laws_szIntSS_l0 l (n - (l.length : Int)) 0 = some v := g1
    simp only [h3, decide_false, cond_false, g1, Option.bind_some]
    rcases g2 with rfl | ⟨y, rfl, g3, g4, g5⟩
    · exact ⟨_, rfl, .inl (by omega)⟩
    · exact ⟨_, rfl, .inr ⟨g3, by omega, h2, by simpa using g5⟩⟩
  · have h3 : n - (l.length : Int) < 0 := by omega
    simp only [h3, decide_true, cond_true]
    exact ⟨_, rfl, .inl (by omega)⟩
theorem toIntSS_ok (l : List (List Int)) (h : l.length ≤ 1099511627776) (hr : ∀ r ∈ l, r.length ≤ 1099511627776) : laws_toIntSS l = some l := by
  unfold laws_toIntSS laws_toIntSSK
  rw [cap_ok h]
  simp only [Option.bind_some]
  rw [fill_loop (f := fun i r => laws_toIntSS_l0 l i r) h (r := l)]
  · rfl
  · show laws_toIntSS_l0 l _ l = _
    rw [laws_toIntSS_l0_eq]; unfold laws_toIntSS_l0K
    rw [lt_out (Nat.le_refl _)]
  · intro i r hi hr'
    show laws_toIntSS_l0 l i r = _
    rw [laws_toIntSS_l0_eq]; unfold laws_toIntSS_l0K
    rw [loop_step hi, toIntS_ok _ (hr _ (List.getElem_mem hi))]
    simp only [Option.bind_some]
    rw [ck_in (by omega), wr_succ hi (by omega)]
    simp
  · simp
theorem eqIntSS_refl (l : List (List Int)) (h : l.length ≤ 1099511627776) (hr : ∀ r ∈ l, r.length ≤ 1099511627776) : laws_eqIntSS l l = some true := by
  unfold laws_eqIntSS laws_eqIntSSK
  have : laws_eqIntSS_l0 l l 0 = some (.inr ()) := by
    rw [all_loop (f := fun i => laws_eqIntSS_l0 l l i) (l := l) (good := fun _ _ => true) (y := .inr ()) (n := .inl false)]
    · simp
    · show laws_eqIntSS_l0 l l _ = _
      rw [laws_eqIntSS_l0_eq]; unfold laws_eqIntSS_l0K
      rw [lt_out (Nat.le_refl _)]
    · intro i hi
      show laws_eqIntSS_l0 l l i = _
      rw [laws_eqIntSS_l0_eq]; unfold laws_eqIntSS_l0K
      rw [loop_step hi, wr_succ hi (by omega), lat_nat hi]
      simp [eqIntS_refl _ (hr _ (List.getElem_mem hi))]
  rw [this]
  simp [sumO]
theorem markIntSS_ok (l : List (List Int)) (h : l.length ≤ 1048576) (hr : ∀ r ∈ l, r.length ≤ 1048576) (k : Int) (h0 : 0 ≤ k) (hk : k ≤ 1099511627776) :
    ∃ k' l', laws_markIntSS l k = some (k', l') ∧ k ≤ k' ∧ k' ≤ k + 1048576 * (l.length : Int) := by
  have key : ∀ i, i ≤ l.length → ∀ (a : Int) (r : List (List Int)), r.length = l.length → (∀ x ∈ r, x.length ≤ 1048576) → k ≤ a → a ≤ k + 1048576 * (i : Int) →
      ∃ k' l', laws_markIntSS_l0 a i r = some (k', l') ∧ k ≤ k' ∧ k' ≤ k + 1048576 * (l.length : Int) := by
    refine down (fun a r h1 h2 h3 h4 => ?_) fun i hi ih a r h1 h2 h3 h4 => ?_
    · rw [laws_markIntSS_l0_eq]; unfold laws_markIntSS_l0K
      rw [lt_out (by omega)]
      exact ⟨_, _, rfl, h3, h4⟩
    · have hi' : i < r.length := by omega
      have hlen := h2 _ (List.getElem_mem hi')
      obtain ⟨l', g1, g2, _⟩ := markIntS_ok r[i] (by omega) a (by omega) (by omega)
      rw [laws_markIntSS_l0_eq]; unfold laws_markIntSS_l0K
      rw [lt_in (by omega), ck_in (by omega), wr_succ hi (by omega)]
      have e1 : r.getD (0 + (i : Int).toNat) [] = r[i] := by simp [hi']
      rw [e1, g1]
      simp only [Option.bind_some]
      refine ih _ _ (by simpa using h1) (fun x hx => ?_) (by omega) (by omega)
      rcases List.mem_or_eq_of_mem_set hx with hx | hx
      · exact h2 x hx
      · rw [hx]; omega
  obtain ⟨k', l', g1, g2, g3⟩ := key 0 (Nat.zero_le _) k l rfl hr (Int.le_refl _) (by omega)
  have g1 : laws_markIntSS_l0 k 0 l = some (k', l') := g1
  refine ⟨k', l', ?_, g2, g3⟩
  unfold laws_markIntSS laws_markIntSSK
  rw [g1]; rfl

/-! ### Jobs and plans as they come in -/
structure JobSm (j : DJob) : Prop where
  a : j.1.length ≤ 1048576
  r : ∀ r ∈ j.1, r.length ≤ 1048576
  t : j.2.1.length ≤ 1048576
  v : j.2.2.1.length ≤ 1048576
theorem job_head (j : DJob) (w : TJob.wf j) {A : Int → Option Bool} (hs : JobSm j → ∀ y : Int, 0 ≤ y → y ≤ 1048576 → A y = some true) :
    ((laws_szJob j 1048576).bind fun y1 => cond (decide (y1 < 0)) (some true) (A y1)) = some true := by
  obtain ⟨w1, w2, w3, _⟩ := w
  have hsz : ∃ y, laws_szJob j 1048576 = some y ∧ (y < 0 ∨ (0 ≤ y ∧ y ≤ 1048576 ∧ JobSm j)) := by
    unfold laws_szJob laws_szJobK
    obtain ⟨y, g1, g2⟩ := szIntSS_ok j.1 w1.1 (fun r hr => (w1.2 r hr).1) 1048576 (by omega) (by omega)
    rw [g1]
    rcases g2 with g2 | ⟨g2, g3, g4, g5⟩
    · simp only [Option.bind_some, g2, decide_true, cond_true]
      exact ⟨_, rfl, .inl (by omega)⟩
    · have hy : ¬ y < 0 := by omega
      simp only [Option.bind_some, hy, decide_false, cond_false]
      rw [szIntS_ok j.2.1 w2.1 y g2 (by omega)]
      by_cases h2 : (j.2.1.length : Int) ≤ y
      · have h3 : ¬ y - (j.2.1.length : Int) < 0 := by omega
        simp only [h2, if_true, Option.bind_some, h3, decide_false, cond_false]
        rw [szIntS_ok j.2.2.1 w3.1 _ (by omega) (by omega)]
        by_cases h4 : (j.2.2.1.length : Int) ≤ y - (j.2.1.length : Int)
        · have h5 : ¬ y - (j.2.1.length : Int) - (j.2.2.1.length : Int) < 0 := by omega
          simp only [h4, if_true, Option.bind_some, h5, decide_false, cond_false]
          exact ⟨_, rfl, .inr ⟨by omega, by omega, by omega, fun r hr => by have := g5 r hr; omega, by omega, by omega⟩⟩
        · simp only [h4, if_false, Option.bind_some]
          exact ⟨_, rfl, .inl (by omega)⟩
      · simp only [h2, if_false, Option.bind_some]
        exact ⟨_, rfl, .inl (by omega)⟩
  obtain ⟨y, g1, g2⟩ := hsz
  rw [g1]
  rcases g2 with g2 | ⟨g2, g3, g4⟩
  · simp [g2]
  · have hy : ¬ y < 0 := by omega
    simp only [Option.bind_some, hy, decide_false, cond_false]
    exact hs g4 y g2 g3
theorem list_head (l : List Int) (w : l.length ≤ 9223372036854775807) (n : Int) (h0 : 0 ≤ n) (h1 : n ≤ 1048576) {A : Int → Option Bool} (hs : l.length ≤ 1048576 → ∀ y : Int, 0 ≤ y → y ≤ 1048576 → A y = some true) :
    ((laws_szIntS l n).bind fun y1 => cond (decide (y1 < 0)) (some true) (A y1)) = some true := by
  rw [szIntS_ok l w n h0 (by omega)]
  by_cases h2 : (l.length : Int) ≤ n
  · have h3 : ¬ n - (l.length : Int) < 0 := by omega
    simp only [h2, if_true, Option.bind_some, h3, decide_false, cond_false]
    exact hs (by omega) _ (by omega) (by omega)
  · simp [h2]
theorem plan_head (p : DPlan) (w : TPlan.wf p) (n : Int) (h0 : 0 ≤ n) (h1 : n ≤ 1048576) {A : Int → Option Bool} (hs : p.2.1.length ≤ 1048576 → ∀ y : Int, 0 ≤ y → y ≤ 1048576 → A y = some true) :
    ((laws_szPlan p n).bind fun y1 => cond (decide (y1 < 0)) (some true) (A y1)) = some true := by
  have w' : p.2.1.length ≤ 9223372036854775807 := w.2.1.1
  unfold laws_szPlan laws_szPlanK
  rw [szIntS_ok p.2.1 w' n h0 (by omega)]
  by_cases h2 : (p.2.1.length : Int) ≤ n
  · have h3 : ¬ n - (p.2.1.length : Int) < 0 := by omega
    simp only [h2, if_true, Option.bind_some, h3, decide_false, cond_false]
    exact hs (by omega) _ (by omega) (by omega)
  · simp [h2]
theorem toJob_ok (j : DJob) (s : JobSm j) : laws_toJob j = some (j.1, j.2.1, j.2.2.1, j.2.2.2.1.1, j.2.2.2.1.2.1, j.2.2.2.2.1, j.2.2.2.2.2.1, j.2.2.2.2.2.2.1) := by
  have := s.a
  have := s.t
  have := s.v
  unfold laws_toJob laws_toJobK laws_toLimits laws_toLimitsK
  rw [toIntSS_ok _ (by omega) (fun r hr => by have := s.r r hr; omega), toIntS_ok _ (by omega), toIntS_ok _ (by omega)]; rfl
theorem eqJob_refl (j : DJob) (s : JobSm j) : laws_eqJob j j = some true := by
  have := s.a
  have := s.t
  have := s.v
  unfold laws_eqJob laws_eqJobK laws_eqLimits laws_eqLimitsK
  rw [eqIntSS_refl _ (by omega) (fun r hr => by have := s.r r hr; omega), eqIntS_refl _ (by omega), eqIntS_refl _ (by omega)]
  simp
theorem markJob_ok (j : DJob) (s : JobSm j) (k : Int) (h0 : 0 ≤ k) (hk : k ≤ 1099511627776) : ∃ k', laws_markJob (j.1, j.2.1, j.2.2.1, j.2.2.2.1.1, j.2.2.2.1.2.1, j.2.2.2.2.1, j.2.2.2.2.2.1, j.2.2.2.2.2.2.1) k = some (k', ()) ∧ 0 ≤ k' ∧ k' ≤ k + 4398046511104 := by
  have := s.a
  have := s.t
  have := s.v
  obtain ⟨k1, l1, g1, g2, g3⟩ := markIntSS_ok j.1 s.a s.r k h0 hk
  obtain ⟨l2, g4, _⟩ := markIntS_ok j.2.1 (by omega) k1 (by omega) (by omega)
  obtain ⟨l3, g5, _⟩ := markIntS_ok j.2.2.1 (by omega) (k1 + (j.2.1.length : Int)) (by omega) (by omega)
  refine ⟨k1 + (j.2.1.length : Int) + (j.2.2.1.length : Int), ?_, by omega, by omega⟩
  unfold laws_markJob laws_markJobK
  simp only [g1, g4, g5, Option.bind_some]
theorem toPlan_ok (p : DPlan) (h : p.2.1.length ≤ 1048576) : laws_toPlan p = some (p.1, p.2.1) := by
  unfold laws_toPlan laws_toPlanK
  rw [toIntS_ok _ (by omega)]; rfl
theorem eqPlan_refl (p : DPlan) (h : p.2.1.length ≤ 1048576) : laws_eqPlan p p = some true := by
  unfold laws_eqPlan laws_eqPlanK
  rw [eqIntS_refl _ (by omega)]; simp
theorem markPlan_ok (n : Int) (l : List Int) (h : l.length ≤ 1048576) (k : Int) (h0 : 0 ≤ k) (hk : k ≤ 4611686018427387904) :
    ∃ l', laws_markPlan (n, l) k = some (k + (l.length : Int), n, l') ∧ l'.length = l.length ∧ laws_heldPlan (n, l', ()) k = some (k + (l.length : Int)) := by
  obtain ⟨l', g1, g2, g3⟩ := markIntS_ok l (by omega) k h0 hk
  refine ⟨l', ?_, g2, ?_⟩
  · unfold laws_markPlan laws_markPlanK
    rw [g1]; rfl
  · unfold laws_heldPlan laws_heldPlanK
    rw [g3]
    have : ¬ k + (l.length : Int) < 0 := by omega
    simp [this]
end
end Go.OAI
