/- The networks of the relaxed plan: all edges of both sides. -/
import Derived.Test.YtokaffjipngphaaPrel
namespace Go.OAI
set_option linter.unusedVariables false
noncomputable section
variable {j : DJob} {l : List Int} {i t : Nat}

theorem flat_len (J : JobOk j) {i : Nat} (hi : i < j.1.length) : ∀ (ts : List Nat), (ts.flatMap fun t => RI j l i t).length ≤ ts.length * 122
  | [] => by simp
  | t :: ts => by
    have h1 := RI_len (l := l) (t := t) J hi
    have h2 := flat_len J hi ts
    rw [List.flatMap_cons, List.length_append, List.length_cons, Nat.add_mul]; omega
theorem l0_i (J : JobOk j) (M : MulOk j l) : ∀ (r i : Nat) (E : List DEdge), i + r = j.1.length → E.length + r * 732 ≤ 137438953472 →
    impl_relaxedPlan_l0 ((j.1.length * nP j + 2 : Nat) : Int) (j.1.length : Int) (i : Int) j.1 j.2.1 j.2.2.1 j.2.2.2.1.1 j.2.2.2.1.2.1 j.2.2.2.2.1 j.2.2.2.2.2.1 j.2.2.2.2.2.2.1 l E =
      some (j.1, (j.2.1, (j.2.2.1, (j.2.2.2.1.1, (j.2.2.2.1.2.1, (j.2.2.2.2.1, (j.2.2.2.2.2.1, (j.2.2.2.2.2.2.1, E ++ (List.range' i r).flatMap fun i => (List.range (nP j)).flatMap fun t => RI j l i t)))))))) := by
  have hn := J.n2
  obtain ⟨p1, p2, p3⟩ := nP_int J
  intro r
  induction r with
  | zero =>
    intro i E hi hE
    rw [impl_relaxedPlan_l0_eq]
    unfold impl_relaxedPlan_l0K
    have : decide ((i : Int) < (j.1.length : Int)) = false := by simp; omega
    rw [this]; simp
  | succ r ih =>
    intro i E hi hE
    have hil : i < j.1.length := by omega
    have wk : IntKind.i64.wrap ((i : Int) + 1) = ((i + 1 : Nat) : Int) := by rw [wr (by omega) (by omega)]; omega
    have h1 := l1_i J M hil (nP j) 0 E (by omega) (by omega)
    have h1 : impl_relaxedPlan_l1 ((j.1.length * nP j + 2 : Nat) : Int) (i : Int) 0 j.1 j.2.1 j.2.2.1 j.2.2.2.1.1 j.2.2.2.1.2.1 j.2.2.2.2.1 j.2.2.2.2.2.1 j.2.2.2.2.2.2.1 l E = _ := h1
    have hl := flat_len (l := l) J hil (List.range' 0 (nP j))
    rw [List.length_range'] at hl
    have hm : nP j * 122 ≤ 732 := by omega
    rw [impl_relaxedPlan_l0_eq]
    unfold impl_relaxedPlan_l0K
    simp only [dl hil, cond_true, h1, Option.bind_some, wk]
    rw [ih (i + 1) _ (by omega) (by rw [List.length_append]; omega), List.range'_succ, List.flatMap_cons, List.append_assoc, List.range_eq_range']
theorem edges_i (J : JobOk j) (M : MulOk j l) : impl_relaxedPlan_l0 ((j.1.length * nP j + 2 : Nat) : Int) (j.1.length : Int) 0 j.1 j.2.1 j.2.2.1 j.2.2.2.1.1 j.2.2.2.1.2.1 j.2.2.2.2.1 j.2.2.2.2.2.1 j.2.2.2.2.2.2.1 l [] =
      some (j.1, (j.2.1, (j.2.2.1, (j.2.2.2.1.1, (j.2.2.2.1.2.1, (j.2.2.2.2.1, (j.2.2.2.2.2.1, (j.2.2.2.2.2.2.1, XI (gr j l) 1152921504606846976)))))))) := by
  have hn := J.n2
  have := l0_i J M j.1.length 0 [] (by omega) (by simp only [List.length_nil]; omega)
  have this : impl_relaxedPlan_l0 ((j.1.length * nP j + 2 : Nat) : Int) (j.1.length : Int) 0 j.1 j.2.1 j.2.2.1 j.2.2.2.1.1 j.2.2.2.1.2.1 j.2.2.2.2.1 j.2.2.2.2.2.1 j.2.2.2.2.2.2.1 l [] = _ := this
  rw [this, List.nil_append, ← List.range_eq_range']
  rfl
/-! ### The reference's -/
theorem node_s (J : JobOk j) (hi : i ≤ 200) (ht : t ≤ 10) : IntKind.i64.wrap (IntKind.i64.wrap (IntKind.i64.wrap ((t : Int) * (j.1.length : Int)) + (i : Int)) + 1) = nS (gr j l) i t := by
  have hn := J.n2
  have h1 : t * j.1.length ≤ 10 * 120 := Nat.mul_le_mul ht hn
  have e1 : (t : Int) * (j.1.length : Int) = ((t * j.1.length : Nat) : Int) := by simp
  rw [e1, wr (n := ((t * j.1.length : Nat) : Int)) (by omega) (by omega), wr (n := ((t * j.1.length : Nat) : Int) + (i : Int)) (by omega) (by omega), wr (by omega) (by omega)]
  unfold nS
  show _ = ((t * j.1.length + i + 1 : Nat) : Int)
  omega
theorem l2_s (J : JobOk j) (hi : i < j.1.length) (ht : t < nP j) (es : List Int) (hel : es.length ≤ 120) (hes : ∀ x ∈ es, 0 ≤ x ∧ x < (i : Int)) : ∀ (r k : Nat) (E : List DEdge), k + r = es.length → E.length + r ≤ 549755813888 →
    spec_rePlan_l2 (j.1.length : Int) (t : Int) (nS (gr j l) i t) es (es.length : Int) (k : Int) E = some (E ++ (es.drop k).map fun x => ((nS (gr j l) i t, nS (gr j l) x.toNat t, 36028797018963968, ()) : DEdge)) := by
  have hn := J.n2
  obtain ⟨p1, p2, p3⟩ := nP_int J
  intro r
  induction r with
  | zero =>
    intro k E hk hE
    have hd : es.drop k = [] := List.drop_eq_nil_of_le (by omega)
    rw [spec_rePlan_l2_eq]
    unfold spec_rePlan_l2K
    have : decide ((k : Int) < (es.length : Int)) = false := by simp; omega
    rw [this, hd]; simp
  | succ r ih =>
    intro k E hk hE
    have hkl : k < es.length := by omega
    have hx := hes _ (List.getElem_mem hkl)
    have e0 : es[k] = ((es[k].toNat : Nat) : Int) := by omega
    have wk : IntKind.i64.wrap ((k : Int) + 1) = ((k + 1 : Nat) : Int) := by rw [wr (by omega) (by omega)]; omega
    have n2 := node_s (l := l) (i := es[k].toNat) (t := t) J (by omega) (by omega)
    rw [← e0] at n2
    have c0 : ∀ {α : Type} (x : α), decide (E.length + [x].length ≤ 1099511627776) = true := fun x => decide_eq_true (by simp only [List.length_singleton]; omega)
    rw [spec_rePlan_l2_eq]
    unfold spec_rePlan_l2K
    simp only [dl hkl, cond_true, lat_nat hkl, Option.bind_some, n2, c0, wk]
    rw [ih (k + 1) _ (by omega) (by simp only [List.length_append, List.length_singleton]; omega), List.drop_eq_getElem_cons hkl]
    simp only [List.map_cons, List.append_assoc, List.singleton_append]
def RS (j : DJob) (l : List Int) (i t : Nat) : List DEdge := eV (gr j l) (nS (gr j l)) (zN (gr j l)) i t ++ eA (gr j l) (nS (gr j l)) 36028797018963968 i t ++ eT (gr j l) (nS (gr j l)) 36028797018963968 i t
theorem RS_len (J : JobOk j) (hi : i < j.1.length) : (RS j l i t).length ≤ 122 := by
  have := (arcs_ok J hi).2
  unfold RS eV eT eA
  simp only [List.length_append, List.length_map]
  have h : ((gr j l).arcs i).length ≤ 120 := by show ((j.1.getD i []).map Int.toNat).length ≤ 120; simpa using this
  split
  · split <;> simp <;> omega
  · split
    · split <;> simp <;> omega
    · split <;> simp <;> omega
theorem l1_s (J : JobOk j) (M : MulOk j l) (ht : t < nP j) : ∀ (r i : Nat) (E : List DEdge), i + r = j.1.length → E.length + r * 122 ≤ 274877906944 →
    spec_rePlan_l1 l (j.1.length : Int) (zN (gr j l)) (t : Int) j.1 (j.1.length : Int) j.1 j.2.1 j.2.2.1 j.2.2.2.1.1 j.2.2.2.1.2.1 j.2.2.2.2.1 j.2.2.2.2.2.1 j.2.2.2.2.2.2.1 (i : Int) E =
      some (E ++ (List.range' i r).flatMap fun i => RS j l i t) := by
  have hn := J.n2
  obtain ⟨p1, p2, p3⟩ := nP_int J
  have hnP : j.1.length * nP j ≤ 120 * 6 := Nat.mul_le_mul hn p3
  intro r
  induction r with
  | zero =>
    intro i E hi hE
    rw [spec_rePlan_l1_eq]
    unfold spec_rePlan_l1K
    have : decide ((i : Int) < (j.1.length : Int)) = false := by simp; omega
    rw [this]; simp
  | succ r ih =>
    intro i E hi0 hE
    have hi : i < j.1.length := by omega
    obtain ⟨ha1, ha2⟩ := arcs_ok J hi
    have wk : IntKind.i64.wrap ((i : Int) + 1) = ((i + 1 : Nat) : Int) := by rw [wr (by omega) (by omega)]; omega
    have wt : IntKind.i64.wrap ((t : Int) + 1) = ((t + 1 : Nat) : Int) := by rw [wr (by omega) (by omega)]; omega
    have b1 := Wt_bound (t := t) J M hi (by omega)
    have b2 := Wt_bound (t := t + 1) J M hi (by omega)
    have w1 := worth_s (t := t) J M hi (by omega)
    have w2 := worth_s (t := t + 1) J M hi (by omega)
    have n1 := node_s (l := l) (i := i) (t := t) J (by omega) (by omega)
    have wn1 : IntKind.i64.wrap (nS (gr j l) i t + (j.1.length : Int)) = nS (gr j l) i (t + 1) := by
      have h1 : (t + 1) * j.1.length ≤ 10 * 120 := Nat.mul_le_mul (by omega) hn
      have h2 : (t + 1) * j.1.length = t * j.1.length + j.1.length := by rw [Nat.add_mul]; omega
      have e : nS (gr j l) i t = ((t * j.1.length + i + 1 : Nat) : Int) := rfl
      have e' : nS (gr j l) i (t + 1) = (((t + 1) * j.1.length + i + 1 : Nat) : Int) := rfl
      rw [e, e', wr (by omega) (by omega)]; omega
    have wv : IntKind.i64.wrap (Wt j l i t - Wt j l i (t + 1)) = (gr j l).v i t := by rw [wr (by omega) (by omega)]; rfl
    have bv : -26400000000000 ≤ (gr j l).v i t ∧ (gr j l).v i t ≤ 26400000000000 := by
      have : (gr j l).v i t = Wt j l i t - Wt j l i (t + 1) := rfl
      omega
    have wn : IntKind.i64.wrap (0 - (gr j l).v i t) = - (gr j l).v i t := by rw [wr (by omega) (by omega)]; omega
    have la : lat j.1 (i : Int) = some (j.1.getD i []) := by rw [lat_nat hi, gd hi]
    have e1 : decide (((t + 1 : Nat) : Int) < j.2.2.2.2.1) = decide (t + 1 < nP j) := by rw [p1]; exact decide_eq_decide.2 (by omega)
    have c0 : ∀ {α : Type} (x : α), decide (E.length + [x].length ≤ 1099511627776) = true := fun x => decide_eq_true (by simp only [List.length_singleton]; omega)
    have hA : (eA (gr j l) (nS (gr j l)) 36028797018963968 i t).length ≤ 120 := by
      unfold eA; rw [List.length_map]
      show ((j.1.getD i []).map Int.toNat).length ≤ 120
      rw [List.length_map]; exact ha2
    have c1 : ∀ {α : Type} (E' : List DEdge), E'.length ≤ E.length + 1 → ∀ y : α, decide ((E' ++ eA (gr j l) (nS (gr j l)) 36028797018963968 i t).length + [y].length ≤ 1099511627776) = true := fun E' hE' y => decide_eq_true (by simp only [List.length_singleton, List.length_append]; omega)
    have l2 : ∀ E' : List DEdge, E'.length ≤ E.length + 1 → spec_rePlan_l2 (j.1.length : Int) (t : Int) (nS (gr j l) i t) (j.1.getD i []) ((j.1.getD i []).length : Int) 0 E' =
        some (E' ++ eA (gr j l) (nS (gr j l)) 36028797018963968 i t) := fun E' hE' => by
      have := l2_s (l := l) J hi ht (j.1.getD i []) ha2 ha1 (j.1.getD i []).length 0 E' (by omega) (by omega)
      have this : spec_rePlan_l2 (j.1.length : Int) (t : Int) (nS (gr j l) i t) (j.1.getD i []) ((j.1.getD i []).length : Int) 0 E' = _ := this
      rw [this, List.drop_zero]
      have : eA (gr j l) (nS (gr j l)) 36028797018963968 i t = (j.1.getD i []).map fun x => ((nS (gr j l) i t, nS (gr j l) x.toNat t, 36028797018963968, ()) : DEdge) := by
        unfold eA; show ((j.1.getD i []).map Int.toNat).map _ = _
        rw [List.map_map]; rfl
      rw [this]
    have hI : ∀ E' : List DEdge, E' = E ++ RS j l i t → spec_rePlan_l1 l (j.1.length : Int) (zN (gr j l)) (t : Int) j.1 (j.1.length : Int) j.1 j.2.1 j.2.2.1 j.2.2.2.1.1 j.2.2.2.1.2.1 j.2.2.2.2.1 j.2.2.2.2.2.1 j.2.2.2.2.2.2.1 ((i + 1 : Nat) : Int) E' =
        some (E ++ (List.range' i (r + 1)).flatMap fun i => RS j l i t) := fun E' hE' => by
      have hl := RS_len (l := l) (t := t) J hi
      rw [hE', ih (i + 1) _ (by omega) (by rw [List.length_append]; omega), List.range'_succ, List.flatMap_cons, List.append_assoc]
    rw [spec_rePlan_l1_eq]
    unfold spec_rePlan_l1K
    simp only [dl hi, cond_true, la, n1, Option.bind_some, jobEta, w1, wt, w2, wv, wn, wk, e1]
    rcases Int.lt_trichotomy 0 ((gr j l).v i t) with h | h | h
    · have q1 : decide ((gr j l).v i t > 0) = true := decide_eq_true h
      have q2 : decide ((gr j l).v i t < 0) = false := decide_eq_false (by omega)
      simp only [q1, q2, cond_true, cond_false, c0]
      rw [l2 _ (by simp)]
      simp only [Option.bind_some]
      rw [c1 _ (by simp)]
      by_cases c : t + 1 < nP j
      · simp only [decide_eq_true c, cond_true]
        rw [wn1]
        refine hI _ ?_
        have c' : t + 1 < (gr j l).P := c
        simp [RS, eV, eT, h, c', List.append_assoc]
      · simp only [decide_eq_false c, cond_false]
        refine hI _ ?_
        have c' : ¬ t + 1 < (gr j l).P := c
        simp [RS, eV, eT, h, c', List.append_assoc]
    · have q1 : decide ((gr j l).v i t > 0) = false := decide_eq_false (by omega)
      have q2 : decide ((gr j l).v i t < 0) = false := decide_eq_false (by omega)
      simp only [q1, q2, cond_false]
      rw [l2 _ (by simp)]
      simp only [Option.bind_some]
      rw [c1 _ (by simp)]
      by_cases c : t + 1 < nP j
      · simp only [decide_eq_true c, cond_true]
        rw [wn1]
        refine hI _ ?_
        have c' : t + 1 < (gr j l).P := c
        simp [RS, eV, eT, ← h, c', List.append_assoc]
      · simp only [decide_eq_false c, cond_false]
        refine hI _ ?_
        have c' : ¬ t + 1 < (gr j l).P := c
        simp [RS, eV, eT, ← h, c', List.append_assoc]
    · have q1 : decide ((gr j l).v i t > 0) = false := decide_eq_false (by omega)
      have q2 : decide ((gr j l).v i t < 0) = true := decide_eq_true h
      have h0 : ¬ 0 < (gr j l).v i t := by omega
      simp only [q1, q2, cond_true, cond_false, c0]
      rw [l2 _ (by simp)]
      simp only [Option.bind_some]
      rw [c1 _ (by simp)]
      by_cases c : t + 1 < nP j
      · simp only [decide_eq_true c, cond_true]
        rw [wn1]
        refine hI _ ?_
        have c' : t + 1 < (gr j l).P := c
        simp [RS, eV, eT, h, h0, c', List.append_assoc]
      · simp only [decide_eq_false c, cond_false]
        refine hI _ ?_
        have c' : ¬ t + 1 < (gr j l).P := c
        simp [RS, eV, eT, h, h0, c', List.append_assoc]
theorem flatS_len (J : JobOk j) {t : Nat} : ∀ (is : List Nat), (∀ i ∈ is, i < j.1.length) → (is.flatMap fun i => RS j l i t).length ≤ is.length * 122
  | [], _ => by simp
  | i :: is, h => by
    have h1 := RS_len (l := l) (t := t) J (h i List.mem_cons_self)
    have h2 := flatS_len (t := t) J is fun x hx => h x (List.mem_cons_of_mem _ hx)
    rw [List.flatMap_cons, List.length_append, List.length_cons, Nat.add_mul]; omega
theorem l0_s (J : JobOk j) (M : MulOk j l) : ∀ (r t : Nat) (E : List DEdge), t + r = nP j → E.length + r * 14640 ≤ 137438953472 →
    spec_rePlan_l0 l (j.1.length : Int) (zN (gr j l)) j.1 j.2.1 j.2.2.1 j.2.2.2.1.1 j.2.2.2.1.2.1 j.2.2.2.2.1 j.2.2.2.2.2.1 j.2.2.2.2.2.2.1 (t : Int) E =
      some (E ++ (List.range' t r).flatMap fun t => (List.range j.1.length).flatMap fun i => RS j l i t) := by
  have hn := J.n2
  obtain ⟨p1, p2, p3⟩ := nP_int J
  intro r
  induction r with
  | zero =>
    intro t E ht hE
    rw [spec_rePlan_l0_eq]
    unfold spec_rePlan_l0K
    have : decide ((t : Int) < j.2.2.2.2.1) = false := by rw [p1]; simp; omega
    rw [this]; simp
  | succ r ih =>
    intro t E ht hE
    have htl : t < nP j := by omega
    have f1 : decide ((t : Int) < j.2.2.2.2.1) = true := by rw [p1]; exact dl htl
    have wk : IntKind.i64.wrap ((t : Int) + 1) = ((t + 1 : Nat) : Int) := by rw [wr (by omega) (by omega)]; omega
    have h1 := l1_s J M htl j.1.length 0 E (by omega) (by omega)
    have h1 : spec_rePlan_l1 l (j.1.length : Int) (zN (gr j l)) (t : Int) j.1 (j.1.length : Int) j.1 j.2.1 j.2.2.1 j.2.2.2.1.1 j.2.2.2.1.2.1 j.2.2.2.2.1 j.2.2.2.2.2.1 j.2.2.2.2.2.2.1 0 E = _ := h1
    have hl := flatS_len (l := l) (t := t) J (List.range' 0 j.1.length) fun i hi => by
      have := List.mem_range'_1.1 hi; omega
    rw [List.length_range'] at hl
    rw [spec_rePlan_l0_eq]
    unfold spec_rePlan_l0K
    simp only [f1, cond_true, h1, Option.bind_some, wk]
    rw [ih (t + 1) _ (by omega) (by rw [List.length_append]; omega), List.range'_succ, List.flatMap_cons, List.append_assoc, List.range_eq_range']
theorem edges_s (J : JobOk j) (M : MulOk j l) : spec_rePlan_l0 l (j.1.length : Int) (zN (gr j l)) j.1 j.2.1 j.2.2.1 j.2.2.2.1.1 j.2.2.2.1.2.1 j.2.2.2.2.1 j.2.2.2.2.2.1 j.2.2.2.2.2.2.1 0 [] =
      some (XE (gr j l) 36028797018963968) := by
  obtain ⟨p1, p2, p3⟩ := nP_int J
  have := l0_s J M (nP j) 0 [] (by omega) (by simp only [List.length_nil]; omega)
  have this : spec_rePlan_l0 l (j.1.length : Int) (zN (gr j l)) j.1 j.2.1 j.2.2.1 j.2.2.2.1.1 j.2.2.2.1.2.1 j.2.2.2.2.1 j.2.2.2.2.2.1 j.2.2.2.2.2.2.1 0 [] = _ := this
  rw [this, List.nil_append, ← List.range_eq_range']
  rfl
end
end Go.OAI
