/- The relaxed plan: both sides find the same, second half. -/
import Derived.Test.YtokaffjipngphaaPrep
namespace Go.OAI
set_option linter.unusedVariables false
noncomputable section
variable {j : DJob} {l : List Int} {i t : Nat}

theorem wr_nat {q : Nat} (h : q ≤ 1000000) : IntKind.i64.wrap (q : Int) = (q : Int) := wr (by omega) (by omega)
def stp (n : Nat) (W : List Int) (z : Int) : List Int :=
  if W.getD ((z.toNat - 1) % n) 0 < 0 ∨ (((z.toNat - 1) / n : Nat) : Int) < W.getD ((z.toNat - 1) % n) 0 then W.set ((z.toNat - 1) % n) (((z.toNat - 1) / n : Nat) : Int) else W
theorem stp_len {n : Nat} {W : List Int} {z : Int} : (stp n W z).length = W.length := by unfold stp; split <;> simp
theorem fold_stp_len {n : Nat} : ∀ (T : List Int) (W : List Int), (T.foldl (stp n) W).length = W.length
  | [], W => rfl
  | z :: T, W => by rw [List.foldl_cons, fold_stp_len T, stp_len]
theorem l4_s {n : Nat} (hn1 : 1 ≤ n) (hn : n ≤ 120) (T : List Int) (hT : ∀ z ∈ T, 1 ≤ z ∧ z ≤ 1000000) (hTl : T.length ≤ 1000000) : ∀ (r k : Nat) (W : List Int), k + r = T.length → W.length = n →
    spec_rePlan_l4 (n : Int) (0 + 1) (((0 : Int) :: T).length - 1) (((((0 : Int) :: T).drop (0 + 1)).take (((0 : Int) :: T).length - 1)).length : Int) ((0 : Int) :: T) (k : Int) W = some ((T.drop k).foldl (stp n) W) := by
  have ht : ((((0 : Int) :: T).drop (0 + 1)).take (((0 : Int) :: T).length - 1)) = T := by simp
  rw [ht]
  intro r
  induction r with
  | zero =>
    intro k W hk hW
    have hd : T.drop k = [] := List.drop_eq_nil_of_le (by omega)
    rw [spec_rePlan_l4_eq]
    unfold spec_rePlan_l4K
    have : decide ((k : Int) < (T.length : Int)) = false := by simp; omega
    rw [this, hd]; rfl
  | succ r ih =>
    intro k W hk hW
    have hkl : k < T.length := by omega
    obtain ⟨z1, z2⟩ := hT _ (List.getElem_mem hkl)
    have hg : ((0 : Int) :: T).getD (0 + 1 + k) 0 = T[k] := by
      rw [show 0 + 1 + k = k + 1 by omega]
      simp [hkl]
    have wz : IntKind.i64.wrap (T[k] - 1) = ((T[k].toNat - 1 : Nat) : Int) := by rw [wr (by omega) (by omega)]; omega
    have wk : IntKind.i64.wrap ((k : Int) + 1) = ((k + 1 : Nat) : Int) := by rw [wr (by omega) (by omega)]; omega
    have e1 : ((T[k].toNat - 1 : Nat) : Int).tmod (n : Int) = (((T[k].toNat - 1) % n : Nat) : Int) := rfl
    have e2 : ((T[k].toNat - 1 : Nat) : Int).tdiv (n : Int) = (((T[k].toNat - 1) / n : Nat) : Int) := rfl
    have hq : (T[k].toNat - 1) / n ≤ T[k].toNat - 1 := Nat.div_le_self _ _
    have w3 : IntKind.i64.wrap (((T[k].toNat - 1) / n : Nat) : Int) = (((T[k].toNat - 1) / n : Nat) : Int) := wr_nat (Nat.le_trans hq (by omega))
    have hm : (T[k].toNat - 1) % n < n := Nat.mod_lt _ (by omega)
    have f4 := dl (i := (T[k].toNat - 1) % n) (n := W.length) (by omega)
    have n0 : decide ((n : Int) = 0) = false := decide_eq_false (by omega)
    have step : spec_rePlan_l4 (n : Int) (0 + 1) (((0 : Int) :: T).length - 1) (T.length : Int) ((0 : Int) :: T) (k : Int) W =
        spec_rePlan_l4 (n : Int) (0 + 1) (((0 : Int) :: T).length - 1) (T.length : Int) ((0 : Int) :: T) ((k + 1 : Nat) : Int) (stp n W T[k]) := by
      rw [spec_rePlan_l4_eq]
      unfold spec_rePlan_l4K
      rw [ht]
      simp only [dl hkl, cond_true, dz, Bool.and_self, n0, cond_false, tz, hg, wz, e1, e2, f4, w3, Nat.zero_add, wk]
      unfold stp
      by_cases c1 : W.getD ((T[k].toNat - 1) % n) 0 < 0
      · rw [if_pos (.inl c1), decide_eq_true c1]
        simp only [cond_true, Option.bind_some]
      · rw [decide_eq_false c1]
        by_cases c2 : (((T[k].toNat - 1) / n : Nat) : Int) < W.getD ((T[k].toNat - 1) % n) 0
        · rw [if_pos (.inr c2), decide_eq_true c2]
          simp only [cond_true, cond_false, Option.bind_some]
        · rw [if_neg (fun h => h.elim c1 c2), decide_eq_false c2]
          simp only [cond_false]
    rw [step, ih (k + 1) _ (by omega) (by rw [stp_len]; exact hW), List.drop_eq_getElem_cons hkl, List.foldl_cons]
/-- What the fold has after the nodes up to m. -/
theorem fold_inv {n : Nat} (hn1 : 1 ≤ n) (S : Nat → Bool) : ∀ (m : Nat) (i : Nat), i < n →
    (((((List.range' 1 m).filter S).map fun z : Nat => (z : Int)).foldl (stp n) (List.replicate n (-1))).getD i 0 = -1 ∧ ∀ t, t * n + i + 1 ≤ m → S (t * n + i + 1) = false) ∨
    ∃ t : Nat, ((((List.range' 1 m).filter S).map fun z : Nat => (z : Int)).foldl (stp n) (List.replicate n (-1))).getD i 0 = (t : Int) ∧ S (t * n + i + 1) = true ∧ t * n + i + 1 ≤ m ∧ ∀ s, s < t → S (s * n + i + 1) = false := by
  intro m
  induction m with
  | zero =>
    intro i hi
    refine .inl ⟨?_, fun t ht => by omega⟩
    show (List.replicate n (-1 : Int)).getD i 0 = -1
    rw [gd (by simpa using hi)]; simp
  | succ m ih =>
    intro i hi
    have ih0 := ih (m % n) (Nat.mod_lt _ (by omega))
    have ih := ih i hi
    have hlen : ((((List.range' 1 m).filter S).map fun z : Nat => (z : Int)).foldl (stp n) (List.replicate n (-1))).length = n := by rw [fold_stp_len]; simp
    have hdm : m / n * n + m % n = m := by rw [Nat.mul_comm]; exact Nat.div_add_mod m n
    rw [List.range'_concat, List.filter_append, List.map_append, List.foldl_append]
    generalize (((List.range' 1 m).filter S).map fun z : Nat => (z : Int)).foldl (stp n) (List.replicate n (-1)) = W at *
    have e1 : 1 + 1 * m = m + 1 := by omega
    rw [e1]
    cases hs : S (m + 1) with
    | false =>
      have : ([m + 1].filter S).map (fun z : Nat => (z : Int)) = [] := by simp [hs]
      rw [this, List.foldl_nil]
      rcases ih with ⟨h1, h2⟩ | ⟨t, h1, h2, h3, h4⟩
      · refine .inl ⟨h1, fun t ht => ?_⟩
        by_cases c : t * n + i + 1 = m + 1
        · rw [c]; exact hs
        · exact h2 t (by omega)
      · exact .inr ⟨t, h1, h2, by omega, h4⟩
    | true =>
      have : ([m + 1].filter S).map (fun z : Nat => (z : Int)) = [((m + 1 : Nat) : Int)] := by simp [hs]
      rw [this, List.foldl_cons, List.foldl_nil]
      have e2 : ((m + 1 : Nat) : Int).toNat - 1 = m := by omega
      unfold stp
      rw [e2]
      by_cases c : i = m % n
      · subst c
        rcases ih with ⟨h1, h2⟩ | ⟨t, h1, h2, h3, h4⟩
        · rw [if_pos (.inl (by omega)), gs_eq (by omega)]
          refine .inr ⟨m / n, rfl, ?_, ?_, fun s hs' => ?_⟩
          · rw [hdm]; exact hs
          · omega
          · have h5 : (s + 1) * n ≤ m / n * n := Nat.mul_le_mul_right n (by omega)
            rw [Nat.add_mul] at h5
            exact h2 s (by omega)
        · have ht : t ≤ m / n := by
            by_cases c2 : t ≤ m / n
            · exact c2
            · have h5 : (m / n + 1) * n ≤ t * n := Nat.mul_le_mul_right n (by omega)
              rw [Nat.add_mul] at h5
              omega
          rw [if_neg (by rw [h1]; omega)]
          exact .inr ⟨t, h1, h2, by omega, h4⟩
      · have hk : ∀ t, t * n + i + 1 ≠ m + 1 := fun t ht => c (by
          have : m = t * n + i := by omega
          rw [this, Nat.mul_comm, Nat.mul_add_mod, Nat.mod_eq_of_lt hi])
        have hw : ∀ x : Int, (W.set (m % n) x).getD i 0 = W.getD i 0 := fun x => gs_ne (Ne.symm c)
        have hg : (if W.getD (m % n) 0 < 0 ∨ ((m / n : Nat) : Int) < W.getD (m % n) 0 then W.set (m % n) ((m / n : Nat) : Int) else W).getD i 0 = W.getD i 0 := by
          split
          · exact hw _
          · rfl
        rw [hg]
        rcases ih with ⟨h1, h2⟩ | ⟨t, h1, h2, h3, h4⟩
        · exact .inl ⟨h1, fun t ht => h2 t (by have := hk t; omega)⟩
        · exact .inr ⟨t, h1, h2, by omega, h4⟩
theorem fill_s {n : Nat} (hn : n ≤ 120) : spec_rePlan_l3 (n : Int) 0 (List.replicate n 0) = some (List.replicate n (-1)) := by
  refine emptyL (f := fun i r => spec_rePlan_l3 (n : Int) i r) n (by omega) ?_ fun i r hi hr => ?_
  · show spec_rePlan_l3 _ _ _ = _
    rw [spec_rePlan_l3_eq]; unfold spec_rePlan_l3K
    rw [lt_out (Nat.le_refl _)]
  · show spec_rePlan_l3 _ _ _ = spec_rePlan_l3 _ _ _
    rw [spec_rePlan_l3_eq]; unfold spec_rePlan_l3K
    rw [lt_in hi, ck_in (by omega), wr_succ hi (by omega)]
    simp
/-- The reference's relaxed plan. -/
theorem relaxed_s (J : JobOk j) (M : MulOk j l) : ∃ C W, Least ((j.1.length * nP j + 2 : Nat) : Int) (eds (XE (gr j l) 36028797018963968)) C ∧
    spec_rePlan j l = some (j.2.2.2.2.1, W) ∧ W.length = j.1.length ∧ ∀ i, i < j.1.length → IsWh (fun t => C (nS (gr j l) i t)) (nP j) (W.getD i 0) := by
  have hn := J.n2
  have hn1 := J.n1
  obtain ⟨p1, p2, p3⟩ := nP_int J
  have hnP : j.1.length * nP j ≤ 120 * 6 := Nat.mul_le_mul hn p3
  obtain ⟨sn, c1, c2, c3⟩ := cut_s (XE_ok J M)
  have s0 : sn.getD 0 false = true := c2.s0
  have s1 : sn.getD (j.1.length * nP j + 1) false = false := by
    have := c2.s1
    rwa [show (((j.1.length * nP j + 2 : Nat) : Int) - 1).toNat = j.1.length * nP j + 1 by omega] at this
  have hlist : (((List.range (j.1.length * nP j + 2)).filter fun i => sn.getD i false).map fun i : Nat => (i : Int)) = (0 : Int) :: (((List.range' 1 (j.1.length * nP j + 1)).filter fun i => sn.getD i false).map fun i : Nat => (i : Int)) := by
    rw [List.range_eq_range', List.range'_succ, List.filter_cons, if_pos s0, List.map_cons]; rfl
  rw [hlist] at c3
  have hT : ∀ z ∈ (((List.range' 1 (j.1.length * nP j + 1)).filter fun i => sn.getD i false).map fun i : Nat => (i : Int)), 1 ≤ z ∧ z ≤ 1000000 := fun z hz => by
    obtain ⟨x, hx, rfl⟩ := List.mem_map.1 hz
    have := List.mem_range'_1.1 (List.mem_filter.1 hx).1
    omega
  have hTl : (((List.range' 1 (j.1.length * nP j + 1)).filter fun i => sn.getD i false).map fun i : Nat => (i : Int)).length ≤ 1000000 := by
    rw [List.length_map]
    have := List.length_filter_le (fun i => sn.getD i false) (List.range' 1 (j.1.length * nP j + 1))
    rw [List.length_range'] at this
    omega
  have hl4 := l4_s hn1 hn _ hT hTl _ 0 (List.replicate j.1.length (-1)) (by rw [Nat.zero_add]) (by simp)
  have hinv := fold_inv hn1 (fun i => sn.getD i false) (j.1.length * nP j + 1)
  have hfl := fold_stp_len (n := j.1.length) (((List.range' 1 (j.1.length * nP j + 1)).filter fun i => sn.getD i false).map fun i : Nat => (i : Int)) (List.replicate j.1.length (-1))
  generalize hTd : (((List.range' 1 (j.1.length * nP j + 1)).filter fun i => sn.getD i false).map fun i : Nat => (i : Int)) = T at *
  refine ⟨_, T.foldl (stp j.1.length) (List.replicate j.1.length (-1)), c2, ?_, by rw [hfl]; simp, fun i hi => ?_⟩
  · have e : (j.1.length : Int) * (nP j : Int) = ((j.1.length * nP j : Nat) : Int) := by simp
    have w1 : IntKind.i64.wrap (IntKind.i64.wrap ((j.1.length : Int) * j.2.2.2.2.1) + 1) = zN (gr j l) := by
      rw [p1, e, wr (n := ((j.1.length * nP j : Nat) : Int)) (by omega) (by omega), wr (by omega) (by omega)]
      unfold zN; show _ = ((j.1.length * nP j + 1 : Nat) : Int); omega
    have w2 : IntKind.i64.wrap (zN (gr j l) + 1) = ((j.1.length * nP j + 2 : Nat) : Int) := by
      have : zN (gr j l) = ((j.1.length * nP j + 1 : Nat) : Int) := rfl
      rw [this, wr (by omega) (by omega)]; omega
    have d1 : decide ((j.1.length : Int) ≤ 1099511627776) = true := decide_eq_true (by omega)
    have d2 : decide ((j.1.length : Int) ≤ (j.1.length : Int)) = true := decide_eq_true (by omega)
    have d3 : decide ((1 : Int) ≤ (((0 : Int) :: T).length : Int)) = true := decide_eq_true (by simp only [List.length_cons]; omega)
    have d4 : decide ((((0 : Int) :: T).length : Int) ≤ (((0 : Int) :: T).length : Int)) = true := decide_eq_true (by omega)
    have hl4 : spec_rePlan_l4 (j.1.length : Int) (0 + 1) (((0 : Int) :: T).length - 1) (((((0 : Int) :: T).drop (0 + 1)).take (((0 : Int) :: T).length - 1)).length : Int) ((0 : Int) :: T) 0 (List.replicate j.1.length (-1)) = some (T.foldl (stp j.1.length) (List.replicate j.1.length (-1))) := hl4
    unfold spec_rePlan spec_rePlanK
    simp only [w1, Option.bind_some, edges_s J M, dz, d1, d2, Bool.and_self, cond_true, tz, List.length_replicate, fill_s hn, w2, c3, d3, d4, hl4]
  · have hS : ∀ t, (fun z : Int => sn.getD z.toNat false) (nS (gr j l) i t) = sn.getD (t * j.1.length + i + 1) false := fun t => by
      show sn.getD ((t * j.1.length + i + 1 : Nat) : Int).toNat false = _
      rw [tz]
    rcases hinv i hi with ⟨h1, h2⟩ | ⟨t, h1, h2, h3, h4⟩
    · refine .inl ⟨h1, fun t ht => ?_⟩
      rw [hS]
      have := node_lt ht hi
      rw [Nat.mul_comm (nP j)] at this
      exact h2 t (by omega)
    · have hne : t * j.1.length + i + 1 ≠ j.1.length * nP j + 1 := fun h => by
        rw [h] at h2
        have h2 : sn.getD (j.1.length * nP j + 1) false = true := h2
        rw [s1] at h2; cases h2
      have htP : t < nP j := by
        by_cases c : t < nP j
        · exact c
        · have h5 : nP j * j.1.length ≤ t * j.1.length := Nat.mul_le_mul_right _ (by omega)
          rw [Nat.mul_comm (nP j)] at h5
          omega
      exact .inr ⟨t, htP, h1, by rw [hS]; exact h2, fun s hs => by rw [hS]; exact h4 s hs⟩
/-- Both relaxed plans. -/
theorem relaxed_ok (J : JobOk j) (M : MulOk j l) : ∃ W, impl_relaxedPlan j l = some (j.2.2.2.2.1, W) ∧ spec_rePlan j l = some (j.2.2.2.2.1, W) ∧ PlanOk j (j.2.2.2.2.1, W, ()) := by
  obtain ⟨p1, p2, p3⟩ := nP_int J
  obtain ⟨A, W, hA, g⟩ := relaxed_i J M
  obtain ⟨C, W', hC, g1, g2, g3⟩ := relaxed_s J M
  have hb := FF_none J M
  obtain ⟨m1, m2⟩ := least_match (g := gr j l) (gr_ok J) (by omega) hb hA hC
  obtain ⟨k1, k2, k3⟩ := g fun i hi t ht hq => VV_up (Q := fun i t => A (nI (gr j l) i t)) m2 hi ht hq
  have e : W = W' := by
    apply List.ext_getElem (by omega)
    intro i h1 h2
    have a := k3 i (by omega)
    have b := g3 i (by omega)
    have hw : IsWh (fun t => A (nI (gr j l) i t)) (nP j) (W'.getD i 0) := by
      rcases b with ⟨b1, b2⟩ | ⟨t, b1, b2, b3, b4⟩
      · exact .inl ⟨b1, fun t ht => by
          show A (nI (gr j l) i t) = false
          rw [m1 i t (show i < j.1.length by omega) ht]; exact b2 t ht⟩
      · refine .inr ⟨t, b1, b2, ?_, fun s hs => ?_⟩
        · show A (nI (gr j l) i t) = true
          rw [m1 i t (show i < j.1.length by omega) b1]; exact b3
        · show A (nI (gr j l) i s) = false
          rw [m1 i s (show i < j.1.length by omega) (show s < nP j by omega)]; exact b4 s hs
    have := a.unique hw
    rwa [gd h1, gd h2] at this
  subst e
  refine ⟨W, k1, g1, ⟨rfl, by show W.length = _; exact k2, fun x hx => ?_⟩⟩
  obtain ⟨i, hi, rfl⟩ := List.getElem_of_mem hx
  have hi' : i < W.length := hi
  have := (k3 i (by omega)).range
  rw [gd hi'] at this
  show -1 ≤ W[i] ∧ W[i] < j.2.2.2.2.1
  omega
end
end Go.OAI
