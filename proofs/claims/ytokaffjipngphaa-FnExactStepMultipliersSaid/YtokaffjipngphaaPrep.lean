/- The relaxed plan: both sides find the same. -/
import Derived.Test.YtokaffjipngphaaPrem
namespace Go.OAI
set_option linter.unusedVariables false
noncomputable section
variable {j : DJob} {l : List Int} {i t : Nat}

theorem nI_range {g : Gr} {i t : Nat} (hi : i < g.n) (ht : t < g.P) : 0 ≤ nI g i t ∧ nI g i t < ((g.n * g.P + 2 : Nat) : Int) := by
  have := node_lt hi ht
  unfold nI; omega
theorem nS_range {g : Gr} {i t : Nat} (hi : i < g.n) (ht : t < g.P) : 0 ≤ nS g i t ∧ nS g i t < ((g.n * g.P + 2 : Nat) : Int) := by
  have := node_lt ht hi
  rw [Nat.mul_comm g.P] at this
  unfold nS; omega
theorem zN_range {g : Gr} : 0 ≤ zN g ∧ zN g < ((g.n * g.P + 2 : Nat) : Int) := by unfold zN; omega
theorem v_bound (J : JobOk j) (M : MulOk j l) (hi : i < j.1.length) (ht : t < nP j) : -26400000000000 ≤ (gr j l).v i t ∧ (gr j l).v i t ≤ 26400000000000 := by
  have b1 := Wt_bound (t := t) J M hi (by omega)
  have b2 := Wt_bound (t := t + 1) J M hi (by omega)
  have : (gr j l).v i t = Wt j l i t - Wt j l i (t + 1) := rfl
  omega
def eGood (N : Int) (e : DEdge) : Prop := (0 ≤ e.1 ∧ e.1 < N) ∧ (0 ≤ e.2.1 ∧ e.2.1 < N) ∧ (0 ≤ e.2.2.1 ∧ e.2.2.1 ≤ 2305843009213693952)
theorem eV_good {nd : Nat → Nat → Int} {z N : Int} (hz : 0 ≤ z ∧ z < N) (hn : 0 ≤ nd i t ∧ nd i t < N) (J : JobOk j) (M : MulOk j l) (hi : i < j.1.length) (ht : t < nP j) : ∀ e ∈ eV (gr j l) nd z i t, eGood N e := by
  intro e he
  have hb := v_bound J M hi ht
  unfold eV at he
  split at he
  · have : e = (0, nd i t, (gr j l).v i t, ()) := by simpa using he
    subst this
    exact ⟨by show (0 : Int) ≤ 0 ∧ (0 : Int) < N; omega, hn, by show 0 ≤ (gr j l).v i t ∧ (gr j l).v i t ≤ _; omega⟩
  · split at he
    · have : e = (nd i t, z, - (gr j l).v i t, ()) := by simpa using he
      subst this
      exact ⟨hn, hz, by show 0 ≤ - (gr j l).v i t ∧ - (gr j l).v i t ≤ _; omega⟩
    · simp at he
theorem eT_good {nd : Nat → Nat → Int} {N B : Int} (hB : 0 ≤ B ∧ B ≤ 2305843009213693952) (hn : 0 ≤ nd i t ∧ nd i t < N) (hn2 : t + 1 < nP j → 0 ≤ nd i (t + 1) ∧ nd i (t + 1) < N) : ∀ e ∈ eT (gr j l) nd B i t, eGood N e := by
  intro e he
  unfold eT at he
  split at he
  · rename_i c
    have : e = (nd i t, nd i (t + 1), B, ()) := by simpa using he
    subst this
    exact ⟨hn, hn2 c, hB⟩
  · simp at he
theorem eA_good {nd : Nat → Nat → Int} {N B : Int} (hB : 0 ≤ B ∧ B ≤ 2305843009213693952) (hn : 0 ≤ nd i t ∧ nd i t < N) (hk : ∀ k ∈ (gr j l).arcs i, 0 ≤ nd k t ∧ nd k t < N) : ∀ e ∈ eA (gr j l) nd B i t, eGood N e := by
  intro e he
  obtain ⟨k, h1, rfl⟩ := List.mem_map.1 he
  exact ⟨hn, hk k h1, hB⟩
theorem flat2_len {f : Nat → Nat → List DEdge} {c : Nat} (a b : Nat) (h : ∀ i, i < a → ∀ t, t < b → (f i t).length ≤ c) : ((List.range a).flatMap fun i => (List.range b).flatMap fun t => f i t).length ≤ a * (b * c) := by
  have inner : ∀ i, i < a → ∀ m, m ≤ b → ((List.range m).flatMap fun t => f i t).length ≤ m * c := fun i hi m => by
    induction m with
    | zero => intro _; simp
    | succ m ih =>
      intro hm
      have h1 := ih (by omega)
      have h2 := h i hi m (by omega)
      rw [List.range_succ, List.flatMap_append, List.length_append, Nat.add_mul]
      simp only [List.flatMap_cons, List.flatMap_nil, List.append_nil]
      omega
  have outer : ∀ m, m ≤ a → ((List.range m).flatMap fun i => (List.range b).flatMap fun t => f i t).length ≤ m * (b * c) := fun m => by
    induction m with
    | zero => intro _; simp
    | succ m ih =>
      intro hm
      have h1 := ih (by omega)
      have h2 := inner m (by omega) b (Nat.le_refl _)
      rw [List.range_succ, List.flatMap_append, List.length_append, Nat.add_mul]
      simp only [List.flatMap_cons, List.flatMap_nil, List.append_nil]
      omega
  exact outer a (Nat.le_refl _)
theorem XI_ok (J : JobOk j) (M : MulOk j l) : EOk (j.1.length * nP j + 2) (XI (gr j l) 1152921504606846976) := by
  have hn := J.n2
  have hn1 := J.n1
  obtain ⟨p1, p2, p3⟩ := nP_int J
  have hnP : j.1.length * nP j ≤ 120 * 6 := Nat.mul_le_mul hn p3
  refine ⟨fun e he => ?_, ?_, by omega, by omega⟩
  · obtain ⟨i, hi, he⟩ := List.mem_flatMap.1 he
    obtain ⟨t, ht, he⟩ := List.mem_flatMap.1 he
    have hi : i < j.1.length := List.mem_range.1 hi
    have ht : t < nP j := List.mem_range.1 ht
    have hr : ∀ k u, k < j.1.length → u < nP j → 0 ≤ nI (gr j l) k u ∧ nI (gr j l) k u < ((j.1.length * nP j + 2 : Nat) : Int) := fun k u hk hu => nI_range (g := gr j l) hk hu
    rcases List.mem_append.1 he with he | he
    · rcases List.mem_append.1 he with he | he
      · exact eV_good (zN_range (g := gr j l)) (hr i t hi ht) J M hi ht e he
      · exact eT_good (by omega) (hr i t hi ht) (fun c => hr i (t + 1) hi c) e he
    · exact eA_good (by omega) (hr i t hi ht) (fun k hk => hr k t ((gr_ok (l := l) J).ar i hi k hk) ht) e he
  · have := flat2_len (f := RI j l) (c := 122) j.1.length (nP j) fun i hi t _ => RI_len J hi
    have h2 : j.1.length * (nP j * 122) ≤ 120 * (6 * 122) := Nat.mul_le_mul hn (Nat.mul_le_mul p3 (Nat.le_refl _))
    have h3 : (XI (gr j l) 1152921504606846976).length ≤ j.1.length * (nP j * 122) := this
    omega
theorem XE_ok (J : JobOk j) (M : MulOk j l) : EOk (j.1.length * nP j + 2) (XE (gr j l) 36028797018963968) := by
  have hn := J.n2
  have hn1 := J.n1
  obtain ⟨p1, p2, p3⟩ := nP_int J
  have hnP : j.1.length * nP j ≤ 120 * 6 := Nat.mul_le_mul hn p3
  refine ⟨fun e he => ?_, ?_, by omega, by omega⟩
  · obtain ⟨t, ht, he⟩ := List.mem_flatMap.1 he
    obtain ⟨i, hi, he⟩ := List.mem_flatMap.1 he
    have hi : i < j.1.length := List.mem_range.1 hi
    have ht : t < nP j := List.mem_range.1 ht
    have hr : ∀ k u, k < j.1.length → u < nP j → 0 ≤ nS (gr j l) k u ∧ nS (gr j l) k u < ((j.1.length * nP j + 2 : Nat) : Int) := fun k u hk hu => nS_range (g := gr j l) hk hu
    rcases List.mem_append.1 he with he | he
    · rcases List.mem_append.1 he with he | he
      · exact eV_good (zN_range (g := gr j l)) (hr i t hi ht) J M hi ht e he
      · exact eA_good (by omega) (hr i t hi ht) (fun k hk => hr k t ((gr_ok (l := l) J).ar i hi k hk) ht) e he
    · exact eT_good (by omega) (hr i t hi ht) (fun c => hr i (t + 1) hi c) e he
  · have := flat2_len (f := fun t i => RS j l i t) (c := 122) (nP j) j.1.length fun t _ i hi => RS_len J hi
    have h2 : nP j * (j.1.length * 122) ≤ 6 * (120 * 122) := Nat.mul_le_mul p3 (Nat.mul_le_mul hn (Nat.le_refl _))
    have h3 : (XE (gr j l) 36028797018963968).length ≤ nP j * (j.1.length * 122) := this
    omega
theorem FF_none (J : JobOk j) (M : MulOk j l) : FF (gr j l) (fun _ _ => false) < 36028797018963968 := by
  have hn := J.n2
  obtain ⟨p1, p2, p3⟩ := nP_int J
  have h1 : FF (gr j l) (fun _ _ => false) ≤ (j.1.length : Int) * (6 * 26400000000000) := by
    refine sm_le (by omega) j.1.length fun i hi => ?_
    have h2 : (sm (gr j l).P fun t => pf (gr j l) (fun _ _ => false) i t) ≤ (nP j : Int) * 26400000000000 := by
      refine sm_le (by omega) (nP j) fun t ht => ?_
      have hb := v_bound J M hi ht
      unfold pf
      split
      · simpa using hb.2
      · split <;> simp
    omega
  omega

/-- The first period in which a block is mined, or -1. -/
def IsWh (q : Nat → Bool) (P : Nat) (w : Int) : Prop := (w = -1 ∧ ∀ t, t < P → q t = false) ∨ ∃ t : Nat, t < P ∧ w = (t : Int) ∧ q t = true ∧ ∀ s, s < t → q s = false
theorem IsWh.unique {q : Nat → Bool} {P : Nat} {w w' : Int} (h : IsWh q P w) (h' : IsWh q P w') : w = w' := by
  rcases h with ⟨h1, h2⟩ | ⟨t, h1, h2, h3, h4⟩ <;> rcases h' with ⟨g1, g2⟩ | ⟨u, g1, g2, g3, g4⟩
  · omega
  · rw [h2 u g1] at g3; cases g3
  · rw [g2 t h1] at h3; cases h3
  · by_cases c : t < u
    · rw [g4 t c] at h3; cases h3
    · by_cases c' : u < t
      · rw [h4 u c'] at g3; cases g3
      · omega
theorem IsWh.range {q : Nat → Bool} {P : Nat} {w : Int} (h : IsWh q P w) : -1 ≤ w ∧ w < (P : Int) := by
  rcases h with ⟨h1, h2⟩ | ⟨t, h1, h2, h3, h4⟩ <;> omega
theorem l4_i (J : JobOk j) {A : Int → Bool} {sn : List Bool} (hA : ∀ z, A z = sn.getD z.toNat false) (hsn : sn.length = j.1.length * nP j + 2) (hi : i < j.1.length)
    (up : ∀ t, t + 1 < nP j → A (nI (gr j l) i t) = true → A (nI (gr j l) i (t + 1)) = true) : ∀ (k : Nat) (W : List Int), k ≤ nP j → W.length = j.1.length →
    (∀ t, k ≤ t → t < nP j → A (nI (gr j l) i t) = true) → W.getD i 0 = (if k < nP j then (k : Int) else -1) →
    ∃ w, impl_relaxedPlan_l4 (i : Int) sn ((k : Int) - 1) j.1 j.2.1 j.2.2.1 j.2.2.2.1.1 j.2.2.2.1.2.1 j.2.2.2.2.1 j.2.2.2.2.2.1 j.2.2.2.2.2.2.1 W =
      some (j.1, (j.2.1, (j.2.2.1, (j.2.2.2.1.1, (j.2.2.2.1.2.1, (j.2.2.2.2.1, (j.2.2.2.2.2.1, (j.2.2.2.2.2.2.1, W.set i w)))))))) ∧ IsWh (fun t => A (nI (gr j l) i t)) (nP j) w := by
  have hn := J.n2
  obtain ⟨p1, p2, p3⟩ := nP_int J
  intro k
  induction k with
  | zero =>
    intro W hk hW hall hw
    refine ⟨0, ?_, .inr ⟨0, by omega, rfl, hall 0 (by omega) (by omega), fun s hs => by omega⟩⟩
    rw [impl_relaxedPlan_l4_eq]
    unfold impl_relaxedPlan_l4K
    have : decide (((0 : Nat) : Int) - 1 ≥ 0) = false := decide_eq_false (by omega)
    rw [this]
    rw [if_pos (by omega)] at hw
    have hs : W.set i 0 = W := by
      have hil : i < W.length := by omega
      have e : W[i] = 0 := by rw [gd hil] at hw; simpa using hw
      apply List.ext_getElem (by simp)
      intro n h1 h2
      by_cases c : i = n
      · subst c; simp [e]
      · simp [c]
    rw [hs]; rfl
  | succ k ih =>
    intro W hk hW hall hw
    have e1 : ((k + 1 : Nat) : Int) - 1 = (k : Int) := by omega
    rw [e1]
    have nd := node_i (l := l) (i := i) (t := k) J (by omega) (by omega)
    have nr := nI_range (g := gr j l) hi (show k < nP j by omega)
    have nr2 : nI (gr j l) i k < ((j.1.length * nP j + 2 : Nat) : Int) := nr.2
    have f1 : decide ((k : Int) ≥ 0) = true := decide_eq_true (by omega)
    have f2 : decide ((0 : Int) ≤ nI (gr j l) i k) = true := decide_eq_true nr.1
    have f3 : decide (nI (gr j l) i k < (sn.length : Int)) = true := decide_eq_true (by omega)
    have f4 := dl (i := i) (n := W.length) (by omega)
    have wk : IntKind.i64.wrap ((k : Int) - 1) = (k : Int) - 1 := wr (by omega) (by omega)
    cases hq : A (nI (gr j l) i k) with
    | true =>
      obtain ⟨w, g1, g2⟩ := ih (W.set i (k : Int)) (by omega) (by simpa using hW) (fun t h1 h2 => by
        by_cases c : t = k
        · subst c; exact hq
        · exact hall t (by omega) h2) (by rw [gs_eq (by omega), if_pos (by omega)])
      refine ⟨w, ?_, g2⟩
      rw [impl_relaxedPlan_l4_eq]
      unfold impl_relaxedPlan_l4K
      rw [hA] at hq
      simp only [f1, cond_true, nd, Option.bind_some, f2, f3, Bool.and_self, Nat.zero_add, hq, dz, f4, tz, wk]
      rw [g1, List.set_set]
    | false =>
      refine ⟨W.getD i 0, ?_, ?_⟩
      · rw [impl_relaxedPlan_l4_eq]
        unfold impl_relaxedPlan_l4K
        rw [hA] at hq
        simp only [f1, cond_true, nd, Option.bind_some, f2, f3, Bool.and_self, Nat.zero_add, hq, cond_false]
        have hs : W.set i (W.getD i 0) = W := by
          have hil : i < W.length := by omega
          apply List.ext_getElem (by simp)
          intro n h1 h2
          by_cases c : i = n
          · subst c; simp [hil]
          · simp [c]
        rw [hs]
      · have low : ∀ m s, s + m = k → A (nI (gr j l) i s) = false := fun m => by
          induction m with
          | zero => intro s hs; have : s = k := by omega
                    subst this; exact hq
          | succ m ihm =>
            intro s hs
            cases hc : A (nI (gr j l) i s) with
            | false => rfl
            | true =>
              have := up s (by omega) hc
              rw [ihm (s + 1) (by omega)] at this; cases this
        rw [hw]
        by_cases c : k + 1 < nP j
        · rw [if_pos c]
          exact .inr ⟨k + 1, c, rfl, hall (k + 1) (Nat.le_refl _) c, fun s hs => low (k - s) s (by omega)⟩
        · rw [if_neg c]
          exact .inl ⟨rfl, fun s hs => low (k - s) s (by omega)⟩
theorem l3_i (J : JobOk j) {A : Int → Bool} {sn : List Bool} (hA : ∀ z, A z = sn.getD z.toNat false) (hsn : sn.length = j.1.length * nP j + 2)
    (up : ∀ i, i < j.1.length → ∀ t, t + 1 < nP j → A (nI (gr j l) i t) = true → A (nI (gr j l) i (t + 1)) = true) : ∀ (r k : Nat) (W : List Int), k + r = j.1.length → W.length = j.1.length →
    (∀ i, i < k → IsWh (fun t => A (nI (gr j l) i t)) (nP j) (W.getD i 0)) → (∀ i, k ≤ i → i < j.1.length → W.getD i 0 = -1) →
    ∃ W', impl_relaxedPlan_l3 (j.1.length : Int) sn (k : Int) j.1 j.2.1 j.2.2.1 j.2.2.2.1.1 j.2.2.2.1.2.1 j.2.2.2.2.1 j.2.2.2.2.2.1 j.2.2.2.2.2.2.1 W = some W' ∧ W'.length = j.1.length ∧ ∀ i, i < j.1.length → IsWh (fun t => A (nI (gr j l) i t)) (nP j) (W'.getD i 0) := by
  have hn := J.n2
  obtain ⟨p1, p2, p3⟩ := nP_int J
  intro r
  induction r with
  | zero =>
    intro k W hk hW h1 h2
    refine ⟨W, ?_, hW, fun i hi => h1 i (by omega)⟩
    rw [impl_relaxedPlan_l3_eq]
    unfold impl_relaxedPlan_l3K
    have : decide ((k : Int) < (j.1.length : Int)) = false := by simp; omega
    rw [this]; rfl
  | succ r ih =>
    intro k W hk hW h1 h2
    have hkl : k < j.1.length := by omega
    obtain ⟨w, g1, g2⟩ := l4_i (l := l) J hA hsn hkl (up k hkl) (nP j) W (Nat.le_refl _) hW (fun t a b => by omega) (by rw [if_neg (by omega)]; exact h2 k (Nat.le_refl _) hkl)
    obtain ⟨W', r1, r2, r3⟩ := ih (k + 1) (W.set k w) (by omega) (by simpa using hW) (fun i hi => by
      by_cases c : k = i
      · subst c; rw [gs_eq (by omega)]; exact g2
      · rw [gs_ne c]; exact h1 i (by omega)) fun i hi1 hi2 => by rw [gs_ne (by omega)]; exact h2 i (by omega) hi2
    refine ⟨W', ?_, r2, r3⟩
    have wk : IntKind.i64.wrap ((k : Int) + 1) = ((k + 1 : Nat) : Int) := by rw [wr (by omega) (by omega)]; omega
    have wp : IntKind.i64.wrap (j.2.2.2.2.1 - 1) = ((nP j : Nat) : Int) - 1 := by rw [p1, wr (by omega) (by omega)]
    rw [impl_relaxedPlan_l3_eq]
    unfold impl_relaxedPlan_l3K
    simp only [dl hkl, cond_true, wp, g1, Option.bind_some, wk]
    exact r1
/-- The program's relaxed plan. -/
theorem relaxed_i (J : JobOk j) (M : MulOk j l) : ∃ A W, Least ((j.1.length * nP j + 2 : Nat) : Int) (eds (XI (gr j l) 1152921504606846976)) A ∧
    ((∀ i, i < j.1.length → ∀ t, t + 1 < nP j → A (nI (gr j l) i t) = true → A (nI (gr j l) i (t + 1)) = true) → impl_relaxedPlan j l = some (j.2.2.2.2.1, W) ∧ W.length = j.1.length ∧ ∀ i, i < j.1.length → IsWh (fun t => A (nI (gr j l) i t)) (nP j) (W.getD i 0)) := by
  have hn := J.n2
  obtain ⟨p1, p2, p3⟩ := nP_int J
  have hnP : j.1.length * nP j ≤ 120 * 6 := Nat.mul_le_mul hn p3
  obtain ⟨r0, z, r1, sn, r2, c1, c2, c3, c4, c5⟩ := cut_i (XI_ok J M)
  have w1 : IntKind.i64.wrap (IntKind.i64.wrap ((j.1.length : Int) * j.2.2.2.2.1) + 2) = ((j.1.length * nP j + 2 : Nat) : Int) := by
    have e : (j.1.length : Int) * (nP j : Int) = ((j.1.length * nP j : Nat) : Int) := by simp
    rw [p1, e, wr (n := ((j.1.length * nP j : Nat) : Int)) (by omega) (by omega), wr (by omega) (by omega)]; omega
  have he := implEmpty_ok j J
  rw [← jobEta j] at he
  by_cases up : ∀ i, i < j.1.length → ∀ t, t + 1 < nP j → (fun z : Int => sn.getD z.toNat false) (nI (gr j l) i t) = true → (fun z : Int => sn.getD z.toNat false) (nI (gr j l) i (t + 1)) = true
  · obtain ⟨W, g1, g2, g3⟩ := l3_i (l := l) J (A := fun z => sn.getD z.toNat false) (fun _ => rfl) c4 up j.1.length 0 (List.replicate j.1.length (-1)) (by omega) (by simp) (fun i hi => by omega) (fun i _ hi => by rw [gd (by simpa using hi)]; simp)
    refine ⟨_, W, c5, fun _ => ⟨?_, g2, g3⟩⟩
    have g1 : impl_relaxedPlan_l3 (j.1.length : Int) sn 0 j.1 j.2.1 j.2.2.1 j.2.2.2.1.1 j.2.2.2.1.2.1 j.2.2.2.2.1 j.2.2.2.2.2.1 j.2.2.2.2.2.2.1 (List.replicate j.1.length (-1)) = _ := g1
    unfold impl_relaxedPlan impl_relaxedPlanK
    simp only [w1, Option.bind_some, edges_i J M, c1, c2, c3, he, g1]
  · exact ⟨_, [], c5, fun h => absurd h up⟩
end
end Go.OAI
