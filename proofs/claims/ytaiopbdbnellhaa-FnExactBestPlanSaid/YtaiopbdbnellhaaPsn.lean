/- The search of all nodes: a limit of one node more tells whether the limit was met. -/
import Derived.Test.YtaiopbdbnellhaaPsz
import Derived.Test.YtaiopbdbnellhaaGBestPlan
namespace Go.OAI
set_option linter.unusedVariables false
noncomputable section

theorem go_more (j : DJob) (most : Int) : ∀ m w s, s.nodes ≤ (go j most m w s).nodes ∧ (s.stop = true → (go j most m w s).stop = true) ∧ ((go j most m w s).nodes < most → (go j most m w s).stop = s.stop)
  | 0, w, s => by
    unfold go
    split
    · rename_i c
      exact ⟨Int.le_refl _, fun _ => rfl, fun h => absurd h (by show ¬ s.nodes < most; omega)⟩
    · split
      · exact ⟨by show s.nodes ≤ s.nodes + 1; omega, id, fun _ => rfl⟩
      · exact ⟨by show s.nodes ≤ s.nodes + 1; omega, id, fun _ => rfl⟩
  | m + 1, w, s => by
    unfold go
    split
    · rename_i c
      exact ⟨Int.le_refl _, fun _ => rfl, fun h => absurd h (by show ¬ s.nodes < most; omega)⟩
    · split
      · exact ⟨by show s.nodes ≤ s.nodes + 1; omega, id, fun _ => rfl⟩
      · have key : ∀ (K : List Int) (s : AS), s.nodes ≤ (K.foldl (fun s t => go j most m (w ++ [t]) s) s).nodes ∧ (s.stop = true → (K.foldl (fun s t => go j most m (w ++ [t]) s) s).stop = true) ∧
            ((K.foldl (fun s t => go j most m (w ++ [t]) s) s).nodes < most → (K.foldl (fun s t => go j most m (w ++ [t]) s) s).stop = s.stop) := by
          intro K
          induction K with
          | nil => exact fun s => ⟨Int.le_refl _, id, fun _ => rfl⟩
          | cons t K ih =>
            intro s
            rw [List.foldl_cons]
            obtain ⟨a1, a2, a3⟩ := go_more j most m (w ++ [t]) s
            obtain ⟨b1, b2, b3⟩ := ih (go j most m (w ++ [t]) s)
            exact ⟨Int.le_trans a1 b1, fun h => b2 (a2 h), fun h => (b3 h).trans (a3 (by omega))⟩
        obtain ⟨k1, k2, k3⟩ := key (kidsT j w) s.up
        exact ⟨Int.le_trans (by show s.nodes ≤ s.nodes + 1; omega) k1, k2, k3⟩
theorem fold_more (j : DJob) (most : Int) (m : Nat) (w : List Int) : ∀ (K : List Int) (s : AS), s.nodes ≤ (K.foldl (fun s t => go j most m (w ++ [t]) s) s).nodes ∧ (s.stop = true → (K.foldl (fun s t => go j most m (w ++ [t]) s) s).stop = true)
  | [], s => ⟨Int.le_refl _, id⟩
  | t :: K, s => by
    rw [List.foldl_cons]
    obtain ⟨a1, a2, _⟩ := go_more j most m (w ++ [t]) s
    obtain ⟨b1, b2⟩ := fold_more j most m w K (go j most m (w ++ [t]) s)
    exact ⟨Int.le_trans a1 b1, fun h => b2 (a2 h)⟩
theorem go_next (j : DJob) (M : Int) : ∀ m w s, s.nodes ≤ M → ((go j (M + 1) m w s).nodes ≤ M → go j M m w s = go j (M + 1) m w s) ∧ (M < (go j (M + 1) m w s).nodes → (go j M m w s).stop = true)
  | 0, w, s, h => by
    by_cases c : s.nodes = M
    · have c' : ¬ s.nodes = M + 1 := by omega
      unfold go
      rw [if_pos c, if_neg c']
      refine ⟨fun hn => ?_, fun _ => rfl⟩
      exfalso
      split at hn
      · have : s.nodes + 1 ≤ M := hn; omega
      · have : s.nodes + 1 ≤ M := hn; omega
    · have c' : ¬ s.nodes = M + 1 := by omega
      unfold go
      rw [if_neg c, if_neg c']
      refine ⟨fun _ => rfl, fun hn => ?_⟩
      exfalso
      split at hn
      · have : M < s.nodes + 1 := hn; omega
      · have : M < s.nodes + 1 := hn; omega
  | m + 1, w, s, h => by
    by_cases c : s.nodes = M
    · refine ⟨fun hn => ?_, fun _ => ?_⟩
      · exfalso
        have c' : ¬ s.nodes = M + 1 := by omega
        unfold go at hn
        rw [if_neg c'] at hn
        split at hn
        · have : s.nodes + 1 ≤ M := hn; omega
        · have h1 := (fold_more j (M + 1) m w (kidsT j w) s.up).1
          have : s.nodes + 1 ≤ ((kidsT j w).foldl (fun s t => go j (M + 1) m (w ++ [t]) s) s.up).nodes := h1
          omega
      · unfold go
        rw [if_pos c]; rfl
    · have c' : ¬ s.nodes = M + 1 := by omega
      unfold go
      rw [if_neg c, if_neg c']
      by_cases c2 : bnd j w ≤ s.worth
      · rw [if_pos c2, if_pos c2]
        refine ⟨fun _ => rfl, fun hn => ?_⟩
        have : M < s.nodes + 1 := hn; omega
      · rw [if_neg c2, if_neg c2]
        have key : ∀ (K : List Int) (s : AS), s.nodes ≤ M → ((K.foldl (fun s t => go j (M + 1) m (w ++ [t]) s) s).nodes ≤ M → K.foldl (fun s t => go j M m (w ++ [t]) s) s = K.foldl (fun s t => go j (M + 1) m (w ++ [t]) s) s) ∧
            (M < (K.foldl (fun s t => go j (M + 1) m (w ++ [t]) s) s).nodes → (K.foldl (fun s t => go j M m (w ++ [t]) s) s).stop = true) := by
          intro K
          induction K with
          | nil => exact fun s hs => ⟨fun _ => rfl, fun hn => by have : M < s.nodes := hn; omega⟩
          | cons t K ih =>
            intro s hs
            rw [List.foldl_cons, List.foldl_cons]
            obtain ⟨a1, a2⟩ := go_next j M m (w ++ [t]) s hs
            by_cases d : (go j (M + 1) m (w ++ [t]) s).nodes ≤ M
            · rw [a1 d]; exact ih _ d
            · refine ⟨fun hn => ?_, fun _ => ?_⟩
              · have := (fold_more j (M + 1) m w K (go j (M + 1) m (w ++ [t]) s)).1
                omega
              · exact (fold_more j M m w K _).2 (a2 (by omega))
        exact key _ s.up (by show s.nodes + 1 ≤ M; omega)
theorem done_next (j : DJob) : ((done j 20001).nodes ≤ 20000 → done j 20000 = done j 20001 ∧ (done j 20001).stop = false) ∧ (20000 < (done j 20001).nodes → (done j 20000).stop = true) := by
  obtain ⟨h1, h2⟩ := go_next j 20000 j.1.length [] (s0 j) (by simp [s0])
  refine ⟨fun h => ⟨h1 h, ?_⟩, h2⟩
  exact (go_more j 20001 j.1.length [] (s0 j)).2.2 (by have h : (go j 20001 j.1.length [] (s0 j)).nodes ≤ 20000 := h; omega)
theorem BestPlan_both (j : DJob) (s : JobSm j) : (∃ v, impl_BestPlan j = some v ∧ spec_BestPlan j = some v ∧ v.1.2.length ≤ 1048576) := by
  unfold impl_BestPlan impl_BestPlanK spec_BestPlan spec_BestPlanK spec_srBest spec_srBestK
  rw [IsSearchable_ok j s, srGood_ok j s]
  cases hj : searchB j with
  | false => exact ⟨_, rfl, rfl, by simp⟩
  | true =>
    obtain ⟨S, hjb⟩ := searchB_spec hj
    have hb := done_best S.per.1 (j := j) 20001
    have hbl : (done j 20001).best.length ≤ 1048576 := by have := hb.len; have := S.n12; omega
    obtain ⟨A, g1, g2⟩ := proSearch_ok s S (most := 20000) (by omega) (by omega)
    obtain ⟨d1, d2⟩ := done_next j
    simp only [Bool.not_true, cond_false, Option.bind_some, g1, refSearch_ok s S (most := 20001) (by omega) (by omega)]
    rw [g2]
    simp only [Option.bind_some, sumO, spS, imS]
    by_cases c : (done j 20001).nodes ≤ 20000
    · obtain ⟨e1, e2⟩ := d1 c
      rw [e1]
      simp only [e2, cond_false, c, decide_true, Bool.not_true]
      rw [l1Own_ok _ (by omega)]
      exact ⟨_, rfl, rfl, hbl⟩
    · simp only [d2 (by omega), cond_true, c, decide_false, Bool.not_false]
      exact ⟨_, rfl, rfl, by simp⟩
end
end Go.OAI
