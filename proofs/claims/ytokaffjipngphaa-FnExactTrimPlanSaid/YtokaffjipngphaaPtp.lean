/- Plans cut down to the best pit of what they mine. -/
import Derived.Test.YtokaffjipngphaaPsub
import Derived.Test.YtokaffjipngphaaPbp
import Derived.Test.YtokaffjipngphaaPfe
import Derived.Test.YtokaffjipngphaaGTrimPlan
namespace Go.OAI
set_option linter.unusedVariables false
noncomputable section

/-! ### Lists that are turned place by place -/
def mix {β : Type} (n k : Nat) (a b : Nat → β) : List β := (List.range n).map fun i => if i < k then b i else a i
theorem mix_len {β : Type} {n k : Nat} {a b : Nat → β} : (mix n k a b).length = n := by simp [mix]
theorem mix_get {β : Type} {n k : Nat} {a b : Nat → β} {i : Nat} {d : β} (h : i < n) : (mix n k a b).getD i d = if i < k then b i else a i := by
  rw [gd' (by rw [mix_len]; exact h)]; simp [mix]
theorem mix_0 {β : Type} {n : Nat} {a b : Nat → β} : mix n 0 a b = (List.range n).map a := by simp [mix]
theorem mix_n {β : Type} {n : Nat} {a b : Nat → β} : mix n n a b = (List.range n).map b := by
  unfold mix
  exact List.map_congr_left fun i hi => by rw [if_pos (List.mem_range.1 hi)]
theorem mix_same {β : Type} {n k : Nat} {a b : Nat → β} (h : a k = b k) : mix n k a b = mix n (k + 1) a b := by
  unfold mix
  refine List.map_congr_left fun i hi => ?_
  by_cases c : i < k
  · rw [if_pos c, if_pos (by omega)]
  · by_cases e : i = k
    · subst e; rw [if_neg (by omega), if_pos (by omega), h]
    · rw [if_neg c, if_neg (by omega)]
theorem mix_set {β : Type} {n k : Nat} {a b : Nat → β} : (mix n k a b).set k (b k) = mix n (k + 1) a b := by
  apply List.ext_getElem
  · simp [mix]
  · intro i h1 h2
    have hi : i < n := by simpa [mix] using h2
    rw [List.getElem_set]
    by_cases e : k = i
    · subst e; simp [mix]
    · rw [if_neg e]
      simp only [mix, List.getElem_map, List.getElem_range]
      by_cases c : i < k
      · rw [if_pos c, if_pos (by omega)]
      · rw [if_neg c, if_neg (by omega)]
theorem mix_loop {β Y : Type} {n : Nat} {a b : Nat → β} {f : Int → List β → Option Y} {r : Y} (hend : f (n : Int) ((List.range n).map b) = some r)
    (hstep : ∀ k, k < n → f (k : Int) (mix n k a b) = f ((k + 1 : Nat) : Int) (mix n (k + 1) a b)) : f 0 ((List.range n).map a) = some r := by
  have key : ∀ k, k ≤ n → f (k : Int) (mix n k a b) = some r := by
    refine down ?_ fun k hk ih => ?_
    · rw [mix_n]; exact hend
    · rw [hstep k hk]; exact ih
  have := key 0 (Nat.zero_le _)
  rwa [mix_0] at this
theorem range_getD {α : Type} (l : List α) (d : α) : (List.range l.length).map (fun i => l.getD i d) = l := by
  apply List.ext_getElem
  · simp
  · intro i h1 h2
    rw [List.getElem_map, List.getElem_range, gd' h2]

/-! ### The program -/
theorem same_loop4 {n : Nat} (sn : List Bool) (hl : sn.length = n + 2) (hn : n ≤ 1000000) : ∀ k, k ≤ n → impl_bestPit_N4_l1 (0 + 1) n (n : Int) (k : Int) sn = some sn := by
  have hw : ((sn.drop (0 + 1)).take n).length = n := by simp; omega
  refine down ?_ fun k hk ih => ?_
  · rw [impl_bestPit_N4_l1_eq]; unfold impl_bestPit_N4_l1K
    rw [lt_out (Nat.le_refl _)]
  · have e : 0 + 1 + ((k : Int)).toNat = k + 1 := by omega
    rw [impl_bestPit_N4_l1_eq]; unfold impl_bestPit_N4_l1K
    rw [lt_in hk, ck_in (by rw [hw]; exact hk), ck_in (by rw [hw]; exact hk), ck_in (by rw [hw]; exact hk), e, wr_succ hk (by omega)]
    have hs := set_same (l := sn) (k := k + 1) (d := false) (by omega)
    cases hb : sn.getD (k + 1) false with
    | true =>
      rw [hb] at hs
      simp only [cond_true, hs, Option.bind_some, ih]
    | false =>
      rw [hb] at hs
      simp only [cond_false, hs, Option.bind_some, ih]
theorem pit4_ok {arcs : List (List Int)} {vals : List Int} {M : Nat → Bool} (K : PitOk arcs vals) : ∃ C, Least ((arcs.length + 2 : Nat) : Int) (eds (PE arcs (valsM arcs vals M))) C ∧
    impl_bestPit_N4 arcs vals () ((List.range arcs.length).map fun i => !M i) false = some ((List.range arcs.length).map fun i => C ((i + 1 : Nat) : Int)) := by
  have hn := K.n
  have hl := K.len
  have K' := valsM_ok (M := M) K
  obtain ⟨r0, z, r1, sn, r2, c1, c2, c3, c4, c5⟩ := cut_i (PE_ok K')
  refine ⟨_, c5, ?_⟩
  have hml : ((List.range arcs.length).map fun i => !M i).length = arcs.length := by simp
  have l0 : impl_bestPit_N4_l0 ((List.range arcs.length).map fun i => !M i) (vals.length : Int) 0 ((List.range arcs.length).map fun i => vals.getD i 0) = some (valsM arcs vals M) := by
    refine mix_loop (f := fun i l => impl_bestPit_N4_l0 ((List.range arcs.length).map fun i => !M i) (vals.length : Int) i l) (b := fun i => if M i then vals.getD i 0 else -1000000000) ?_ fun k hk => ?_
    · show impl_bestPit_N4_l0 _ _ _ _ = _
      rw [impl_bestPit_N4_l0_eq]; unfold impl_bestPit_N4_l0K
      rw [lt_out (by omega)]; rfl
    · show impl_bestPit_N4_l0 _ _ _ _ = impl_bestPit_N4_l0 _ _ _ _
      rw [impl_bestPit_N4_l0_eq]; unfold impl_bestPit_N4_l0K
      rw [lt_in (by omega), lat_nat (by rw [hml]; exact hk), wr_succ hk (by omega)]
      have d0 : decide (0 < ((List.range arcs.length).map fun i => !M i).length) = true := decide_eq_true (by omega)
      have e0 : 0 + ((k : Int)).toNat = k := by omega
      simp only [d0, cond_true, Option.bind_some, List.getElem_map, List.getElem_range]
      cases hm : M k with
      | true =>
        simp only [Bool.not_true, cond_false]
        rw [mix_same (by simp [hm])]
      | false =>
        simp only [Bool.not_false, cond_true]
        rw [ck_in (by rw [mix_len]; exact hk), e0]
        have := mix_set (n := arcs.length) (k := k) (a := fun i => vals.getD i 0) (b := fun i => if M i then vals.getD i 0 else -1000000000)
        simp only [hm] at this
        rw [← this]; rfl
  have hv : (List.range arcs.length).map (fun i => vals.getD i 0) = vals := by rw [← hl]; exact range_getD vals 0
  rw [hv] at l0
  unfold impl_bestPit_N4 impl_bestPit_N4K
  have d0 : decide (([] : List Int).length + vals.length ≤ 1099511627776) = true := decide_eq_true (by simp only [List.length_nil]; omega)
  have wn : IntKind.i64.wrap (((arcs.length + 2 : Nat) : Int) - 1) = ((arcs.length + 1 : Nat) : Int) := by rw [wr (by omega) (by omega)]; omega
  have d1 : decide ((1 : Int) ≤ ((arcs.length + 1 : Nat) : Int)) = true := decide_eq_true (by omega)
  have d2 : decide (((arcs.length + 1 : Nat) : Int) ≤ (sn.length : Int)) = true := decide_eq_true (by omega)
  have e1 : ((arcs.length + 1 : Nat) : Int).toNat - 1 = arcs.length := by omega
  have hw : ((sn.drop (0 + 1)).take arcs.length).length = arcs.length := by simp; omega
  have sl := same_loop4 sn c4 (by omega) 0 (Nat.zero_le _)
  rw [show ((0 : Nat) : Int) = 0 from rfl] at sl
  simp only [d0, cond_true, List.nil_append, l0, Option.bind_some, pit_i K', c1, c2, c3, cond_false, wn, d1, d2, Bool.and_self, e1, hw, sl]
  rw [marks_of sn c4]
  rfl
theorem outOf_ok {n : Nat} (hn : n ≤ 1000000) (f : Nat → Bool) : impl_outOf ((List.range n).map f) = some ((List.range n).map fun i => !f i) := by
  have hl : ((List.range n).map f).length = n := by simp
  have l0 : impl_outOf_l0 ((List.range n).map f) (n : Int) 0 ((List.range n).map fun _ => false) = some ((List.range n).map fun i => !f i) := by
    refine mix_loop (f := fun i l => impl_outOf_l0 ((List.range n).map f) (n : Int) i l) (b := fun i => !f i) ?_ fun k hk => ?_
    · show impl_outOf_l0 _ _ _ _ = _
      rw [impl_outOf_l0_eq]; unfold impl_outOf_l0K
      rw [lt_out (Nat.le_refl _)]
    · have e0 : 0 + ((k : Int)).toNat = k := by omega
      show impl_outOf_l0 _ _ _ _ = impl_outOf_l0 _ _ _ _
      rw [impl_outOf_l0_eq]; unfold impl_outOf_l0K
      rw [lt_in hk, lat_nat (by rw [hl]; exact hk), wr_succ hk (by omega)]
      simp only [Option.bind_some, List.getElem_map, List.getElem_range]
      rw [ck_in (by rw [mix_len]; exact hk), e0, mix_set (b := fun i => !f i)]
      try rfl
  have hr : List.replicate n false = (List.range n).map fun _ => false := by
    apply List.ext_getElem <;> simp
  unfold impl_outOf impl_outOfK
  rw [hl, cap_ok (by omega)]
  simp only [Int.toNat_natCast, Option.bind_some]
  rw [hr, l0]; rfl
def mined (w : List Int) (i : Nat) : Bool := decide (0 ≤ w.getD i 0)
def trim (n : Nat) (w : List Int) (C : Nat → Bool) : List Int := (List.range n).map fun i => if C i then w.getD i 0 else -1
theorem trim_i {j : DJob} (J : JobOk j) {p : DPlan} (Q : PlanOk j p) : ∃ C, Least ((j.1.length + 2 : Nat) : Int) (eds (PE j.1 (valsM j.1 j.2.2.1 (mined p.2.1)))) C ∧
    ∀ b : Bool, impl_isKept j p = some b → impl_TrimPlan j p = some (if b then ((p.1, trim j.1.length p.2.1 fun i => C ((i + 1 : Nat) : Int)), true) else ((0, []), false)) := by
  have K := pit_of J
  have hn := J.n2
  have hl := Q.len
  obtain ⟨C, hC, f1⟩ := pit4_ok (M := mined p.2.1) K
  refine ⟨C, hC, fun b hb => ?_⟩
  unfold impl_TrimPlan impl_TrimPlanK
  rw [hb]
  cases b with
  | false => rfl
  | true =>
    have l0 : impl_TrimPlan_l0 p.2.1 (p.2.1.length : Int) 0 ((List.range j.1.length).map fun _ => false) = some ((List.range j.1.length).map (mined p.2.1)) := by
      refine mix_loop (f := fun i l => impl_TrimPlan_l0 p.2.1 (p.2.1.length : Int) i l) (b := mined p.2.1) ?_ fun k hk => ?_
      · show impl_TrimPlan_l0 _ _ _ _ = _
        rw [impl_TrimPlan_l0_eq]; unfold impl_TrimPlan_l0K
        rw [lt_out (by omega)]
      · have e0 : 0 + ((k : Int)).toNat = k := by omega
        show impl_TrimPlan_l0 _ _ _ _ = impl_TrimPlan_l0 _ _ _ _
        rw [impl_TrimPlan_l0_eq]; unfold impl_TrimPlan_l0K
        rw [lt_in (by omega), lat_nat (by omega), wr_succ hk (by omega)]
        simp only [Option.bind_some]
        have em : decide (p.2.1[k] ≥ 0) = mined p.2.1 k := by
          unfold mined; rw [gd' (by omega : k < p.2.1.length)]
        rw [em, ck_in (by rw [mix_len]; exact hk), e0, mix_set]
        try rfl
    have l1 : impl_TrimPlan_l1 (j.1.length : Int) ((List.range j.1.length).map fun i => C ((i + 1 : Nat) : Int)) 0 ((List.range j.1.length).map fun i => p.2.1.getD i 0) = some (trim j.1.length p.2.1 fun i => C ((i + 1 : Nat) : Int)) := by
      refine mix_loop (f := fun i l => impl_TrimPlan_l1 (j.1.length : Int) ((List.range j.1.length).map fun i => C ((i + 1 : Nat) : Int)) i l) (b := fun i => if C ((i + 1 : Nat) : Int) then p.2.1.getD i 0 else -1) ?_ fun k hk => ?_
      · show impl_TrimPlan_l1 _ _ _ _ = _
        rw [impl_TrimPlan_l1_eq]; unfold impl_TrimPlan_l1K
        rw [lt_out (Nat.le_refl _)]; rfl
      · have e0 : 0 + ((k : Int)).toNat = k := by omega
        have hml : ((List.range j.1.length).map fun i => C ((i + 1 : Nat) : Int)).length = j.1.length := by simp
        show impl_TrimPlan_l1 _ _ _ _ = impl_TrimPlan_l1 _ _ _ _
        rw [impl_TrimPlan_l1_eq]; unfold impl_TrimPlan_l1K
        rw [lt_in hk, ck_in (by rw [hml]; exact hk), wr_succ hk (by omega), e0, gd' (by rw [hml]; exact hk)]
        simp only [List.getElem_map, List.getElem_range]
        cases hc : C ((k + 1 : Nat) : Int) with
        | true =>
          simp only [Bool.not_true, cond_false]
          rw [mix_same (show p.2.1.getD k 0 = if C ((k + 1 : Nat) : Int) then p.2.1.getD k 0 else -1 by rw [if_pos hc])]
        | false =>
          simp only [Bool.not_false, cond_true]
          rw [ck_in (by rw [mix_len]; exact hk)]
          have := mix_set (n := j.1.length) (k := k) (a := fun i => p.2.1.getD i 0) (b := fun i => if C ((i + 1 : Nat) : Int) then p.2.1.getD i 0 else -1)
          simp only [hc] at this
          rw [← this]; rfl
    have hr : List.replicate j.1.length false = (List.range j.1.length).map fun _ => false := by
      apply List.ext_getElem <;> simp
    have hp : (List.range j.1.length).map (fun i => p.2.1.getD i 0) = p.2.1 := by rw [← hl]; exact range_getD _ 0
    rw [hp] at l1
    have hml : ((List.range j.1.length).map fun i => C ((i + 1 : Nat) : Int)).length = j.1.length := by simp
    simp only [Option.bind_some, Bool.not_true, cond_false]
    rw [cap_ok (by omega)]
    simp only [Int.toNat_natCast, Option.bind_some]
    rw [hl, hr]
    rw [hl] at l0
    rw [l0]
    simp only [Option.bind_some]
    rw [copyPlan_ok p (by omega)]
    simp only [Option.bind_some]
    rw [outOf_ok (by omega)]
    simp only [Option.bind_some]
    rw [f1]
    simp only [Option.bind_some]
    rw [hml, l1]
    rfl
end
end Go.OAI
