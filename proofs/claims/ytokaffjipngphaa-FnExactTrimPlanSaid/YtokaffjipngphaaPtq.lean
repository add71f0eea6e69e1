/- Plans cut down to the best pit of what they mine: the reference. -/
import Derived.Test.YtokaffjipngphaaPtp
import Derived.Test.YtokaffjipngphaaPfi0
namespace Go.OAI
set_option linter.unusedVariables false
noncomputable section

section
variable {n : Nat} {M : Nat → Bool}
def blI (n : Nat) (M : Nat → Bool) : List Int := (bl n M).map fun i : Nat => (i : Int)
theorem blI_len : (blI n M).length = (bl n M).length := by simp [blI]
theorem blI_get {k : Nat} (h : k < (bl n M).length) : (blI n M)[k]'(by rw [blI_len]; exact h) = (((bl n M).getD k 0 : Nat) : Int) := by
  rw [gd' h]; simp [blI]
theorem blI_lat {k : Nat} (h : k < (bl n M).length) : lat (blI n M) (k : Int) = some (((bl n M).getD k 0 : Nat) : Int) := by
  rw [lat_nat (by rw [blI_len]; exact h), blI_get h]
/-- Where each block stands in the list, from 1 on; 0 for none; the first k alone. -/
def atK (n : Nat) (M : Nat → Bool) (k : Nat) : List Int := (List.range n).map fun i => if M i = true ∧ ix n M i < k then ((ix n M i + 1 : Nat) : Int) else 0
theorem atK_len {k : Nat} : (atK n M k).length = n := by simp [atK]
theorem atK_set {k : Nat} (h : k < (bl n M).length) : (atK n M k).set ((bl n M).getD k 0) (((k + 1 : Nat) : Nat) : Int) = atK n M (k + 1) := by
  obtain ⟨h1, h2⟩ := bl_get h
  apply List.ext_getElem
  · simp [atK]
  · intro i g1 g2
    have hi : i < n := by simpa [atK] using g2
    rw [List.getElem_set]
    by_cases e : (bl n M).getD k 0 = i
    · rw [if_pos e]
      simp only [atK, List.getElem_map, List.getElem_range]
      rw [← e, ix_get h, if_pos ⟨h2, by omega⟩]
    · rw [if_neg e]
      simp only [atK, List.getElem_map, List.getElem_range]
      by_cases hm : M i = true
      · have hne : ix n M i ≠ k := fun e2 => e (by rw [← e2]; exact get_ix hi hm)
        by_cases c : ix n M i < k
        · rw [if_pos ⟨hm, c⟩, if_pos ⟨hm, by omega⟩]
        · rw [if_neg (fun x => c x.2), if_neg (fun x => by have := x.2; omega)]
      · rw [if_neg (fun x => hm x.1), if_neg (fun x => hm x.1)]
theorem atK_get {i : Nat} (hi : i < n) (hm : M i = true) : (atK n M (bl n M).length).getD i 0 = ((ix n M i + 1 : Nat) : Int) := by
  rw [gd' (by rw [atK_len]; exact hi)]
  simp only [atK, List.getElem_map, List.getElem_range]
  rw [if_pos ⟨hm, ix_lt hi hm⟩]
end
section
variable {arcs : List (List Int)} {vals : List Int} {M : Nat → Bool}
theorem only_l0 (hn : arcs.length ≤ 1000000) : spec_paOnly_l0 (blI arcs.length M) ((bl arcs.length M).length : Int) 0 (List.replicate arcs.length 0) = some (atK arcs.length M (bl arcs.length M).length) := by
  have hb := bl_len arcs.length M
  have key : ∀ k, k ≤ (bl arcs.length M).length → spec_paOnly_l0 (blI arcs.length M) ((bl arcs.length M).length : Int) (k : Int) (atK arcs.length M k) = some (atK arcs.length M (bl arcs.length M).length) := by
    refine down ?_ fun k hk ih => ?_
    · rw [spec_paOnly_l0_eq]; unfold spec_paOnly_l0K
      rw [lt_out (Nat.le_refl _)]
    · have hg := (bl_get hk).1
      have e0 : 0 + (((bl arcs.length M).getD k 0 : Nat) : Int).toNat = (bl arcs.length M).getD k 0 := by omega
      rw [spec_paOnly_l0_eq]; unfold spec_paOnly_l0K
      rw [lt_in hk, blI_lat hk, wr_succ hk (by omega)]
      simp only [Option.bind_some]
      rw [ck_in (by rw [atK_len]; exact hg), e0, atK_set hk]
      exact ih
  have := key 0 (Nat.zero_le _)
  have e : atK arcs.length M 0 = List.replicate arcs.length 0 := by
    apply List.ext_getElem
    · simp [atK]
    · intro i h1 h2
      simp [atK]
  rw [e] at this
  exact this
theorem only_l2 (K : PitOk arcs vals) (hM : ClosedM arcs M) {b : Nat} (hb : b < arcs.length) (hm : M b = true) : spec_paOnly_l2 (arcs.getD b []) ((arcs.getD b []).length : Int) (atK arcs.length M (bl arcs.length M).length) 0 [] =
    some ((arcs.getD b []).map fun x => ((ix arcs.length M x.toNat : Nat) : Int)) := by
  have hn := K.n
  have hal := K.al b hb
  have har := K.ar b hb
  have hcl := hM b hb hm
  generalize arcs.getD b [] = L at *
  have key : ∀ k, k ≤ L.length → spec_paOnly_l2 L (L.length : Int) (atK arcs.length M (bl arcs.length M).length) (k : Int) ((L.take k).map fun x => ((ix arcs.length M x.toNat : Nat) : Int)) = some (L.map fun x => ((ix arcs.length M x.toNat : Nat) : Int)) := by
    refine down ?_ fun k hk ih => ?_
    · rw [spec_paOnly_l2_eq]; unfold spec_paOnly_l2K
      rw [lt_out (Nat.le_refl _), List.take_length]
    · have hx := har _ (List.getElem_mem hk)
      have hmx := hcl _ (List.getElem_mem hk)
      have hlt : L[k].toNat < arcs.length := by omega
      have hix := ix_lt hlt hmx
      have hbl := bl_len arcs.length M
      have hat := atK_get hlt hmx
      have e0 : 0 + (L[k]).toNat = (L[k]).toNat := by omega
      have w1 : IntKind.i64.wrap (((ix arcs.length M L[k].toNat + 1 : Nat) : Int) - 1) = ((ix arcs.length M L[k].toNat : Nat) : Int) := by rw [wr (by omega) (by omega)]; omega
      rw [spec_paOnly_l2_eq]; unfold spec_paOnly_l2K
      rw [loop_step hk, wr_succ hk (by omega), ck_int hx.1 (by rw [atK_len]; exact hx.2), e0, hat]
      have d1 : decide (((ix arcs.length M L[k].toNat + 1 : Nat) : Int) > 0) = true := decide_eq_true (by omega)
      rw [d1, cond_true, ck_int hx.1 (by rw [atK_len]; exact hx.2), w1]
      have d2 : decide (((L.take k).map fun x => ((ix arcs.length M x.toNat : Nat) : Int)).length + [((ix arcs.length M L[k].toNat : Nat) : Int)].length ≤ 1099511627776) = true := decide_eq_true (by simp only [List.length_map, List.length_take, List.length_singleton]; omega)
      rw [d2]
      simp only [cond_true, Option.bind_some]
      rw [List.take_add_one, List.getElem?_eq_getElem hk, List.map_append] at ih
      exact ih
  exact key 0 (Nat.zero_le _)
theorem arcsM_at {k : Nat} (h : k < (arcsM arcs M).length) : (arcsM arcs M)[k] = (arcs.getD ((bl arcs.length M).getD k 0) []).map fun x => ((ix arcs.length M x.toNat : Nat) : Int) := by
  have := arcsM_get (arcs := arcs) (M := M) (k := k) (by rw [← arcsM_len]; exact h)
  rwa [gd' h] at this
theorem worthM_len : (worthM arcs vals M).length = (bl arcs.length M).length := by simp [worthM]
theorem worthM_at {k : Nat} (h : k < (worthM arcs vals M).length) : (worthM arcs vals M)[k] = vals.getD ((bl arcs.length M).getD k 0) 0 := by
  have := worthM_get (arcs := arcs) (vals := vals) (M := M) (k := k) (by rw [← worthM_len]; exact h)
  rwa [gd' h] at this
theorem only_l1 (K : PitOk arcs vals) (hM : ClosedM arcs M) : spec_paOnly_l1 arcs vals (blI arcs.length M) ((bl arcs.length M).length : Int) (atK arcs.length M (bl arcs.length M).length) 0 [] [] = some (arcsM arcs M, worthM arcs vals M) := by
  have hn := K.n
  have hbl := bl_len arcs.length M
  have key : ∀ k, k ≤ (bl arcs.length M).length → spec_paOnly_l1 arcs vals (blI arcs.length M) ((bl arcs.length M).length : Int) (atK arcs.length M (bl arcs.length M).length) (k : Int) ((arcsM arcs M).take k) ((worthM arcs vals M).take k) = some (arcsM arcs M, worthM arcs vals M) := by
    refine down ?_ fun k hk ih => ?_
    · rw [spec_paOnly_l1_eq]; unfold spec_paOnly_l1K
      rw [lt_out (Nat.le_refl _), List.take_of_length_le (by rw [arcsM_len]; exact Nat.le_refl _), List.take_of_length_le (by rw [worthM_len]; exact Nat.le_refl _)]
    · obtain ⟨h1, h2⟩ := bl_get hk
      have hv : (bl arcs.length M).getD k 0 < vals.length := by rw [K.len]; exact h1
      have hka : k < (arcsM arcs M).length := by rw [arcsM_len]; exact hk
      have hkw : k < (worthM arcs vals M).length := by rw [worthM_len]; exact hk
      rw [spec_paOnly_l1_eq]; unfold spec_paOnly_l1K
      rw [lt_in hk, blI_lat hk, wr_succ hk (by omega)]
      simp only [Option.bind_some]
      rw [lat_nat h1, lat_nat hv]
      simp only [Option.bind_some]
      have ea : arcs[(bl arcs.length M).getD k 0] = arcs.getD ((bl arcs.length M).getD k 0) [] := (gd' h1).symm
      have ev : vals[(bl arcs.length M).getD k 0] = vals.getD ((bl arcs.length M).getD k 0) 0 := (gd' hv).symm
      rw [ea, ev, only_l2 K hM h1 h2]
      simp only [Option.bind_some]
      rw [← arcsM_at hka, ← worthM_at hkw]
      have d1 : decide (((arcsM arcs M).take k).length + [(arcsM arcs M)[k]].length ≤ 1099511627776) = true := decide_eq_true (by simp only [List.length_take, List.length_singleton]; omega)
      have d2 : decide (((worthM arcs vals M).take k).length + [(worthM arcs vals M)[k]].length ≤ 1099511627776) = true := decide_eq_true (by simp only [List.length_take, List.length_singleton]; omega)
      rw [d1, d2]
      simp only [cond_true]
      rw [List.take_add_one, List.take_add_one, List.getElem?_eq_getElem hka, List.getElem?_eq_getElem hkw] at ih
      exact ih
  exact key 0 (Nat.zero_le _)
/-- The blocks that the reference keeps. -/
def keepL (arcs : List (List Int)) (M : Nat → Bool) (D : Int → Bool) : List Nat := ((List.range (bl arcs.length M).length).filter fun k => D ((k + 1 : Nat) : Int)).map fun k => (bl arcs.length M).getD k 0
theorem only_l3 (hn : arcs.length ≤ 1000000) (F : List Nat) (hF : ∀ k ∈ F, k < (bl arcs.length M).length) (hl : F.length ≤ 1000000) : spec_paOnly_l3 (blI arcs.length M) (F.length : Int) (F.map fun k : Nat => (k : Int)) 0 [] = some (F.map fun k => (((bl arcs.length M).getD k 0 : Nat) : Int)) := by
  have hml : (F.map fun k : Nat => (k : Int)).length = F.length := by simp
  have key : ∀ i, i ≤ F.length → spec_paOnly_l3 (blI arcs.length M) (F.length : Int) (F.map fun k : Nat => (k : Int)) (i : Int) ((F.take i).map fun k => (((bl arcs.length M).getD k 0 : Nat) : Int)) = some (F.map fun k => (((bl arcs.length M).getD k 0 : Nat) : Int)) := by
    refine down ?_ fun i hi ih => ?_
    · rw [spec_paOnly_l3_eq]; unfold spec_paOnly_l3K
      rw [lt_out (Nat.le_refl _), List.take_length]
    · have hk := hF _ (List.getElem_mem hi)
      have e0 : 0 + ((i : Int)).toNat = i := by omega
      rw [spec_paOnly_l3_eq]; unfold spec_paOnly_l3K
      rw [lt_in hi, ck_in (by rw [hml]; exact hi), wr_succ hi (by omega), e0, gd' (by rw [hml]; exact hi)]
      simp only [List.getElem_map]
      rw [blI_lat hk]
      simp only [Option.bind_some]
      have d1 : decide (((F.take i).map fun k => (((bl arcs.length M).getD k 0 : Nat) : Int)).length + [(((bl arcs.length M).getD F[i] 0 : Nat) : Int)].length ≤ 1099511627776) = true := decide_eq_true (by simp only [List.length_map, List.length_take, List.length_singleton]; omega)
      rw [d1]
      simp only [cond_true]
      rw [List.take_add_one, List.getElem?_eq_getElem hi, List.map_append] at ih
      exact ih
  exact key 0 (Nat.zero_le _)
theorem only_ok (K : PitOk arcs vals) (hM : ClosedM arcs M) : ∃ D, Least (((arcsM arcs M).length + 2 : Nat) : Int) (eds (PE (arcsM arcs M) (worthM arcs vals M))) D ∧
    spec_paOnly arcs vals (blI arcs.length M) = some ((keepL arcs M D).map fun i : Nat => (i : Int)) := by
  have hn := K.n
  have hbl := bl_len arcs.length M
  obtain ⟨D, hD, f1⟩ := find_s (subM_ok K hM)
  refine ⟨D, hD, ?_⟩
  rw [arcsM_len] at f1
  have hfl : ((List.range (bl arcs.length M).length).filter fun k => D ((k + 1 : Nat) : Int)).length ≤ 1000000 := by
    have := List.length_filter_le (fun k => D ((k + 1 : Nat) : Int)) (List.range (bl arcs.length M).length)
    rw [List.length_range] at this; omega
  have f3 := only_l3 (arcs := arcs) (M := M) (by omega) ((List.range (bl arcs.length M).length).filter fun k => D ((k + 1 : Nat) : Int)) (fun k hk => List.mem_range.1 (List.mem_filter.1 hk).1) hfl
  unfold spec_paOnly spec_paOnlyK
  rw [cap_ok (by omega)]
  simp only [Int.toNat_natCast, Option.bind_some, blI_len]
  rw [only_l0 (by omega)]
  simp only [Option.bind_some]
  rw [only_l1 K hM]
  simp only [Option.bind_some]
  rw [f1]
  simp only [Option.bind_some, List.length_map]
  rw [f3]
  simp only [Option.bind_some, keepL, List.map_map]
  rfl
theorem keepL_mem {D : Int → Bool} {i : Nat} (hi : i < arcs.length) : i ∈ keepL arcs M D ↔ liftM arcs M D ((i + 1 : Nat) : Int) = true := by
  rw [lift_get hi]
  unfold keepL
  constructor
  · intro h
    obtain ⟨k, hk, rfl⟩ := List.mem_map.1 h
    obtain ⟨h1, h2⟩ := List.mem_filter.1 hk
    have h1 := List.mem_range.1 h1
    rw [ix_get h1, (bl_get h1).2, Bool.true_and]; exact h2
  · intro h
    rw [Bool.and_eq_true] at h
    exact List.mem_map.2 ⟨ix arcs.length M i, List.mem_filter.2 ⟨List.mem_range.2 (ix_lt hi h.1), h.2⟩, get_ix hi h.1⟩
theorem keepL_lt {D : Int → Bool} : ∀ i ∈ keepL arcs M D, i < arcs.length := fun i h => by
  obtain ⟨k, hk, rfl⟩ := List.mem_map.1 h
  exact (bl_get (List.mem_range.1 (List.mem_filter.1 hk).1)).1
theorem keepL_len {D : Int → Bool} : (keepL arcs M D).length ≤ arcs.length := by
  have hbl := bl_len arcs.length M
  unfold keepL
  rw [List.length_map]
  have := List.length_filter_le (fun k => D ((k + 1 : Nat) : Int)) (List.range (bl arcs.length M).length)
  rw [List.length_range] at this; omega
end
theorem closed_of {j : DJob} (J : JobOk j) {w : List Int} (ho : ordB j w = true) : ClosedM j.1 (mined w) := by
  intro i hi hm x hx
  rw [gd' hi] at hx
  have := List.all_eq_true.1 (allI_iff.1 ho i hi) x hx
  unfold mined at hm ⊢
  have hm := of_decide_eq_true hm
  simp only [arcB, Bool.or_eq_true, Bool.and_eq_true, decide_eq_true_eq] at this
  exact decide_eq_true (by omega)
theorem trim_s {j : DJob} (J : JobOk j) {p : DPlan} (Q : PlanOk j p) (ho : ordB j p.2.1 = true) : ∃ D, Least (((arcsM j.1 (mined p.2.1)).length + 2 : Nat) : Int) (eds (PE (arcsM j.1 (mined p.2.1)) (worthM j.1 j.2.2.1 (mined p.2.1)))) D ∧
    ∀ b : Bool, spec_wiGood j p = some b → spec_TrimPlan j p = some (if b then ((p.1, trim j.1.length p.2.1 fun i => liftM j.1 (mined p.2.1) D ((i + 1 : Nat) : Int)), true) else ((0, []), false)) := by
  have K := pit_of J
  have hn := J.n2
  have hl := Q.len
  have hM := closed_of J ho
  obtain ⟨D, hD, f1⟩ := only_ok K hM
  refine ⟨D, hD, fun b hb => ?_⟩
  unfold spec_TrimPlan spec_TrimPlanK
  rw [hb]
  cases b with
  | false => rfl
  | true =>
    have l0 : spec_TrimPlan_l0 p.2.1 (p.2.1.length : Int) 0 [] = some (blI j.1.length (mined p.2.1)) := by
      have key : ∀ k, k ≤ p.2.1.length → spec_TrimPlan_l0 p.2.1 (p.2.1.length : Int) (k : Int) (blI k (mined p.2.1)) = some (blI p.2.1.length (mined p.2.1)) := by
        refine down ?_ fun k hk ih => ?_
        · rw [spec_TrimPlan_l0_eq]; unfold spec_TrimPlan_l0K
          rw [lt_out (Nat.le_refl _)]
        · have hbl := bl_len k (mined p.2.1)
          rw [spec_TrimPlan_l0_eq]; unfold spec_TrimPlan_l0K
          rw [loop_step hk, wr_succ hk (by omega)]
          have em : decide (p.2.1[k] ≥ 0) = mined p.2.1 k := by
            unfold mined; rw [gd' hk]
          have d1 : decide ((blI k (mined p.2.1)).length + [(k : Int)].length ≤ 1099511627776) = true := decide_eq_true (by simp only [blI_len, List.length_singleton]; omega)
          rw [em, d1]
          have hs : blI (k + 1) (mined p.2.1) = blI k (mined p.2.1) ++ (if mined p.2.1 k = true then [(k : Int)] else []) := by
            unfold blI
            rw [bl_succ, List.map_append]
            split <;> rfl
          rw [hs] at ih
          cases hm : mined p.2.1 k with
          | true => rw [hm, if_pos rfl] at ih; simp only [cond_true]; exact ih
          | false => rw [hm, if_neg (by simp), List.append_nil] at ih; simp only [cond_false]; exact ih
      have := key 0 (Nat.zero_le _)
      rw [hl] at this ⊢
      exact this
    have l1 : ∀ F : List Nat, (∀ i ∈ F, i < j.1.length) → F.length ≤ 1000000 → spec_TrimPlan_l1 (F.length : Int) p.2.1 (F.map fun i : Nat => (i : Int)) 0 (List.replicate j.1.length (-1)) = some ((List.range j.1.length).map fun i => if i ∈ F then p.2.1.getD i 0 else -1) := by
      intro F hF hFl
      have hml : (F.map fun i : Nat => (i : Int)).length = F.length := by simp
      have key : ∀ k, k ≤ F.length → spec_TrimPlan_l1 (F.length : Int) p.2.1 (F.map fun i : Nat => (i : Int)) (k : Int) ((List.range j.1.length).map fun i => if i ∈ F.take k then p.2.1.getD i 0 else -1) = some ((List.range j.1.length).map fun i => if i ∈ F then p.2.1.getD i 0 else -1) := by
        refine down ?_ fun k hk ih => ?_
        · rw [spec_TrimPlan_l1_eq]; unfold spec_TrimPlan_l1K
          rw [lt_out (Nat.le_refl _), List.take_length]
        · have hx := hF _ (List.getElem_mem hk)
          have e0 : 0 + ((k : Int)).toNat = k := by omega
          have e1 : 0 + ((F[k] : Nat) : Int).toNat = F[k] := by omega
          have hp : F[k] < p.2.1.length := by omega
          have hrl : ((List.range j.1.length).map fun i => if i ∈ F.take k then p.2.1.getD i 0 else -1).length = j.1.length := by simp
          rw [spec_TrimPlan_l1_eq]; unfold spec_TrimPlan_l1K
          rw [lt_in hk, ck_in (by rw [hml]; exact hk), wr_succ hk (by omega), e0, gd' (by rw [hml]; exact hk)]
          simp only [List.getElem_map]
          rw [lat_nat hp]
          simp only [Option.bind_some]
          rw [ck_in (by rw [hrl]; exact hx), e1]
          have hs : ((List.range j.1.length).map fun i => if i ∈ F.take k then p.2.1.getD i 0 else -1).set F[k] p.2.1[F[k]] = (List.range j.1.length).map fun i => if i ∈ F.take (k + 1) then p.2.1.getD i 0 else -1 := by
            apply List.ext_getElem
            · simp
            · intro i g1 g2
              have hi : i < j.1.length := by simpa using g2
              rw [List.getElem_set]
              simp only [List.getElem_map, List.getElem_range]
              have ht : i ∈ F.take (k + 1) ↔ i ∈ F.take k ∨ i = F[k] := by
                rw [List.take_add_one, List.getElem?_eq_getElem hk, List.mem_append, Option.toList_some, List.mem_singleton]
              by_cases e : F[k] = i
              · subst e
                rw [if_pos rfl, if_pos (ht.2 (.inr rfl)), gd' hp]
              · rw [if_neg e]
                by_cases c : i ∈ F.take k
                · rw [if_pos c, if_pos (ht.2 (.inl c))]
                · rw [if_neg c, if_neg (fun x => (ht.1 x).elim c fun x => e x.symm)]
          rw [hs]
          exact ih
      have := key 0 (Nat.zero_le _)
      have e : (List.range j.1.length).map (fun i => if i ∈ F.take 0 then p.2.1.getD i 0 else -1) = List.replicate j.1.length (-1) := by
        apply List.ext_getElem
        · simp
        · intro i h1 h2; simp
      rw [e] at this
      exact this
    have hkl := keepL_len (arcs := j.1) (M := mined p.2.1) (D := D)
    have l11 := l1 (keepL j.1 (mined p.2.1) D) keepL_lt (by omega)
    have et : (List.range j.1.length).map (fun i => if i ∈ keepL j.1 (mined p.2.1) D then p.2.1.getD i 0 else -1) = trim j.1.length p.2.1 fun i => liftM j.1 (mined p.2.1) D ((i + 1 : Nat) : Int) := by
      unfold trim
      refine List.map_congr_left fun i hi => ?_
      have hi : i < j.1.length := List.mem_range.1 hi
      by_cases c : liftM j.1 (mined p.2.1) D ((i + 1 : Nat) : Int) = true
      · rw [if_pos c, if_pos ((keepL_mem hi).2 c)]
      · rw [if_neg c, if_neg fun x => c ((keepL_mem hi).1 x)]
    rw [et] at l11
    have hper := Q.per
    simp only [Option.bind_some, Bool.not_true, cond_false]
    rw [l0]
    simp only [Option.bind_some]
    rw [wiEmpty_ok j J]
    simp only [Option.bind_some]
    rw [f1]
    simp only [Option.bind_some, List.length_map]
    rw [l11]
    simp only [Option.bind_some, if_true, hper]
theorem trim_both {j : DJob} (s : JobSm j) {p : DPlan} (hl : p.2.1.length ≤ 1048576) : ∃ v : (Int × List Int) × Bool, impl_TrimPlan j p = some v ∧ spec_TrimPlan j p = some v ∧ v.1.2.length ≤ 1048576 := by
  have k1 := isKept_ok j p s hl
  have k2 := wiGood_ok j p s hl
  cases hk : keptB j p with
  | false =>
    rw [hk] at k1 k2
    refine ⟨((0, []), false), ?_, ?_, by simp⟩
    · unfold impl_TrimPlan impl_TrimPlanK; rw [k1]; rfl
    · unfold spec_TrimPlan spec_TrimPlanK; rw [k2]; rfl
  | true =>
    rw [hk] at k1 k2
    obtain ⟨J, Q, hf⟩ := keptB_spec hk
    have ho : ordB j p.2.1 = true := by
      unfold feasB at hf; rw [Bool.and_eq_true] at hf; exact hf.1
    obtain ⟨C, hC, f1⟩ := trim_i J Q
    obtain ⟨D, hD, f2⟩ := trim_s J Q ho
    have f1 := f1 true k1
    have f2 := f2 true k2
    have hn := J.n2
    have hlift := least_lift (pit_of J) (closed_of J ho) hD
    have e : (trim j.1.length p.2.1 fun i => C ((i + 1 : Nat) : Int)) = trim j.1.length p.2.1 fun i => liftM j.1 (mined p.2.1) D ((i + 1 : Nat) : Int) := by
      unfold trim
      refine List.map_congr_left fun i hi => ?_
      have hi : i < j.1.length := List.mem_range.1 hi
      have h := hC.unique hlift ((i + 1 : Nat) : Int) (by omega) (by omega)
      by_cases c : C ((i + 1 : Nat) : Int) = true
      · rw [if_pos c, if_pos (h.symm.trans c)]
      · rw [if_neg c, if_neg (fun x => c (h.trans x))]
    rw [e] at f1
    refine ⟨_, f1, f2, ?_⟩
    simp [trim]; omega
end
end Go.OAI
