/- The program's best pit, and the worth of it. -/
import Derived.Test.YtokaffjipngphaaPpit
import Derived.Test.YtokaffjipngphaaPw
import Derived.Test.YtokaffjipngphaaGWorthBound
namespace Go.OAI
set_option linter.unusedVariables false
noncomputable section

section
variable {j : DJob} {i : Nat}
theorem arcsJ_ok (J : JobOk j) (hi : i < j.1.length) : (∀ x ∈ j.1.getD i [], 0 ≤ x ∧ x < (i : Int)) ∧ (j.1.getD i []).length ≤ 120 := by
  have hn := J.n2
  rw [gd' hi]
  obtain ⟨h1, h2⟩ := J.arc i hi
  refine ⟨h1, ?_⟩
  have := rise_len _ 0 (i : Int) h1 h2 (by omega)
  omega
end
theorem pit_of {j : DJob} (J : JobOk j) : PitOk j.1 j.2.2.1 := by
  refine ⟨J.n2, J.lv, fun i hi x hx => ?_, fun i hi => (arcsJ_ok J hi).2, fun i hi => ?_⟩
  · have := (arcsJ_ok J hi).1 x hx
    omega
  · have hv : i < j.2.2.1.length := by have := J.lv; omega
    have := J.v _ (List.getElem_mem hv)
    rw [gd' hv]; omega
theorem set_same {α : Type} {l : List α} {k : Nat} {d : α} (h : k < l.length) : l.set k (l.getD k d) = l := by
  rw [gd' h]; exact List.set_getElem_self h
/-- Each mark is laid anew as it was. -/
theorem same_loop {n : Nat} (sn : List Bool) (hl : sn.length = n + 2) (hn : n ≤ 1000000) : ∀ k, k ≤ n → impl_bestPit_N12_l1 (0 + 1) n (n : Int) (k : Int) sn = some sn := by
  have hw : ((sn.drop (0 + 1)).take n).length = n := by simp; omega
  refine down ?_ fun k hk ih => ?_
  · rw [impl_bestPit_N12_l1_eq]; unfold impl_bestPit_N12_l1K
    rw [lt_out (Nat.le_refl _)]
  · have e : 0 + 1 + ((k : Int)).toNat = k + 1 := by omega
    rw [impl_bestPit_N12_l1_eq]; unfold impl_bestPit_N12_l1K
    rw [lt_in hk, ck_in (by rw [hw]; exact hk), ck_in (by rw [hw]; exact hk), ck_in (by rw [hw]; exact hk), e, wr_succ hk (by omega)]
    have hs := set_same (l := sn) (k := k + 1) (d := false) (by omega)
    cases hb : sn.getD (k + 1) false with
    | true =>
      rw [hb] at hs
      simp only [cond_true, hs, Option.bind_some, ih]
    | false =>
      rw [hb] at hs
      simp only [cond_false, hs, Option.bind_some, ih]
theorem marks_of {n : Nat} (sn : List Bool) (hl : sn.length = n + 2) : (sn.drop (0 + 1)).take n = (List.range n).map fun i => sn.getD (i + 1) false := by
  apply List.ext_getElem
  · simp; omega
  · intro i h1 h2
    have hi : i < n := by simpa using h2
    rw [List.getElem_take, List.getElem_drop, List.getElem_map, List.getElem_range, gd' (by omega)]
    congr 1
    omega
theorem pit12_ok {arcs : List (List Int)} {vals : List Int} (K : PitOk arcs vals) : ∃ C, Least ((arcs.length + 2 : Nat) : Int) (eds (PE arcs vals)) C ∧
    impl_bestPit_N12 arcs vals () () false = some ((List.range arcs.length).map fun i => C ((i + 1 : Nat) : Int)) := by
  have hn := K.n
  have hl := K.len
  obtain ⟨r0, z, r1, sn, r2, c1, c2, c3, c4, c5⟩ := cut_i (PE_ok K)
  refine ⟨_, c5, ?_⟩
  have l0 : ∀ k, k ≤ vals.length → impl_bestPit_N12_l0 (vals.length : Int) (k : Int) = some () := by
    refine down ?_ fun k hk ih => ?_
    · rw [impl_bestPit_N12_l0_eq]; unfold impl_bestPit_N12_l0K
      rw [lt_out (Nat.le_refl _)]
    · rw [impl_bestPit_N12_l0_eq]; unfold impl_bestPit_N12_l0K
      rw [lt_in hk, wr_succ hk (by omega)]; exact ih
  have l00 := l0 0 (Nat.zero_le _)
  rw [show ((0 : Nat) : Int) = 0 from rfl] at l00
  unfold impl_bestPit_N12 impl_bestPit_N12K
  have d0 : decide (([] : List Int).length + vals.length ≤ 1099511627776) = true := decide_eq_true (by simp only [List.length_nil]; omega)
  have wn : IntKind.i64.wrap (((arcs.length + 2 : Nat) : Int) - 1) = ((arcs.length + 1 : Nat) : Int) := by rw [wr (by omega) (by omega)]; omega
  have d1 : decide ((1 : Int) ≤ ((arcs.length + 1 : Nat) : Int)) = true := decide_eq_true (by omega)
  have d2 : decide (((arcs.length + 1 : Nat) : Int) ≤ (sn.length : Int)) = true := decide_eq_true (by omega)
  have e1 : ((arcs.length + 1 : Nat) : Int).toNat - 1 = arcs.length := by omega
  have hw : ((sn.drop (0 + 1)).take arcs.length).length = arcs.length := by simp; omega
  have sl := same_loop sn c4 (by omega) 0 (Nat.zero_le _)
  rw [show ((0 : Nat) : Int) = 0 from rfl] at sl
  simp only [d0, cond_true, List.nil_append, l00, Option.bind_some, pit_i K, c1, c2, c3, cond_false, wn, d1, d2, Bool.and_self, e1, hw, sl]
  rw [marks_of sn c4]
  rfl
theorem listOf_ok {n : Nat} (hn : n ≤ 1000000) (f : Nat → Bool) : impl_listOf ((List.range n).map f) = some (((List.range n).filter f).map fun i : Nat => (i : Int)) := by
  have hl : ((List.range n).map f).length = n := by simp
  have key : ∀ k, k ≤ n → impl_listOf_l0 ((List.range n).map f) (n : Int) (k : Int) (((List.range k).filter f).map fun i : Nat => (i : Int)) = some (((List.range n).filter f).map fun i : Nat => (i : Int)) := by
    refine down ?_ fun k hk ih => ?_
    · rw [impl_listOf_l0_eq]; unfold impl_listOf_l0K
      rw [lt_out (Nat.le_refl _)]
    · have hb := List.length_filter_le f (List.range k)
      rw [List.length_range] at hb
      rw [List.range_succ, List.filter_append, List.map_append] at ih
      rw [impl_listOf_l0_eq]; unfold impl_listOf_l0K
      rw [lt_in hk, lat_nat (by rw [hl]; exact hk), wr_succ hk (by omega)]
      have d0 : decide ((((List.range k).filter f).map fun i : Nat => (i : Int)).length + [(k : Int)].length ≤ 1099511627776) = true := decide_eq_true (by simp only [List.length_map, List.length_singleton]; omega)
      simp only [Option.bind_some, List.getElem_map, List.getElem_range, d0]
      cases hf : f k with
      | true =>
        simp only [List.filter_cons, hf, if_true, List.filter_nil, List.map_cons, List.map_nil] at ih
        simp only [cond_true, ih]
      | false =>
        have e : [k].filter f = [] := by simp [hf]
        rw [e, List.map_nil, List.append_nil] at ih
        simp only [cond_false, ih]
  have := key 0 (Nat.zero_le _)
  unfold impl_listOf impl_listOfK
  rw [hl]
  rw [show ((0 : Nat) : Int) = 0 from rfl] at this
  rw [show ([] : List Int) = (((List.range 0).filter f).map fun i : Nat => (i : Int)) from rfl, this]; rfl
theorem sums_ok (vals L : List Int) (hv : ∀ x ∈ L, 0 ≤ x ∧ x < (vals.length : Int)) (hL : L.length ≤ 1000000) : ∃ v, impl_valueSum vals L = some v ∧ spec_vaSum vals L = some v := by
  have key : ∀ i, i ≤ L.length → ∀ a : Int, ∃ v, impl_valueSum_l0 vals L (L.length : Int) a (i : Int) = some v ∧ spec_vaSum_l0 vals L (L.length : Int) a (i : Int) = some v := by
    refine down (fun a => ⟨a, ?_, ?_⟩) fun i hi ih a => ?_
    · rw [impl_valueSum_l0_eq]; unfold impl_valueSum_l0K
      rw [lt_out (Nat.le_refl _)]
    · rw [spec_vaSum_l0_eq]; unfold spec_vaSum_l0K
      rw [lt_out (Nat.le_refl _)]
    · have hx := hv _ (List.getElem_mem hi)
      have hl := lat_int (l := vals) hx.1 (by omega)
      obtain ⟨v, g1, g2⟩ := ih (IntKind.i64.wrap (a + vals[L[i].toNat]'(by omega)))
      refine ⟨v, ?_, ?_⟩
      · rw [impl_valueSum_l0_eq]; unfold impl_valueSum_l0K
        rw [loop_step hi, wr_succ hi (by omega), hl]; exact g1
      · rw [spec_vaSum_l0_eq]; unfold spec_vaSum_l0K
        rw [loop_step hi, wr_succ hi (by omega), hl]; exact g2
  obtain ⟨v, g1, g2⟩ := key 0 (Nat.zero_le _) 0
  refine ⟨v, ?_, ?_⟩
  · unfold impl_valueSum impl_valueSumK
    rw [show (0 : Int) = ((0 : Nat) : Int) from rfl]
    rw [show (((0 : Nat) : Int)) = (0 : Int) from rfl] at g1
    rw [show (((0 : Nat) : Int)) = (0 : Int) from rfl, g1]; rfl
  · unfold spec_vaSum spec_vaSumK
    rw [show (((0 : Nat) : Int)) = (0 : Int) from rfl] at g2
    rw [g2]; rfl
theorem areValued_ok (j : DJob) (s : JobSm j) (hj : jobB j = true) : impl_areValued j.1 j.2.2.1 = some true := by
  have J := jobB_spec hj
  have hj' := hj
  simp only [jobB, Bool.and_eq_true] at hj'
  have h3 : inB (-1000000) 1000000 j.2.2.1 = true := hj'.2.2.2.2.1
  have hlv := J.lv
  have hn := J.n2
  have hn1 := J.n1
  have sa := s.a
  have a1 : decide (1 ≤ (j.2.2.1.length : Int)) = true := decide_eq_true (by omega)
  have a2 : decide ((j.2.2.1.length : Int) ≤ 120) = true := decide_eq_true (by omega)
  unfold impl_areValued impl_areValuedK
  rw [AreArcs_ok _ (by omega) (fun r hr => by have := s.r r hr; omega), goodValues_ok _ (by omega), hj'.1, h3, a1, a2, hlv]
  simp
theorem best_both {j : DJob} (s : JobSm j) (hj : jobB j = true) : ∃ v, impl_BestValue j.1 j.2.2.1 = some (v, true) ∧ ∃ L, spec_paFind j.1 j.2.2.1 = some L ∧ spec_vaSum j.2.2.1 L = some v := by
  have J := jobB_spec hj
  have K := pit_of J
  have hn := J.n2
  obtain ⟨C, hC, f1⟩ := find_s K
  obtain ⟨D, hD, f2⟩ := pit12_ok K
  have e : (List.range j.1.length).map (fun i => D ((i + 1 : Nat) : Int)) = (List.range j.1.length).map fun i => C ((i + 1 : Nat) : Int) :=
    List.map_congr_left fun i hi => by
      have hi : i < j.1.length := List.mem_range.1 hi
      exact hD.unique hC _ (by omega) (by omega)
  rw [e] at f2
  have f3 := listOf_ok (n := j.1.length) (by omega) fun i => C ((i + 1 : Nat) : Int)
  obtain ⟨v, v1, v2⟩ := sums_ok j.2.2.1 (((List.range j.1.length).filter fun i => C ((i + 1 : Nat) : Int)).map fun i : Nat => (i : Int)) (fun x hx => by
    obtain ⟨i, hi, rfl⟩ := List.mem_map.1 hx
    have := List.mem_range.1 (List.mem_filter.1 hi).1
    have := J.lv
    omega) (by
    have := List.length_filter_le (fun i => C ((i + 1 : Nat) : Int)) (List.range j.1.length)
    rw [List.length_range] at this
    rw [List.length_map]; omega)
  refine ⟨v, ?_, _, f1, v2⟩
  unfold impl_BestValue impl_BestValueK
  rw [areValued_ok j s hj]
  simp only [Option.bind_some, Bool.not_true, cond_false]
  rw [f2]
  simp only [Option.bind_some]
  rw [f3]
  simp only [Option.bind_some]
  rw [v1]; rfl
end
end Go.OAI
