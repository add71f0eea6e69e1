/- The network of a pit. -/
import Derived.Test.YtejiaikhdjanoaaGreatP4
import Derived.Test.YtejiaikhdjanoaaGreatGX
import Derived.Test.YtejiaikhdjanoaaGreatGP
import Derived.Test.YtejiaikhdjanoaaGreatGO
import Derived.Test.YtejiaikhdjanoaaGreatP1
namespace Go.OAI
set_option linter.unusedVariables false
noncomputable section
def pg (arcs : List (List Int)) (vals : List Int) : Gr := ⟨arcs.length, 1, fun i => (arcs.getD i []).map Int.toNat, fun i _ => vals.getD i 0⟩
structure PitOk (arcs : List (List Int)) (vals : List Int) : Prop where
  n : arcs.length ≤ 120
  len : vals.length = arcs.length
  ar : ∀ i, i < arcs.length → ∀ x ∈ arcs.getD i [], 0 ≤ x ∧ x < (arcs.length : Int)
  al : ∀ i, i < arcs.length → (arcs.getD i []).length ≤ 120
  v : ∀ i, i < arcs.length → -1000000000 ≤ vals.getD i 0 ∧ vals.getD i 0 ≤ 1000000000
variable {arcs : List (List Int)} {vals : List Int} {i : Nat}
theorem gd' {α : Type} {a : List α} {k : Nat} {d : α} (h : k < a.length) : a.getD k d = a[k] := by simp [h]
def RQ (arcs : List (List Int)) (vals : List Int) (i : Nat) : List DEdge := eV (pg arcs vals) (nS (pg arcs vals)) (zN (pg arcs vals)) i 0 ++ eA (pg arcs vals) (nS (pg arcs vals)) 1000000000 i 0
def PE (arcs : List (List Int)) (vals : List Int) : List DEdge := (List.range arcs.length).flatMap fun i => RQ arcs vals i
theorem nS0 : nS (pg arcs vals) i 0 = ((i + 1 : Nat) : Int) := by unfold nS; simp
theorem zN0 : zN (pg arcs vals) = ((arcs.length + 1 : Nat) : Int) := by unfold zN; show ((arcs.length * 1 + 1 : Nat) : Int) = _; rw [Nat.mul_one]
theorem eA0 : eA (pg arcs vals) (nS (pg arcs vals)) 1000000000 i 0 = (arcs.getD i []).map fun x => ((((i + 1 : Nat) : Int), ((x.toNat + 1 : Nat) : Int), 1000000000, ()) : DEdge) := by
  unfold eA
  show ((arcs.getD i []).map Int.toNat).map _ = _
  rw [List.map_map]
  congr 1
  funext x
  simp only [Function.comp, nS0]
theorem eV0 : eV (pg arcs vals) (nS (pg arcs vals)) (zN (pg arcs vals)) i 0 = if 0 < vals.getD i 0 then [(0, ((i + 1 : Nat) : Int), vals.getD i 0, ())] else if vals.getD i 0 < 0 then [(((i + 1 : Nat) : Int), ((arcs.length + 1 : Nat) : Int), - vals.getD i 0, ())] else [] := by
  unfold eV
  rw [nS0, zN0]; rfl
theorem RP_len (K : PitOk arcs vals) (hi : i < arcs.length) : (RQ arcs vals i).length ≤ 121 := by
  have := K.al i hi
  unfold RQ
  rw [eA0, eV0, List.length_append, List.length_map]
  split
  · simp only [List.length_singleton]; omega
  · split
    · simp only [List.length_singleton]; omega
    · simp only [List.length_nil]; omega
theorem pn_l1 (hi : i ≤ 200) (es : List Int) (hel : es.length ≤ 120) (hes : ∀ x ∈ es, 0 ≤ x ∧ x < 1000) : ∀ (r k : Nat) (E : List DEdge), k + r = es.length → E.length + r ≤ 549755813888 →
    impl_pitNetwork_l1 (i : Int) es (es.length : Int) (k : Int) E = some (E ++ (es.drop k).map fun x => ((((i + 1 : Nat) : Int), ((x.toNat + 1 : Nat) : Int), 1000000000, ()) : DEdge)) ∧
    spec_paEdges_l1 (i : Int) es (es.length : Int) (k : Int) E = some (E ++ (es.drop k).map fun x => ((((i + 1 : Nat) : Int), ((x.toNat + 1 : Nat) : Int), 1000000000, ()) : DEdge)) := by
  intro r
  induction r with
  | zero =>
    intro k E hk hE
    have hd : es.drop k = [] := List.drop_eq_nil_of_le (by omega)
    have : decide ((k : Int) < (es.length : Int)) = false := by simp; omega
    rw [impl_pitNetwork_l1_eq, spec_paEdges_l1_eq]
    unfold impl_pitNetwork_l1K spec_paEdges_l1K
    rw [this, hd]; simp
  | succ r ih =>
    intro k E hk hE
    have hkl : k < es.length := by omega
    have hx := hes _ (List.getElem_mem hkl)
    have wk : IntKind.i64.wrap ((k : Int) + 1) = ((k + 1 : Nat) : Int) := by rw [wr (by omega) (by omega)]; omega
    have w1 : IntKind.i64.wrap ((i : Int) + 1) = ((i + 1 : Nat) : Int) := by rw [wr (by omega) (by omega)]; omega
    have w2 : IntKind.i64.wrap (es[k] + 1) = ((es[k].toNat + 1 : Nat) : Int) := by rw [wr (by omega) (by omega)]; omega
    have c0 : ∀ {α : Type} (x : α), decide (E.length + [x].length ≤ 1099511627776) = true := fun x => decide_eq_true (by simp only [List.length_singleton]; omega)
    obtain ⟨g1, g2⟩ := ih (k + 1) (E ++ [(((i + 1 : Nat) : Int), ((es[k].toNat + 1 : Nat) : Int), 1000000000, ())]) (by omega) (by simp only [List.length_append, List.length_singleton]; omega)
    rw [List.drop_eq_getElem_cons hkl, List.map_cons]
    refine ⟨?_, ?_⟩
    · rw [impl_pitNetwork_l1_eq]
      unfold impl_pitNetwork_l1K
      simp only [dl hkl, cond_true, lat_nat hkl, Option.bind_some, w1, w2, c0, wk]
      rw [g1]; simp only [List.append_assoc, List.singleton_append]
    · rw [spec_paEdges_l1_eq]
      unfold spec_paEdges_l1K
      simp only [dl hkl, cond_true, lat_nat hkl, Option.bind_some, w1, w2, c0, wk]
      rw [g2]; simp only [List.append_assoc, List.singleton_append]
theorem pn_l0 (K : PitOk arcs vals) : ∀ (r i : Nat) (E : List DEdge), i + r = arcs.length → E.length + r * 121 ≤ 274877906944 →
    impl_pitNetwork_l0 arcs ((arcs.length + 2 : Nat) : Int) vals (vals.length : Int) (i : Int) E = some (E ++ (List.range' i r).flatMap fun i => RQ arcs vals i) ∧
    spec_paEdges_l0 arcs vals arcs (arcs.length : Int) (i : Int) E = some (E ++ (List.range' i r).flatMap fun i => RQ arcs vals i) := by
  have hn := K.n
  have hvl := K.len
  intro r
  induction r with
  | zero =>
    intro i E hi hE
    have h1 : decide ((i : Int) < (arcs.length : Int)) = false := by simp; omega
    have h2 : decide ((i : Int) < (vals.length : Int)) = false := by simp; omega
    rw [impl_pitNetwork_l0_eq, spec_paEdges_l0_eq]
    unfold impl_pitNetwork_l0K spec_paEdges_l0K
    rw [h1, h2]; simp
  | succ r ih =>
    intro i E hi0 hE
    have hi : i < arcs.length := by omega
    have hiv : i < vals.length := by omega
    have wk : IntKind.i64.wrap ((i : Int) + 1) = ((i + 1 : Nat) : Int) := by rw [wr (by omega) (by omega)]; omega
    have wz : IntKind.i64.wrap (((arcs.length + 2 : Nat) : Int) - 1) = ((arcs.length + 1 : Nat) : Int) := by rw [wr (by omega) (by omega)]; omega
    have wz2 : IntKind.i64.wrap ((arcs.length : Int) + 1) = ((arcs.length + 1 : Nat) : Int) := by rw [wr (by omega) (by omega)]; omega
    have bv := K.v i hi
    have wn : IntKind.i64.wrap (0 - vals.getD i 0) = - vals.getD i 0 := by rw [wr (by omega) (by omega)]; omega
    have la : lat arcs (i : Int) = some (arcs.getD i []) := by rw [lat_nat hi, gd' hi]
    have lv : lat vals (i : Int) = some (vals.getD i 0) := by rw [lat_nat hiv, gd' hiv]
    have c0 : ∀ {α : Type} (x : α), decide (E.length + [x].length ≤ 1099511627776) = true := fun x => decide_eq_true (by simp only [List.length_singleton]; omega)
    have l1 : ∀ E' : List DEdge, E'.length ≤ E.length + 1 → impl_pitNetwork_l1 (i : Int) (arcs.getD i []) ((arcs.getD i []).length : Int) 0 E' = some (E' ++ eA (pg arcs vals) (nS (pg arcs vals)) 1000000000 i 0) ∧
        spec_paEdges_l1 (i : Int) (arcs.getD i []) ((arcs.getD i []).length : Int) 0 E' = some (E' ++ eA (pg arcs vals) (nS (pg arcs vals)) 1000000000 i 0) := fun E' hE' => by
      have hal := K.al i hi
      have := pn_l1 (i := i) (by omega) (arcs.getD i []) hal (fun x hx => by have := K.ar i hi x hx; omega) (arcs.getD i []).length 0 E' (by omega) (by omega)
      rw [List.drop_zero, ← eA0 (vals := vals)] at this
      exact this
    have hl := RP_len K hi
    have hI : ∀ E' : List DEdge, E' = E ++ RQ arcs vals i → impl_pitNetwork_l0 arcs ((arcs.length + 2 : Nat) : Int) vals (vals.length : Int) ((i + 1 : Nat) : Int) E' = some (E ++ (List.range' i (r + 1)).flatMap fun i => RQ arcs vals i) ∧
        spec_paEdges_l0 arcs vals arcs (arcs.length : Int) ((i + 1 : Nat) : Int) E' = some (E ++ (List.range' i (r + 1)).flatMap fun i => RQ arcs vals i) := fun E' hE' => by
      rw [hE', List.range'_succ, List.flatMap_cons, ← List.append_assoc]
      exact ih (i + 1) _ (by omega) (by rw [List.length_append]; omega)
    rw [impl_pitNetwork_l0_eq, spec_paEdges_l0_eq]
    unfold impl_pitNetwork_l0K spec_paEdges_l0K
    simp only [dl hi, dl hiv, cond_true, la, lv, Option.bind_some, wk, wz, wz2, wn, c0]
    rcases Int.lt_trichotomy 0 (vals.getD i 0) with h | h | h
    · have q1 : decide (vals.getD i 0 > 0) = true := decide_eq_true h
      have q2 : decide (vals.getD i 0 < 0) = false := decide_eq_false (by omega)
      simp only [q1, q2, cond_true, cond_false]
      obtain ⟨m1, m2⟩ := l1 (E ++ [(0, ((i + 1 : Nat) : Int), vals.getD i 0, ())]) (by simp)
      rw [m1, m2]
      simp only [Option.bind_some]
      refine hI _ ?_
      unfold RQ
      rw [eV0, if_pos h, List.append_assoc]
    · have q1 : decide (vals.getD i 0 > 0) = false := decide_eq_false (by omega)
      have q2 : decide (vals.getD i 0 < 0) = false := decide_eq_false (by omega)
      simp only [q1, q2, cond_false]
      obtain ⟨m1, m2⟩ := l1 E (by simp)
      rw [m1, m2]
      simp only [Option.bind_some]
      refine hI _ ?_
      unfold RQ
      rw [eV0, if_neg (by omega), if_neg (by omega), List.nil_append]
    · have q1 : decide (vals.getD i 0 > 0) = false := decide_eq_false (by omega)
      have q2 : decide (vals.getD i 0 < 0) = true := decide_eq_true h
      simp only [q1, q2, cond_true, cond_false]
      obtain ⟨m1, m2⟩ := l1 (E ++ [(((i + 1 : Nat) : Int), ((arcs.length + 1 : Nat) : Int), - vals.getD i 0, ())]) (by simp)
      rw [m1, m2]
      simp only [Option.bind_some]
      refine hI _ ?_
      unfold RQ
      rw [eV0, if_neg (by omega), if_pos h, List.append_assoc]
theorem pit_i (K : PitOk arcs vals) : impl_pitNetwork arcs vals = some (((arcs.length + 2 : Nat) : Int), PE arcs vals) := by
  have hn := K.n
  have h := (pn_l0 K arcs.length 0 [] (by omega) (by simp only [List.length_nil]; omega)).1
  have h : impl_pitNetwork_l0 arcs ((arcs.length + 2 : Nat) : Int) vals (vals.length : Int) 0 [] = _ := h
  have w : IntKind.i64.wrap ((arcs.length : Int) + 2) = ((arcs.length + 2 : Nat) : Int) := by rw [wr (by omega) (by omega)]; omega
  unfold impl_pitNetwork impl_pitNetworkK
  rw [w, h, List.nil_append, ← List.range_eq_range']
  rfl
theorem pit_s (K : PitOk arcs vals) : spec_paEdges arcs vals = some (PE arcs vals) := by
  have hn := K.n
  have h := (pn_l0 K arcs.length 0 [] (by omega) (by simp only [List.length_nil]; omega)).2
  have h : spec_paEdges_l0 arcs vals arcs (arcs.length : Int) 0 [] = _ := h
  unfold spec_paEdges spec_paEdgesK
  rw [h, List.nil_append, ← List.range_eq_range']
  rfl
theorem PE_ok (K : PitOk arcs vals) : EOk (arcs.length + 2) (PE arcs vals) := by
  have hn := K.n
  refine ⟨fun e he => ?_, ?_, by omega, by omega⟩
  · obtain ⟨i, hi, he⟩ := List.mem_flatMap.1 he
    have hi : i < arcs.length := List.mem_range.1 hi
    have bv := K.v i hi
    unfold RQ at he
    rw [eA0, eV0] at he
    rcases List.mem_append.1 he with he | he
    · by_cases h1 : 0 < vals.getD i 0
      · rw [if_pos h1] at he
        have : e = (0, ((i + 1 : Nat) : Int), vals.getD i 0, ()) := by simpa using he
        subst this
        refine ⟨?_, ?_, ?_⟩ <;> dsimp only <;> omega
      · rw [if_neg h1] at he
        by_cases h2 : vals.getD i 0 < 0
        · rw [if_pos h2] at he
          have : e = (((i + 1 : Nat) : Int), ((arcs.length + 1 : Nat) : Int), - vals.getD i 0, ()) := by simpa using he
          subst this
          refine ⟨?_, ?_, ?_⟩ <;> dsimp only <;> omega
        · rw [if_neg h2] at he; simp at he
    · obtain ⟨x, hx, rfl⟩ := List.mem_map.1 he
      have := K.ar i hi x hx
      refine ⟨?_, ?_, ?_⟩ <;> dsimp only <;> omega
  · have inner : ∀ m, m ≤ arcs.length → ((List.range m).flatMap fun i => RQ arcs vals i).length ≤ m * 121 := fun m => by
      induction m with
      | zero => intro _; simp
      | succ m ih =>
        intro hm
        have h1 := ih (by omega)
        have h2 := RP_len (vals := vals) K (show m < arcs.length by omega)
        rw [List.range_succ, List.flatMap_append, List.length_append, Nat.add_mul]
        simp only [List.flatMap_cons, List.flatMap_nil, List.append_nil]
        omega
    have := inner arcs.length (Nat.le_refl _)
    show (PE arcs vals).length ≤ _
    unfold PE; omega
theorem find_s (K : PitOk arcs vals) : ∃ C, Least ((arcs.length + 2 : Nat) : Int) (eds (PE arcs vals)) C ∧ spec_paFind arcs vals = some (((List.range arcs.length).filter fun i => C ((i + 1 : Nat) : Int)).map fun i : Nat => (i : Int)) := by
  have hn := K.n
  obtain ⟨sn, c1, c2, c3⟩ := cut_s (PE_ok K)
  refine ⟨_, c2, ?_⟩
  show _ = some (((List.range arcs.length).filter fun i => sn.getD (i + 1) false).map fun i : Nat => (i : Int))
  have s0 : sn.getD 0 false = true := c2.s0
  have s1 : sn.getD (arcs.length + 1) false = false := by
    have := c2.s1
    rwa [show (((arcs.length + 2 : Nat) : Int) - 1).toNat = arcs.length + 1 by omega] at this
  have hlist : (((List.range (arcs.length + 2)).filter fun i => sn.getD i false).map fun i : Nat => (i : Int)) = (0 : Int) :: ((((List.range arcs.length).filter fun i => sn.getD (i + 1) false).map fun i : Nat => ((i + 1 : Nat) : Int))) := by
    have e1 : List.range (arcs.length + 2) = 0 :: ((List.range arcs.length).map fun i => i + 1) ++ [arcs.length + 1] := by
      rw [show arcs.length + 2 = (arcs.length + 1) + 1 by omega, List.range_succ, List.range_succ_eq_map]
    rw [e1, List.filter_append, List.filter_cons, if_pos s0, List.filter_map, List.filter_cons, if_neg (by rw [s1]; simp), List.filter_nil, List.append_nil, List.map_cons, List.map_map]
    rfl
  rw [hlist] at c3
  have w : IntKind.i64.wrap ((arcs.length : Int) + 2) = ((arcs.length + 2 : Nat) : Int) := by rw [wr (by omega) (by omega)]; omega
  have hL : ((List.range arcs.length).filter fun i => sn.getD (i + 1) false).length ≤ 120 := by
    have := List.length_filter_le (fun i => sn.getD (i + 1) false) (List.range arcs.length)
    rw [List.length_range] at this; omega
  have hlt : ∀ x ∈ (List.range arcs.length).filter fun i => sn.getD (i + 1) false, x < arcs.length := fun x hx => List.mem_range.1 (List.mem_filter.1 hx).1
  generalize (List.range arcs.length).filter (fun i => sn.getD (i + 1) false) = L at *
  have key : ∀ k, k ≤ L.length → spec_paOf_l0 (L.map fun i : Nat => ((i + 1 : Nat) : Int)) (L.length : Int) (k : Int) ((L.take k).map fun i : Nat => (i : Int)) = some (L.map fun i : Nat => (i : Int)) := by
    refine down ?_ fun k hk ih => ?_
    · rw [spec_paOf_l0_eq]; unfold spec_paOf_l0K
      simp
    · have hx := hlt _ (List.getElem_mem hk)
      have hk' : k < (L.map fun i : Nat => ((i + 1 : Nat) : Int)).length := by simpa using hk
      have l1 : lat (L.map fun i : Nat => ((i + 1 : Nat) : Int)) (k : Int) = some ((L[k] + 1 : Nat) : Int) := by rw [lat_nat hk']; simp
      have wk : IntKind.i64.wrap ((k : Int) + 1) = ((k + 1 : Nat) : Int) := by rw [wr (by omega) (by omega)]; omega
      have w1 : IntKind.i64.wrap (((L[k] + 1 : Nat) : Int) - 1) = ((L[k] : Nat) : Int) := by rw [wr (by omega) (by omega)]; omega
      have c0 : ∀ x : Int, decide (((L.take k).map fun i : Nat => (i : Int)).length + [x].length ≤ 1099511627776) = true := fun x => decide_eq_true (by simp only [List.length_map, List.length_take, List.length_singleton]; omega)
      rw [spec_paOf_l0_eq]; unfold spec_paOf_l0K
      simp only [dl hk, cond_true, l1, Option.bind_some, w1, c0, wk]
      have e : (L.take (k + 1)).map (fun i : Nat => (i : Int)) = (L.take k).map (fun i : Nat => (i : Int)) ++ [(L[k] : Int)] := by
        rw [List.take_add_one, List.getElem?_eq_getElem hk, List.map_append]; rfl
      rw [e] at ih
      exact ih
  have k0 := key 0 (Nat.zero_le _)
  have k0 : spec_paOf_l0 (L.map fun i : Nat => ((i + 1 : Nat) : Int)) (L.length : Int) 0 [] = _ := k0
  unfold spec_paFind spec_paFindK
  simp only [pit_s K, Option.bind_some, w, c3]
  unfold spec_paOf spec_paOfK
  have d1 : decide ((1 : Int) ≤ (((0 : Int) :: L.map fun i : Nat => ((i + 1 : Nat) : Int)).length : Int)) = true := decide_eq_true (by simp only [List.length_cons]; omega)
  have d2 : decide ((((0 : Int) :: L.map fun i : Nat => ((i + 1 : Nat) : Int)).length : Int) ≤ (((0 : Int) :: L.map fun i : Nat => ((i + 1 : Nat) : Int)).length : Int)) = true := decide_eq_true (by omega)
  have ht : (((0 : Int) :: L.map fun i : Nat => ((i + 1 : Nat) : Int)).drop 1).take ((((0 : Int) :: L.map fun i : Nat => ((i + 1 : Nat) : Int)).length : Int).toNat - 1) = L.map fun i : Nat => ((i + 1 : Nat) : Int) := by
    simp only [List.drop_succ_cons, List.drop_zero]
    exact List.take_of_length_le (by simp)
  rw [d1, d2, ht]
  simp only [Bool.and_self, cond_true, List.length_map, k0, Option.bind_some, tz]
theorem Least.unique {n : Int} {E : List (Int × Int × Int)} {A C : Int → Bool} (hA : Least n E A) (hC : Least n E C) : ∀ z, 0 ≤ z → z < n → A z = C z := by
  have h1 := hA.le C hC.s0 hC.s1
  have h2 := hC.le A hA.s0 hA.s1
  intro z z0 z1
  cases ha : A z with
  | true => exact (hA.sub C hC.s0 hC.s1 (by omega) z z0 z1 ha).symm
  | false =>
    cases hc : C z with
    | false => rfl
    | true => have := hC.sub A hA.s0 hA.s1 (by omega) z z0 z1 hc; rw [ha] at this; cases this
end
noncomputable section
def bl (n : Nat) (M : Nat → Bool) : List Nat := (List.range n).filter M
theorem bl_mem {n : Nat} {M : Nat → Bool} {x : Nat} : x ∈ bl n M ↔ x < n ∧ M x = true := by
  unfold bl; rw [List.mem_filter, List.mem_range]
theorem bl_len (n : Nat) (M : Nat → Bool) : (bl n M).length ≤ n := by
  have := List.length_filter_le M (List.range n)
  rw [List.length_range] at this; exact this
def ix (n : Nat) (M : Nat → Bool) (x : Nat) : Nat := (bl n M).idxOf x
theorem bl_succ (n : Nat) (M : Nat → Bool) : bl (n + 1) M = bl n M ++ (if M n = true then [n] else []) := by
  unfold bl
  rw [List.range_succ, List.filter_append, List.filter_cons, List.filter_nil]
def rowc (arcs : List (List Int)) (vals : List Int) (Q : Nat → Bool) (i : Nat) : Int :=
  (if 0 < vals.getD i 0 then (if Q i then 0 else vals.getD i 0) else if vals.getD i 0 < 0 then (if Q i then - vals.getD i 0 else 0) else 0) +
    1000000000 * cntA (fun i _ => Q i) i 0 ((arcs.getD i []).map Int.toNat)
theorem cap_PE {arcs : List (List Int)} {vals : List Int} {T : Int → Bool} (h0 : T 0 = true) (hz : T ((arcs.length + 1 : Nat) : Int) = false) :
    capS T (eds (PE arcs vals)) = sm arcs.length (rowc arcs vals fun i => T ((i + 1 : Nat) : Int)) := by
  unfold PE
  rw [cap_flat]
  refine sm_congr _ fun i _ => ?_
  unfold RQ
  rw [eds_append, cap_append, cap_v h0 (by rw [zN0]; exact hz)]
  unfold eA
  rw [cap_a]
  have e : (fun (i t : Nat) => T (nS (pg arcs vals) i t)) i 0 = T ((i + 1 : Nat) : Int) := by
    show T (nS (pg arcs vals) i 0) = _
    rw [nS0]
  have hc : ∀ l : List Nat, cntA (fun i t => T (nS (pg arcs vals) i t)) i 0 l = cntA (fun (i _ : Nat) => T ((i + 1 : Nat) : Int)) i 0 l := fun l =>
    cntA_congr (by show T (nS (pg arcs vals) i 0) = _; rw [nS0]) l fun k _ => by show T (nS (pg arcs vals) k 0) = _; rw [nS0]
  rw [hc]
  unfold pf rowc
  have e2 : T (nS (pg arcs vals) i 0) = T ((i + 1 : Nat) : Int) := by rw [nS0]
  simp only [e2]
  rfl
section
variable {arcs : List (List Int)} {vals : List Int} {M : Nat → Bool}
def ClosedM (arcs : List (List Int)) (M : Nat → Bool) : Prop := ∀ i, i < arcs.length → M i = true → ∀ x ∈ arcs.getD i [], M x.toNat = true
end
end
noncomputable section
section
variable {j : DJob} {i : Nat}
theorem arcsJ_ok (J : JobOk j) (hi : i < j.1.length) : (∀ x ∈ j.1.getD i [], 0 ≤ x ∧ x < (i : Int)) ∧ (j.1.getD i []).length ≤ 120 := by
  have hn := J.n2
  rw [gd' hi]
  obtain ⟨h1, h2⟩ := J.arc i hi
  refine ⟨h1, ?_⟩
  have := rise_len _ 0 (i : Int) h1 h2 (by omega)
  omega
end
theorem pit_of {j : DJob} (J : JobOk j) : PitOk j.1 j.2.2.1 := by
  refine ⟨J.n2, J.lv, fun i hi x hx => ?_, fun i hi => (arcsJ_ok J hi).2, fun i hi => ?_⟩
  · have := (arcsJ_ok J hi).1 x hx
    omega
  · have hv : i < j.2.2.1.length := by have := J.lv; omega
    have := J.v _ (List.getElem_mem hv)
    rw [gd' hv]; omega
theorem set_same {α : Type} {l : List α} {k : Nat} {d : α} (h : k < l.length) : l.set k (l.getD k d) = l := by
  rw [gd' h]; exact List.set_getElem_self h
theorem same_loop {n : Nat} (sn : List Bool) (hl : sn.length = n + 2) (hn : n ≤ 1000000) : ∀ k, k ≤ n → impl_bestPit_N12_l1 (0 + 1) n (n : Int) (k : Int) sn = some sn := by
  have hw : ((sn.drop (0 + 1)).take n).length = n := by simp; omega
  refine down ?_ fun k hk ih => ?_
  · rw [impl_bestPit_N12_l1_eq]; unfold impl_bestPit_N12_l1K
    rw [lt_out (Nat.le_refl _)]
  · have e : 0 + 1 + ((k : Int)).toNat = k + 1 := by omega
    rw [impl_bestPit_N12_l1_eq]; unfold impl_bestPit_N12_l1K
    rw [lt_in hk, ck_in (by rw [hw]; exact hk), ck_in (by rw [hw]; exact hk), ck_in (by rw [hw]; exact hk), e, wr_succ hk (by omega)]
    have hs := set_same (l := sn) (k := k + 1) (d := false) (by omega)
    cases hb : sn.getD (k + 1) false with
    | true =>
      rw [hb] at hs
      simp only [cond_true, hs, Option.bind_some, ih]
    | false =>
      rw [hb] at hs
      simp only [cond_false, hs, Option.bind_some, ih]
theorem marks_of {n : Nat} (sn : List Bool) (hl : sn.length = n + 2) : (sn.drop (0 + 1)).take n = (List.range n).map fun i => sn.getD (i + 1) false := by
  apply List.ext_getElem
  · simp; omega
  · intro i h1 h2
    have hi : i < n := by simpa using h2
    rw [List.getElem_take, List.getElem_drop, List.getElem_map, List.getElem_range, gd' (by omega)]
    congr 1
    omega
theorem pit12_ok {arcs : List (List Int)} {vals : List Int} (K : PitOk arcs vals) : ∃ C, Least ((arcs.length + 2 : Nat) : Int) (eds (PE arcs vals)) C ∧
    impl_bestPit_N12 arcs vals () () false = some ((List.range arcs.length).map fun i => C ((i + 1 : Nat) : Int)) := by
  have hn := K.n
  have hl := K.len
  obtain ⟨r0, z, r1, sn, r2, c1, c2, c3, c4, c5⟩ := cut_i (PE_ok K)
  refine ⟨_, c5, ?_⟩
  have l0 : ∀ k, k ≤ vals.length → impl_bestPit_N12_l0 (vals.length : Int) (k : Int) = some () := by
    refine down ?_ fun k hk ih => ?_
    · rw [impl_bestPit_N12_l0_eq]; unfold impl_bestPit_N12_l0K
      rw [lt_out (Nat.le_refl _)]
    · rw [impl_bestPit_N12_l0_eq]; unfold impl_bestPit_N12_l0K
      rw [lt_in hk, wr_succ hk (by omega)]; exact ih
  have l00 := l0 0 (Nat.zero_le _)
  rw [show ((0 : Nat) : Int) = 0 from rfl] at l00
  unfold impl_bestPit_N12 impl_bestPit_N12K
  have d0 : decide (([] : List Int).length + vals.length ≤ 1099511627776) = true := decide_eq_true (by simp only [List.length_nil]; omega)
  have wn : IntKind.i64.wrap (((arcs.length + 2 : Nat) : Int) - 1) = ((arcs.length + 1 : Nat) : Int) := by rw [wr (by omega) (by omega)]; omega
  have d1 : decide ((1 : Int) ≤ ((arcs.length + 1 : Nat) : Int)) = true := decide_eq_true (by omega)
  have d2 : decide (((arcs.length + 1 : Nat) : Int) ≤ (sn.length : Int)) = true := decide_eq_true (by omega)
  have e1 : ((arcs.length + 1 : Nat) : Int).toNat - 1 = arcs.length := by omega
  have hw : ((sn.drop (0 + 1)).take arcs.length).length = arcs.length := by simp; omega
  have sl := same_loop sn c4 (by omega) 0 (Nat.zero_le _)
  rw [show ((0 : Nat) : Int) = 0 from rfl] at sl
  simp only [d0, cond_true, List.nil_append, l00, Option.bind_some, pit_i K, c1, c2, c3, cond_false, wn, d1, d2, Bool.and_self, e1, hw, sl]
  rw [marks_of sn c4]
  rfl
theorem listOf_ok {n : Nat} (hn : n ≤ 1000000) (f : Nat → Bool) : impl_listOf ((List.range n).map f) = some (((List.range n).filter f).map fun i : Nat => (i : Int)) := by
  have hl : ((List.range n).map f).length = n := by simp
  have key : ∀ k, k ≤ n → impl_listOf_l0 ((List.range n).map f) (n : Int) (k : Int) (((List.range k).filter f).map fun i : Nat => (i : Int)) = some (((List.range n).filter f).map fun i : Nat => (i : Int)) := by
    refine down ?_ fun k hk ih => ?_
    · rw [impl_listOf_l0_eq]; unfold impl_listOf_l0K
      rw [lt_out (Nat.le_refl _)]
    · have hb := List.length_filter_le f (List.range k)
      rw [List.length_range] at hb
      rw [List.range_succ, List.filter_append, List.map_append] at ih
      rw [impl_listOf_l0_eq]; unfold impl_listOf_l0K
      rw [lt_in hk, lat_nat (by rw [hl]; exact hk), wr_succ hk (by omega)]
      have d0 : decide ((((List.range k).filter f).map fun i : Nat => (i : Int)).length + [(k : Int)].length ≤ 1099511627776) = true := decide_eq_true (by simp only [List.length_map, List.length_singleton]; omega)
      simp only [Option.bind_some, List.getElem_map, List.getElem_range, d0]
      cases hf : f k with
      | true =>
        simp only [List.filter_cons, hf, if_true, List.filter_nil, List.map_cons, List.map_nil] at ih
        simp only [cond_true, ih]
      | false =>
        have e : [k].filter f = [] := by simp [hf]
        rw [e, List.map_nil, List.append_nil] at ih
        simp only [cond_false, ih]
  have := key 0 (Nat.zero_le _)
  unfold impl_listOf impl_listOfK
  rw [hl]
  rw [show ((0 : Nat) : Int) = 0 from rfl] at this
  rw [show ([] : List Int) = (((List.range 0).filter f).map fun i : Nat => (i : Int)) from rfl, this]; rfl
theorem areValued_ok (j : DJob) (s : JobSm j) (hj : jobB j = true) : impl_areValued j.1 j.2.2.1 = some true := by
  have J := jobB_spec hj
  have hj' := hj
  simp only [jobB, Bool.and_eq_true] at hj'
  have h3 : inB (-1000000) 1000000 j.2.2.1 = true := hj'.2.2.2.2.1
  have hlv := J.lv
  have hn := J.n2
  have hn1 := J.n1
  have sa := s.a
  have a1 : decide (1 ≤ (j.2.2.1.length : Int)) = true := decide_eq_true (by omega)
  have a2 : decide ((j.2.2.1.length : Int) ≤ 120) = true := decide_eq_true (by omega)
  unfold impl_areValued impl_areValuedK
  rw [AreArcs_ok _ (by omega) (fun r hr => by have := s.r r hr; omega), goodValues_ok _ (by omega), hj'.1, h3, a1, a2, hlv]
  simp
end
end Go.OAI
