/- The network of a pit, and the least cut that both sides find. -/
import Derived.Test.YtokaffjipngphaaPgrid
import Derived.Test.YtokaffjipngphaaGPa
namespace Go.OAI
set_option linter.unusedVariables false
noncomputable section

def pg (arcs : List (List Int)) (vals : List Int) : Gr := ⟨arcs.length, 1, fun i => (arcs.getD i []).map Int.toNat, fun i _ => vals.getD i 0⟩
structure PitOk (arcs : List (List Int)) (vals : List Int) : Prop where
  n : arcs.length ≤ 120
  len : vals.length = arcs.length
  ar : ∀ i, i < arcs.length → ∀ x ∈ arcs.getD i [], 0 ≤ x ∧ x < (arcs.length : Int)
  al : ∀ i, i < arcs.length → (arcs.getD i []).length ≤ 120
  v : ∀ i, i < arcs.length → -1000000000 ≤ vals.getD i 0 ∧ vals.getD i 0 ≤ 1000000000
variable {arcs : List (List Int)} {vals : List Int} {i : Nat}
theorem gd' {α : Type} {a : List α} {k : Nat} {d : α} (h : k < a.length) : a.getD k d = a[k] := by simp [h]
def RP (arcs : List (List Int)) (vals : List Int) (i : Nat) : List DEdge := eV (pg arcs vals) (nS (pg arcs vals)) (zN (pg arcs vals)) i 0 ++ eA (pg arcs vals) (nS (pg arcs vals)) 1000000000 i 0
def PE (arcs : List (List Int)) (vals : List Int) : List DEdge := (List.range arcs.length).flatMap fun i => RP arcs vals i
theorem PE_eq : XE (pg arcs vals) 1000000000 = PE arcs vals := by
  unfold XE PE RP
  show (List.range 1).flatMap _ = _
  have : List.range 1 = [0] := rfl
  rw [this, List.flatMap_cons, List.flatMap_nil, List.append_nil]
  show (List.range arcs.length).flatMap _ = _
  congr 1
  funext i
  have : eT (pg arcs vals) (nS (pg arcs vals)) 1000000000 i 0 = [] := by
    unfold eT
    rw [if_neg (by show ¬ 0 + 1 < 1; omega)]
  rw [this, List.append_nil]
theorem nS0 : nS (pg arcs vals) i 0 = ((i + 1 : Nat) : Int) := by unfold nS; simp
theorem zN0 : zN (pg arcs vals) = ((arcs.length + 1 : Nat) : Int) := by unfold zN; show ((arcs.length * 1 + 1 : Nat) : Int) = _; rw [Nat.mul_one]
theorem eA0 : eA (pg arcs vals) (nS (pg arcs vals)) 1000000000 i 0 = (arcs.getD i []).map fun x => ((((i + 1 : Nat) : Int), ((x.toNat + 1 : Nat) : Int), 1000000000, ()) : DEdge) := by
  unfold eA
  show ((arcs.getD i []).map Int.toNat).map _ = _
  rw [List.map_map]
  congr 1
  funext x
  simp only [Function.comp, nS0]
theorem eV0 : eV (pg arcs vals) (nS (pg arcs vals)) (zN (pg arcs vals)) i 0 = if 0 < vals.getD i 0 then [(0, ((i + 1 : Nat) : Int), vals.getD i 0, ())] else if vals.getD i 0 < 0 then [(((i + 1 : Nat) : Int), ((arcs.length + 1 : Nat) : Int), - vals.getD i 0, ())] else [] := by
  unfold eV
  rw [nS0, zN0]; rfl
theorem RP_len (K : PitOk arcs vals) (hi : i < arcs.length) : (RP arcs vals i).length ≤ 121 := by
  have := K.al i hi
  unfold RP
  rw [eA0, eV0, List.length_append, List.length_map]
  split
  · simp only [List.length_singleton]; omega
  · split
    · simp only [List.length_singleton]; omega
    · simp only [List.length_nil]; omega
theorem pn_l1 (hi : i ≤ 200) (es : List Int) (hel : es.length ≤ 120) (hes : ∀ x ∈ es, 0 ≤ x ∧ x < 1000) : ∀ (r k : Nat) (E : List DEdge), k + r = es.length → E.length + r ≤ 549755813888 →
    impl_pitNetwork_l1 (i : Int) es (es.length : Int) (k : Int) E = some (E ++ (es.drop k).map fun x => ((((i + 1 : Nat) : Int), ((x.toNat + 1 : Nat) : Int), 1000000000, ()) : DEdge)) ∧
    spec_paEdges_l1 (i : Int) es (es.length : Int) (k : Int) E = some (E ++ (es.drop k).map fun x => ((((i + 1 : Nat) : Int), ((x.toNat + 1 : Nat) : Int), 1000000000, ()) : DEdge)) := by
  intro r
  induction r with
  | zero =>
    intro k E hk hE
    have hd : es.drop k = [] := List.drop_eq_nil_of_le (by omega)
    have : decide ((k : Int) < (es.length : Int)) = false := by simp; omega
    rw [impl_pitNetwork_l1_eq, spec_paEdges_l1_eq]
    unfold impl_pitNetwork_l1K spec_paEdges_l1K
    rw [this, hd]; simp
  | succ r ih =>
    intro k E hk hE
    have hkl : k < es.length := by omega
    have hx := hes _ (List.getElem_mem hkl)
    have wk : IntKind.i64.wrap ((k : Int) + 1) = ((k + 1 : Nat) : Int) := by rw [wr (by omega) (by omega)]; omega
    have w1 : IntKind.i64.wrap ((i : Int) + 1) = ((i + 1 : Nat) : Int) := by rw [wr (by omega) (by omega)]; omega
    have w2 : IntKind.i64.wrap (es[k] + 1) = ((es[k].toNat + 1 : Nat) : Int) := by rw [wr (by omega) (by omega)]; omega
    have c0 : ∀ {α : Type} (x : α), decide (E.length + [x].length ≤ 1099511627776) = true := fun x => decide_eq_true (by simp only [List.length_singleton]; omega)
    obtain ⟨g1, g2⟩ := ih (k + 1) (E ++ [(((i + 1 : Nat) : Int), ((es[k].toNat + 1 : Nat) : Int), 1000000000, ())]) (by omega) (by simp only [List.length_append, List.length_singleton]; omega)
    rw [List.drop_eq_getElem_cons hkl, List.map_cons]
    refine ⟨?_, ?_⟩
    · rw [impl_pitNetwork_l1_eq]
      unfold impl_pitNetwork_l1K
      simp only [dl hkl, cond_true, lat_nat hkl, Option.bind_some, w1, w2, c0, wk]
      rw [g1]; simp only [List.append_assoc, List.singleton_append]
    · rw [spec_paEdges_l1_eq]
      unfold spec_paEdges_l1K
      simp only [dl hkl, cond_true, lat_nat hkl, Option.bind_some, w1, w2, c0, wk]
      rw [g2]; simp only [List.append_assoc, List.singleton_append]
theorem pn_l0 (K : PitOk arcs vals) : ∀ (r i : Nat) (E : List DEdge), i + r = arcs.length → E.length + r * 121 ≤ 274877906944 →
    impl_pitNetwork_l0 arcs ((arcs.length + 2 : Nat) : Int) vals (vals.length : Int) (i : Int) E = some (E ++ (List.range' i r).flatMap fun i => RP arcs vals i) ∧
    spec_paEdges_l0 arcs vals arcs (arcs.length : Int) (i : Int) E = some (E ++ (List.range' i r).flatMap fun i => RP arcs vals i) := by
  have hn := K.n
  have hvl := K.len
  intro r
  induction r with
  | zero =>
    intro i E hi hE
    have h1 : decide ((i : Int) < (arcs.length : Int)) = false := by simp; omega
    have h2 : decide ((i : Int) < (vals.length : Int)) = false := by simp; omega
    rw [impl_pitNetwork_l0_eq, spec_paEdges_l0_eq]
    unfold impl_pitNetwork_l0K spec_paEdges_l0K
    rw [h1, h2]; simp
  | succ r ih =>
    intro i E hi0 hE
    have hi : i < arcs.length := by omega
    have hiv : i < vals.length := by omega
    have wk : IntKind.i64.wrap ((i : Int) + 1) = ((i + 1 : Nat) : Int) := by rw [wr (by omega) (by omega)]; omega
    have wz : IntKind.i64.wrap (((arcs.length + 2 : Nat) : Int) - 1) = ((arcs.length + 1 : Nat) : Int) := by rw [wr (by omega) (by omega)]; omega
    have wz2 : IntKind.i64.wrap ((arcs.length : Int) + 1) = ((arcs.length + 1 : Nat) : Int) := by rw [wr (by omega) (by omega)]; omega
    have bv := K.v i hi
    have wn : IntKind.i64.wrap (0 - vals.getD i 0) = - vals.getD i 0 := by rw [wr (by omega) (by omega)]; omega
    have la : lat arcs (i : Int) = some (arcs.getD i []) := by rw [lat_nat hi, gd' hi]
    have lv : lat vals (i : Int) = some (vals.getD i 0) := by rw [lat_nat hiv, gd' hiv]
    have c0 : ∀ {α : Type} (x : α), decide (E.length + [x].length ≤ 1099511627776) = true := fun x => decide_eq_true (by simp only [List.length_singleton]; omega)
    have l1 : ∀ E' : List DEdge, E'.length ≤ E.length + 1 → impl_pitNetwork_l1 (i : Int) (arcs.getD i []) ((arcs.getD i []).length : Int) 0 E' = some (E' ++ eA (pg arcs vals) (nS (pg arcs vals)) 1000000000 i 0) ∧
        spec_paEdges_l1 (i : Int) (arcs.getD i []) ((arcs.getD i []).length : Int) 0 E' = some (E' ++ eA (pg arcs vals) (nS (pg arcs vals)) 1000000000 i 0) := fun E' hE' => by
      have hal := K.al i hi
      have := pn_l1 (i := i) (by omega) (arcs.getD i []) hal (fun x hx => by have := K.ar i hi x hx; omega) (arcs.getD i []).length 0 E' (by omega) (by omega)
      rw [List.drop_zero, ← eA0 (vals := vals)] at this
      exact this
    have hl := RP_len K hi
    have hI : ∀ E' : List DEdge, E' = E ++ RP arcs vals i → impl_pitNetwork_l0 arcs ((arcs.length + 2 : Nat) : Int) vals (vals.length : Int) ((i + 1 : Nat) : Int) E' = some (E ++ (List.range' i (r + 1)).flatMap fun i => RP arcs vals i) ∧
        spec_paEdges_l0 arcs vals arcs (arcs.length : Int) ((i + 1 : Nat) : Int) E' = some (E ++ (List.range' i (r + 1)).flatMap fun i => RP arcs vals i) := fun E' hE' => by
      rw [hE', List.range'_succ, List.flatMap_cons, ← List.append_assoc]
      exact ih (i + 1) _ (by omega) (by rw [List.length_append]; omega)
    rw [impl_pitNetwork_l0_eq, spec_paEdges_l0_eq]
    unfold impl_pitNetwork_l0K spec_paEdges_l0K
    simp only [dl hi, dl hiv, cond_true, la, lv, Option.bind_some, wk, wz, wz2, wn, c0]
    rcases Int.lt_trichotomy 0 (vals.getD i 0) with h | h | h
    · have q1 : decide (vals.getD i 0 > 0) = true := decide_eq_true h
      have q2 : decide (vals.getD i 0 < 0) = false := decide_eq_false (by omega)
      simp only [q1, q2, cond_true, cond_false]
      obtain ⟨m1, m2⟩ := l1 (E ++ [(0, ((i + 1 : Nat) : Int), vals.getD i 0, ())]) (by simp)
      rw [m1, m2]
      simp only [Option.bind_some]
      refine hI _ ?_
      unfold RP
      rw [eV0, if_pos h, List.append_assoc]
    · have q1 : decide (vals.getD i 0 > 0) = false := decide_eq_false (by omega)
      have q2 : decide (vals.getD i 0 < 0) = false := decide_eq_false (by omega)
      simp only [q1, q2, cond_false]
      obtain ⟨m1, m2⟩ := l1 E (by simp)
      rw [m1, m2]
      simp only [Option.bind_some]
      refine hI _ ?_
      unfold RP
      rw [eV0, if_neg (by omega), if_neg (by omega), List.nil_append]
    · have q1 : decide (vals.getD i 0 > 0) = false := decide_eq_false (by omega)
      have q2 : decide (vals.getD i 0 < 0) = true := decide_eq_true h
      simp only [q1, q2, cond_true, cond_false]
      obtain ⟨m1, m2⟩ := l1 (E ++ [(((i + 1 : Nat) : Int), ((arcs.length + 1 : Nat) : Int), - vals.getD i 0, ())]) (by simp)
      rw [m1, m2]
      simp only [Option.bind_some]
      refine hI _ ?_
      unfold RP
      rw [eV0, if_neg (by omega), if_pos h, List.append_assoc]
theorem pit_i (K : PitOk arcs vals) : impl_pitNetwork arcs vals = some (((arcs.length + 2 : Nat) : Int), PE arcs vals) := by
  have hn := K.n
  have h := (pn_l0 K arcs.length 0 [] (by omega) (by simp only [List.length_nil]; omega)).1
  have h : impl_pitNetwork_l0 arcs ((arcs.length + 2 : Nat) : Int) vals (vals.length : Int) 0 [] = _ := h
  have w : IntKind.i64.wrap ((arcs.length : Int) + 2) = ((arcs.length + 2 : Nat) : Int) := by rw [wr (by omega) (by omega)]; omega
  unfold impl_pitNetwork impl_pitNetworkK
  rw [w, h, List.nil_append, ← List.range_eq_range']
  rfl
theorem pit_s (K : PitOk arcs vals) : spec_paEdges arcs vals = some (PE arcs vals) := by
  have hn := K.n
  have h := (pn_l0 K arcs.length 0 [] (by omega) (by simp only [List.length_nil]; omega)).2
  have h : spec_paEdges_l0 arcs vals arcs (arcs.length : Int) 0 [] = _ := h
  unfold spec_paEdges spec_paEdgesK
  rw [h, List.nil_append, ← List.range_eq_range']
  rfl
theorem PE_ok (K : PitOk arcs vals) : EOk (arcs.length + 2) (PE arcs vals) := by
  have hn := K.n
  refine ⟨fun e he => ?_, ?_, by omega, by omega⟩
  · obtain ⟨i, hi, he⟩ := List.mem_flatMap.1 he
    have hi : i < arcs.length := List.mem_range.1 hi
    have bv := K.v i hi
    unfold RP at he
    rw [eA0, eV0] at he
    rcases List.mem_append.1 he with he | he
    · by_cases h1 : 0 < vals.getD i 0
      · rw [if_pos h1] at he
        have : e = (0, ((i + 1 : Nat) : Int), vals.getD i 0, ()) := by simpa using he
        subst this
        refine ⟨?_, ?_, ?_⟩ <;> dsimp only <;> omega
      · rw [if_neg h1] at he
        by_cases h2 : vals.getD i 0 < 0
        · rw [if_pos h2] at he
          have : e = (((i + 1 : Nat) : Int), ((arcs.length + 1 : Nat) : Int), - vals.getD i 0, ()) := by simpa using he
          subst this
          refine ⟨?_, ?_, ?_⟩ <;> dsimp only <;> omega
        · rw [if_neg h2] at he; simp at he
    · obtain ⟨x, hx, rfl⟩ := List.mem_map.1 he
      have := K.ar i hi x hx
      refine ⟨?_, ?_, ?_⟩ <;> dsimp only <;> omega
  · have inner : ∀ m, m ≤ arcs.length → ((List.range m).flatMap fun i => RP arcs vals i).length ≤ m * 121 := fun m => by
      induction m with
      | zero => intro _; simp
      | succ m ih =>
        intro hm
        have h1 := ih (by omega)
        have h2 := RP_len (vals := vals) K (show m < arcs.length by omega)
        rw [List.range_succ, List.flatMap_append, List.length_append, Nat.add_mul]
        simp only [List.flatMap_cons, List.flatMap_nil, List.append_nil]
        omega
    have := inner arcs.length (Nat.le_refl _)
    show (PE arcs vals).length ≤ _
    unfold PE; omega
/-- The reference's best pit. -/
theorem find_s (K : PitOk arcs vals) : ∃ C, Least ((arcs.length + 2 : Nat) : Int) (eds (PE arcs vals)) C ∧ spec_paFind arcs vals = some (((List.range arcs.length).filter fun i => C ((i + 1 : Nat) : Int)).map fun i : Nat => (i : Int)) := by
  have hn := K.n
  obtain ⟨sn, c1, c2, c3⟩ := cut_s (PE_ok K)
  refine ⟨_, c2, ?_⟩
  show _ = some (((List.range arcs.length).filter fun i => sn.getD (i + 1) false).map fun i : Nat => (i : Int))
  have s0 : sn.getD 0 false = true := c2.s0
  have s1 : sn.getD (arcs.length + 1) false = false := by
    have := c2.s1
    rwa [show (((arcs.length + 2 : Nat) : Int) - 1).toNat = arcs.length + 1 by omega] at this
  have hlist : (((List.range (arcs.length + 2)).filter fun i => sn.getD i false).map fun i : Nat => (i : Int)) = (0 : Int) :: ((((List.range arcs.length).filter fun i => sn.getD (i + 1) false).map fun i : Nat => ((i + 1 : Nat) : Int))) := by
    have e1 : List.range (arcs.length + 2) = 0 :: ((List.range arcs.length).map fun i => i + 1) ++ [arcs.length + 1] := by
      rw [show arcs.length + 2 = (arcs.length + 1) + 1 by omega, List.range_succ, List.range_succ_eq_map]
    rw [e1, List.filter_append, List.filter_cons, if_pos s0, List.filter_map, List.filter_cons, if_neg (by rw [s1]; simp), List.filter_nil, List.append_nil, List.map_cons, List.map_map]
    rfl
  rw [hlist] at c3
  have w : IntKind.i64.wrap ((arcs.length : Int) + 2) = ((arcs.length + 2 : Nat) : Int) := by rw [wr (by omega) (by omega)]; omega
  have hL : ((List.range arcs.length).filter fun i => sn.getD (i + 1) false).length ≤ 120 := by
    have := List.length_filter_le (fun i => sn.getD (i + 1) false) (List.range arcs.length)
    rw [List.length_range] at this; omega
  have hlt : ∀ x ∈ (List.range arcs.length).filter fun i => sn.getD (i + 1) false, x < arcs.length := fun x hx => List.mem_range.1 (List.mem_filter.1 hx).1
  generalize (List.range arcs.length).filter (fun i => sn.getD (i + 1) false) = L at *
  have key : ∀ k, k ≤ L.length → spec_paOf_l0 (L.map fun i : Nat => ((i + 1 : Nat) : Int)) (L.length : Int) (k : Int) ((L.take k).map fun i : Nat => (i : Int)) = some (L.map fun i : Nat => (i : Int)) := by
    refine down ?_ fun k hk ih => ?_
    · rw [spec_paOf_l0_eq]; unfold spec_paOf_l0K
      simp
    · have hx := hlt _ (List.getElem_mem hk)
      have hk' : k < (L.map fun i : Nat => ((i + 1 : Nat) : Int)).length := by simpa using hk
      have l1 : lat (L.map fun i : Nat => ((i + 1 : Nat) : Int)) (k : Int) = some ((L[k] + 1 : Nat) : Int) := by rw [lat_nat hk']; simp
      have wk : IntKind.i64.wrap ((k : Int) + 1) = ((k + 1 : Nat) : Int) := by rw [wr (by omega) (by omega)]; omega
      have w1 : IntKind.i64.wrap (((L[k] + 1 : Nat) : Int) - 1) = ((L[k] : Nat) : Int) := by rw [wr (by omega) (by omega)]; omega
      have c0 : ∀ x : Int, decide (((L.take k).map fun i : Nat => (i : Int)).length + [x].length ≤ 1099511627776) = true := fun x => decide_eq_true (by simp only [List.length_map, List.length_take, List.length_singleton]; omega)
      rw [spec_paOf_l0_eq]; unfold spec_paOf_l0K
      simp only [dl hk, cond_true, l1, Option.bind_some, w1, c0, wk]
      have e : (L.take (k + 1)).map (fun i : Nat => (i : Int)) = (L.take k).map (fun i : Nat => (i : Int)) ++ [(L[k] : Int)] := by
        rw [List.take_add_one, List.getElem?_eq_getElem hk, List.map_append]; rfl
      rw [e] at ih
      exact ih
  have k0 := key 0 (Nat.zero_le _)
  have k0 : spec_paOf_l0 (L.map fun i : Nat => ((i + 1 : Nat) : Int)) (L.length : Int) 0 [] = _ := k0
  unfold spec_paFind spec_paFindK
  simp only [pit_s K, Option.bind_some, w, c3]
  unfold spec_paOf spec_paOfK
  have d1 : decide ((1 : Int) ≤ (((0 : Int) :: L.map fun i : Nat => ((i + 1 : Nat) : Int)).length : Int)) = true := decide_eq_true (by simp only [List.length_cons]; omega)
  have d2 : decide ((((0 : Int) :: L.map fun i : Nat => ((i + 1 : Nat) : Int)).length : Int) ≤ (((0 : Int) :: L.map fun i : Nat => ((i + 1 : Nat) : Int)).length : Int)) = true := decide_eq_true (by omega)
  have ht : (((0 : Int) :: L.map fun i : Nat => ((i + 1 : Nat) : Int)).drop 1).take ((((0 : Int) :: L.map fun i : Nat => ((i + 1 : Nat) : Int)).length : Int).toNat - 1) = L.map fun i : Nat => ((i + 1 : Nat) : Int) := by
    simp only [List.drop_succ_cons, List.drop_zero]
    exact List.take_of_length_le (by simp)
  rw [d1, d2, ht]
  simp only [Bool.and_self, cond_true, List.length_map, k0, Option.bind_some, tz]
theorem Least.unique {n : Int} {E : List (Int × Int × Int)} {A C : Int → Bool} (hA : Least n E A) (hC : Least n E C) : ∀ z, 0 ≤ z → z < n → A z = C z := by
  have h1 := hA.le C hC.s0 hC.s1
  have h2 := hC.le A hA.s0 hA.s1
  intro z z0 z1
  cases ha : A z with
  | true => exact (hA.sub C hC.s0 hC.s1 (by omega) z z0 z1 ha).symm
  | false =>
    cases hc : C z with
    | false => rfl
    | true => have := hC.sub A hA.s0 hA.s1 (by omega) z z0 z1 hc; rw [ha] at this; cases this
end
end Go.OAI
