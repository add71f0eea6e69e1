/- ConePlan: the law in plain words. -/
import Derived.Test.YtnmeejeedfeolaaPfi
import Derived.Test.YtnmeejeedfeolaaGConePlan
namespace Go.OAI
set_option linter.unusedVariables false
noncomputable section

/-! ### Marks and closures -/
theorem marks_one (n b : Nat) (hn : n ≤ 1048576) (hb : b < n) : ∃ M : List Bool, M.length = n ∧ impl_markOf (n : Int) [(b : Int)] = some M ∧ spec_clMarks (n : Int) [(b : Int)] = some M := by
  refine ⟨(List.replicate n false).set b true, by simp, ?_, ?_⟩
  · unfold impl_markOf impl_markOfK
    rw [cap_ok (by omega)]
    simp only [Option.bind_some, Int.toNat_natCast]
    rw [impl_markOf_l0_eq]; unfold impl_markOf_l0K
    have c0 : (0 : Int) < (([(b : Int)] : List Int).length : Int) := by simp
    have l0 : lat [(b : Int)] (0 : Int) = some (b : Int) := rfl
    have w1 : IntKind.i64.wrap (0 + 1) = 1 := by decide
    simp only [Int.toNat_natCast, Option.bind_some, c0, decide_true, cond_true, l0, w1]
    rw [ck_in (by simp; exact hb), impl_markOf_l0_eq]; unfold impl_markOf_l0K
    have c1 : ¬ (1 : Int) < (([(b : Int)] : List Int).length : Int) := by simp
    simp only [c1, decide_false, cond_false, Option.bind_some, Nat.zero_add]
  · unfold spec_clMarks spec_clMarksK
    rw [cap_ok (by omega)]
    simp only [Option.bind_some, Int.toNat_natCast]
    rw [spec_clMarks_l0_eq]; unfold spec_clMarks_l0K
    have c0 : (0 : Int) < (([(b : Int)] : List Int).length : Int) := by simp
    have l0 : lat [(b : Int)] (0 : Int) = some (b : Int) := rfl
    have w1 : IntKind.i64.wrap (0 + 1) = 1 := by decide
    simp only [Int.toNat_natCast, Option.bind_some, c0, decide_true, cond_true, l0, w1]
    rw [ck_in (by simp; exact hb), spec_clMarks_l0_eq]; unfold spec_clMarks_l0K
    have c1 : ¬ (1 : Int) < (([(b : Int)] : List Int).length : Int) := by simp
    simp only [c1, decide_false, cond_false, Option.bind_some, Nat.zero_add]
/-- All of a row is marked; what was marked stays so. -/
theorem mark_row (R : List Int) (n : Nat) (hn : n ≤ 1048576) (hR : R.length ≤ 1048576) (hr : ∀ a ∈ R, 0 ≤ a ∧ a < (n : Int)) : ∀ i, i ≤ R.length → ∀ M : List Bool, M.length = n → ∃ M',
    impl_closureOf_l1 R (R.length : Int) (i : Int) M = some M' ∧ spec_clLeast_l1 R (R.length : Int) (i : Int) M = some M' ∧ M'.length = n ∧
      (∀ x, M.getD x false = true → M'.getD x false = true) ∧ (∀ a ∈ R.drop i, M'.getD a.toNat false = true) ∧ (∀ x : Nat, (∀ a ∈ R, a.toNat ≠ x) → M'.getD x false = M.getD x false) := by
  refine down (fun M hM => ?_) fun i hi ih M hM => ?_
  · rw [impl_closureOf_l1_eq, spec_clLeast_l1_eq]; unfold impl_closureOf_l1K spec_clLeast_l1K
    rw [lt_out (Nat.le_refl _), lt_out (Nat.le_refl _)]
    exact ⟨M, rfl, rfl, hM, fun _ h => h, by simp, fun _ _ => rfl⟩
  · have hx := hr _ (List.getElem_mem hi)
    obtain ⟨b, hb⟩ := Int.eq_ofNat_of_zero_le hx.1
    have hbl : b < M.length := by omega
    have e : (0 : Nat) + ((b : Int)).toNat = b := by omega
    obtain ⟨M', g1, g2, g3, g4, g5, g6⟩ := ih (M.set b true) (by simp [hM])
    rw [impl_closureOf_l1_eq, spec_clLeast_l1_eq]; unfold impl_closureOf_l1K spec_clLeast_l1K
    rw [loop_step hi, loop_step hi, wr_succ hi (by omega), hb, ck_in hbl, ck_in hbl, e]
    simp only [Option.bind_some]
    refine ⟨M', g1, g2, g3, fun x hx => ?_, fun a ha => ?_, fun x hx => ?_⟩
    · refine g4 x ?_
      by_cases ex : b = x
      · subst ex; simp [hbl]
      · have : (M.set b true).getD x false = M.getD x false := by simp [ex]
        rw [this]; exact hx
    · rw [drop_cons hi] at ha
      rcases List.mem_cons.1 ha with h | h
      · rw [h, hb]
        refine g4 _ ?_
        simp [hbl]
      · exact g5 a h
    · rw [g6 x hx]
      have : b ≠ x := fun ex => hx _ (List.getElem_mem hi) (by omega)
      simp [this]
theorem closure_loop (j : DJob) (s : JobSm j) (J : JobOk j) : ∀ k, k ≤ j.1.length → ∀ M : List Bool, M.length = j.1.length → (∀ b (h : b < j.1.length), k ≤ b → M.getD b false = true → ∀ a ∈ j.1[b], M.getD a.toNat false = true) → ∃ M',
    impl_closureOf_l0 j.1 ((k : Int) - 1) M = some M' ∧ spec_clLeast_l0 j.1 ((k : Int) - 1) M = some M' ∧ M'.length = j.1.length ∧
      (∀ b (h : b < j.1.length), M'.getD b false = true → ∀ a ∈ j.1[b], M'.getD a.toNat false = true) := by
  have hn2 := J.n2
  intro k
  induction k with
  | zero =>
    intro _ M hM hc
    rw [impl_closureOf_l0_eq, spec_clLeast_l0_eq]; unfold impl_closureOf_l0K spec_clLeast_l0K
    have c1 : ¬ (((0 : Nat) : Int) - 1 ≥ 0) := by omega
    simp only [c1, decide_false, cond_false]
    exact ⟨M, rfl, rfl, hM, fun b hb h => hc b hb (Nat.zero_le _) h⟩
  | succ k ih =>
    intro hk M hM hc
    have hk1 : k < j.1.length := hk
    have hkM : k < M.length := by omega
    have hr : j.1[k].length ≤ 1048576 := s.r _ (List.getElem_mem hk1)
    have ha := (J.arc k hk1).1
    have e1 : ((k + 1 : Nat) : Int) - 1 = (k : Int) := by omega
    have c1 : (k : Int) ≥ 0 := by omega
    have hg : M.getD (0 + ((k : Nat) : Int).toNat) false = M.getD k false := by simp
    rw [e1, impl_closureOf_l0_eq, spec_clLeast_l0_eq]; unfold impl_closureOf_l0K spec_clLeast_l0K
    rw [ck_in hkM, ck_in hkM, hg, wr (n := (k : Int) - 1) (by omega) (by omega)]
    simp only [c1, decide_true, cond_true]
    cases hm : M.getD k false with
    | false =>
      simp only [Bool.not_false, cond_true, cond_false]
      refine ih (by omega) M hM fun b hb hkb hbm => ?_
      by_cases e : b = k
      · subst e; rw [hm] at hbm; exact absurd hbm (by simp)
      · exact hc b hb (by omega) hbm
    | true =>
      obtain ⟨M', g1, g2, g3, g4, g5, g6⟩ := mark_row j.1[k] j.1.length (by omega) hr (fun a h => by have := ha a h; omega) 0 (Nat.zero_le _) M hM
      have g1 : impl_closureOf_l1 j.1[k] (j.1[k].length : Int) 0 M = some M' := g1
      have g2 : spec_clLeast_l1 j.1[k] (j.1[k].length : Int) 0 M = some M' := g2
      simp only [Bool.not_true, cond_true, cond_false, lat_nat hk1, Option.bind_some, g1, g2]
      refine ih (by omega) M' g3 fun b hb hkb hbm a hab => ?_
      by_cases e : b = k
      · subst e
        rw [List.drop_zero] at g5
        exact g5 a hab
      · refine g4 _ (hc b hb (by omega) ?_ a hab)
        rw [← g6 b fun x hx => by have := ha x hx; omega]; exact hbm
/-! ### Lists of marks -/
def lst (M : List Bool) (i : Nat) : List Int := ((List.range i).filter fun b => M.getD b false).map fun b : Nat => (b : Int)
theorem lst_succ (M : List Bool) (i : Nat) : lst M (i + 1) = if M.getD i false then lst M i ++ [(i : Int)] else lst M i := by
  unfold lst
  rw [List.range_succ, List.filter_append, List.map_append]
  cases h : M.getD i false with
  | false => rw [List.filter_cons_of_neg (by rw [h]; simp)]; simp
  | true => rw [List.filter_cons_of_pos (by rw [h])]; simp
theorem lst_len (M : List Bool) (i : Nat) : (lst M i).length ≤ i := by
  unfold lst
  rw [List.length_map]
  exact Nat.le_trans (List.length_filter_le _ _) (by simp)
theorem lst_mem {M : List Bool} {i : Nat} {x : Int} : x ∈ lst M i ↔ ∃ b : Nat, x = (b : Int) ∧ b < i ∧ M.getD b false = true := by
  unfold lst
  simp only [List.mem_map, List.mem_filter, List.mem_range]
  exact ⟨fun ⟨b, ⟨h1, h2⟩, h3⟩ => ⟨b, h3.symm, h1, h2⟩, fun ⟨b, h1, h2, h3⟩ => ⟨b, ⟨h2, h3⟩, h1.symm⟩⟩
theorem lst_nodup (M : List Bool) (i : Nat) : (lst M i).Nodup := by
  unfold lst List.Nodup
  rw [List.pairwise_map]
  refine (List.Pairwise.filter _ (List.nodup_range (n := i))).imp fun {a b} h e => h (by omega)
theorem list_both (M : List Bool) (hM : M.length ≤ 1048576) : impl_listOf M = some (lst M M.length) ∧ spec_clList M = some (lst M M.length) := by
  have key : ∀ i, i ≤ M.length → impl_listOf_l0 M (M.length : Int) (i : Int) (lst M i) = some (lst M M.length) ∧ spec_clList_l0 M (M.length : Int) (i : Int) (lst M i) = some (lst M M.length) := by
    refine down ?_ fun i hi ih => ?_
    · rw [impl_listOf_l0_eq, spec_clList_l0_eq]; unfold impl_listOf_l0K spec_clList_l0K
      rw [lt_out (Nat.le_refl _), lt_out (Nat.le_refl _)]
      exact ⟨rfl, rfl⟩
    · have hl := lst_len M i
      have hg : M.getD i false = M[i] := by simp [hi]
      have hcap : (lst M i).length + [(i : Int)].length ≤ 1099511627776 := by simp only [List.length_singleton]; omega
      rw [lst_succ, hg] at ih
      rw [impl_listOf_l0_eq, spec_clList_l0_eq]; unfold impl_listOf_l0K spec_clList_l0K
      rw [loop_step hi, loop_step hi, wr_succ hi (by omega)]
      simp only [hcap, decide_true, cond_true]
      cases h : M[i] with
      | false => rw [h] at ih; exact ih
      | true => rw [h] at ih; exact ih
  have k0 := key 0 (Nat.zero_le _)
  have k1 : impl_listOf_l0 M (M.length : Int) 0 [] = some (lst M M.length) := k0.1
  have k2 : spec_clList_l0 M (M.length : Int) 0 [] = some (lst M M.length) := k0.2
  unfold impl_listOf impl_listOfK spec_clList spec_clListK
  rw [k1, k2]
  exact ⟨rfl, rfl⟩
/-! ### Cones -/
structure Cone (j : DJob) (w C : List Int) : Prop where
  nd : C.Nodup
  len : C.length ≤ 120
  mem : ∀ b ∈ C, 0 ≤ b ∧ b < (j.1.length : Int) ∧ w.getD b.toNat 0 < 0
  cl : ∀ b ∈ C, ∀ a ∈ arcsOf j b, a ∈ C ∨ 0 ≤ w.getD a.toNat 0
theorem cone_loop (w L : List Int) (hL : L.length ≤ 1048576) (hr : ∀ b ∈ L, 0 ≤ b ∧ b < (w.length : Int)) : ∀ i, i ≤ L.length → ∀ A : List Int, A.length ≤ i →
    impl_unminedCone_l0 (L.length : Int) w L (i : Int) A = some (A ++ (L.drop i).filter fun b => decide (w.getD b.toNat 0 < 0)) ∧
    spec_wiCone_l0 (L.length : Int) w L (i : Int) A = some (A ++ (L.drop i).filter fun b => decide (w.getD b.toNat 0 < 0)) := by
  refine down (fun A hA => ?_) fun i hi ih A hA => ?_
  · rw [impl_unminedCone_l0_eq, spec_wiCone_l0_eq]; unfold impl_unminedCone_l0K spec_wiCone_l0K
    rw [lt_out (Nat.le_refl _), lt_out (Nat.le_refl _), List.drop_length]
    simp
  · have hx := hr _ (List.getElem_mem hi)
    have hxw : L[i].toNat < w.length := by omega
    have hg : L.getD (0 + ((i : Nat) : Int).toNat) 0 = L[i] := getD_nat hi
    have hgw : w.getD L[i].toNat 0 = w[L[i].toNat] := by simp [hxw]
    have hcap : A.length + [L[i]].length ≤ 1099511627776 := by simp only [List.length_singleton]; omega
    rw [impl_unminedCone_l0_eq, spec_wiCone_l0_eq]; unfold impl_unminedCone_l0K spec_wiCone_l0K
    rw [lt_in hi, lt_in hi, ck_in hi, ck_in hi, hg, lat_int hx.1 hxw, wr_succ hi (by omega), drop_cons hi]
    simp only [Option.bind_some, hcap, decide_true, cond_true]
    by_cases c : w[L[i].toNat] < 0
    · have := ih (A ++ [L[i]]) (by simp; omega)
      rw [List.filter_cons_of_pos (by rw [hgw]; simpa using c)]
      simp only [c, decide_true, cond_true]
      rw [this.1, this.2]
      simp
    · rw [List.filter_cons_of_neg (by rw [hgw]; simpa using c)]
      simp only [c, decide_false, cond_false]
      exact ih A (by omega)
theorem cone_ok (j : DJob) (s : JobSm j) (J : JobOk j) (c : Int) (w : List Int) (hw : w.length = j.1.length) (i : Nat) (hi : i < j.1.length) : ∃ C,
    impl_unminedCone j (c, w, ()) (i : Int) = some C ∧ spec_wiCone j (c, w, ()) (i : Int) = some C ∧ Cone j w C := by
  have hn2 := J.n2
  obtain ⟨M0, m1, m2, m3⟩ := marks_one j.1.length i (by omega) hi
  obtain ⟨M, g1, g2, g3, g4⟩ := closure_loop j s J j.1.length (Nat.le_refl _) M0 m1 (fun b hb h => by omega)
  obtain ⟨l1, l2⟩ := list_both M (by omega)
  rw [g3] at l1 l2
  have hl := lst_len M j.1.length
  have hmem : ∀ b ∈ lst M j.1.length, 0 ≤ b ∧ b < (w.length : Int) := fun b hb => by
    obtain ⟨k, h1, h2, h3⟩ := lst_mem.1 hb
    omega
  have kc := cone_loop w (lst M j.1.length) (by omega) hmem 0 (Nat.zero_le _) [] (by simp)
  simp only [List.drop_zero, List.nil_append] at kc
  have k1 : impl_unminedCone_l0 ((lst M j.1.length).length : Int) w (lst M j.1.length) 0 [] = _ := kc.1
  have k2 : spec_wiCone_l0 ((lst M j.1.length).length : Int) w (lst M j.1.length) 0 [] = _ := kc.2
  refine ⟨(lst M j.1.length).filter fun b => decide (w.getD b.toNat 0 < 0), ?_, ?_, ?_, ?_, ?_, ?_⟩
  · unfold impl_unminedCone impl_unminedConeK impl_closureOf impl_closureOfK
    rw [m2, wr (n := (j.1.length : Int) - 1) (by omega) (by omega)]
    simp only [Option.bind_some, g1, l1, k1]
  · unfold spec_wiCone spec_wiConeK spec_clUp spec_clUpK spec_clLeast spec_clLeastK
    rw [m3, wr (n := (j.1.length : Int) - 1) (by omega) (by omega)]
    simp only [Option.bind_some, g2, l2, k2]
  · exact List.Pairwise.filter _ (lst_nodup M _)
  · exact Nat.le_trans (List.length_filter_le _ _) (by omega)
  · intro b hb
    have h := List.mem_filter.1 hb
    have h1 := hmem b h.1
    have h2 := of_decide_eq_true h.2
    exact ⟨h1.1, by omega, h2⟩
  · intro b hb a ha
    have h := List.mem_filter.1 hb
    obtain ⟨k, h1, h2, h3⟩ := lst_mem.1 h.1
    have ea : arcsOf j b = j.1[k] := by
      subst h1
      simp [arcsOf, h2]
    rw [ea] at ha
    have hm := g4 k h2 h3 a ha
    have hak := (J.arc k h2).1 a ha
    by_cases c : w.getD a.toNat 0 < 0
    · left
      refine List.mem_filter.2 ⟨lst_mem.2 ⟨a.toNat, by omega, by omega, hm⟩, by simpa using c⟩
    · right; omega
theorem setAll_get (t : Int) : ∀ (B w : List Int) (m : Nat), m < w.length → (setAll B t w).getD m 0 = if (∃ b ∈ B, b.toNat = m) then t else w.getD m 0
  | [], w, m, _ => by simp [setAll]
  | b :: B, w, m, hm => by
    show (setAll B t (w.set b.toNat t)).getD m 0 = _
    rw [setAll_get t B _ m (by simp; exact hm)]
    by_cases h1 : ∃ x ∈ B, x.toNat = m
    · have h2 : ∃ x ∈ b :: B, x.toNat = m := by
        obtain ⟨x, hx, e⟩ := h1
        exact ⟨x, List.mem_cons_of_mem _ hx, e⟩
      rw [if_pos h1, if_pos h2]
    · rw [if_neg h1]
      by_cases e : b.toNat = m
      · have h2 : ∃ x ∈ b :: B, x.toNat = m := ⟨b, List.mem_cons_self .., e⟩
        rw [if_pos h2, e]
        simp [hm]
      · have h2 : ¬ ∃ x ∈ b :: B, x.toNat = m := fun ⟨x, hx, ex⟩ => by
          rcases List.mem_cons.1 hx with h | h
          · subst h; exact e ex
          · exact h1 ⟨x, h, ex⟩
        rw [if_neg h2]
        simp [e]
theorem fit_cone (j : DJob) (J : JobOk j) (w C : List Int) (t : Int) (hw : w.length = j.1.length) (h0 : 0 ≤ t) (K : Cone j w C) (ht : ∀ m, w.getD m 0 ≤ t) : fitB j w C t = roomB j w t C := by
  have e := ton_setAll J t h0 C w K.nd hw K.mem
  unfold fitB roomB
  rw [e]
  have h1 : C.all (fun b => (arcsOf j b).all (arcB (setAll C t w) b.toNat)) = true := by
    rw [List.all_eq_true]
    intro b hb
    rw [List.all_eq_true]
    intro a ha
    have hm := K.mem b hb
    have hbw : b.toNat < w.length := by omega
    have ea : arcsOf j b = j.1[b.toNat]'(by omega) := by
      have : b.toNat < j.1.length := by omega
      simp [arcsOf, this]
    have hab := (J.arc b.toNat (by omega)).1 a (by rw [← ea]; exact ha)
    have s1 : (setAll C t w).getD b.toNat 0 = t := by
      rw [setAll_get t C w _ hbw, if_pos ⟨b, hb, rfl⟩]
    have s2 : 0 ≤ (setAll C t w).getD a.toNat 0 ∧ (setAll C t w).getD a.toNat 0 ≤ t := by
      rw [setAll_get t C w _ (by omega)]
      by_cases c : ∃ x ∈ C, x.toNat = a.toNat
      · rw [if_pos c]; omega
      · rw [if_neg c]
        rcases K.cl b hb a ha with h | h
        · exact absurd ⟨a, h, rfl⟩ c
        · exact ⟨h, ht _⟩
    have c : ¬ t < 0 := by omega
    simp only [arcB, s1, c, decide_false, Bool.false_or, s2.1, s2.2, decide_true, Bool.and_self]
  rw [h1, Bool.true_and]
theorem sum_both (V C : List Int) (hC : C.length ≤ 1048576) (hr : ∀ b ∈ C, 0 ≤ b ∧ b < (V.length : Int)) : ∃ v, impl_valueSum V C = some v ∧ spec_vaSum V C = some v := by
  have key : ∀ i, i ≤ C.length → ∀ x : Int, ∃ v, impl_valueSum_l0 V C (C.length : Int) x (i : Int) = some v ∧ spec_vaSum_l0 V C (C.length : Int) x (i : Int) = some v := by
    refine down (fun x => ?_) fun i hi ih x => ?_
    · rw [impl_valueSum_l0_eq, spec_vaSum_l0_eq]; unfold impl_valueSum_l0K spec_vaSum_l0K
      rw [lt_out (Nat.le_refl _), lt_out (Nat.le_refl _)]
      exact ⟨x, rfl, rfl⟩
    · have hx := hr _ (List.getElem_mem hi)
      have hxw : C[i].toNat < V.length := by omega
      rw [impl_valueSum_l0_eq, spec_vaSum_l0_eq]; unfold impl_valueSum_l0K spec_vaSum_l0K
      rw [loop_step hi, loop_step hi, lat_int hx.1 hxw, wr_succ hi (by omega)]
      exact ih _
  obtain ⟨v, g1, g2⟩ := key 0 (Nat.zero_le _) 0
  have g1 : impl_valueSum_l0 V C (C.length : Int) 0 0 = some v := g1
  have g2 : spec_vaSum_l0 V C (C.length : Int) 0 0 = some v := g2
  unfold impl_valueSum impl_valueSumK spec_vaSum spec_vaSumK
  rw [g1, g2]
  exact ⟨v, rfl, rfl⟩
theorem cone_inner (j : DJob) (s : JobSm j) (J : JobOk j) (c : Int) (w : List Int) (Q : PlanOk j (c, w, ())) (t : Nat) (ht : t < j.2.2.2.2.1.toNat) (hwt : ∀ m, w.getD m 0 ≤ (t : Int)) : ∀ i, i ≤ w.length → ∀ (x : Int) (B : List Int), Cone j w B → ∃ B',
    impl_ConePlan_l2 (t : Int) (w.length : Int) j.1 j.2.1 j.2.2.1 j.2.2.2.1.1 j.2.2.2.1.2.1 j.2.2.2.2.1 j.2.2.2.2.2.1 j.2.2.2.2.2.2.1 c w x (i : Int) B = some B' ∧
    spec_ConePlan_l2 (t : Int) (j.2.2.1.length : Int) j.1 j.2.1 j.2.2.1 j.2.2.2.1.1 j.2.2.2.1.2.1 j.2.2.2.2.1 j.2.2.2.2.2.1 j.2.2.2.2.2.2.1 c w x (i : Int) B = some B' ∧ Cone j w B' := by
  have hlen : w.length = j.1.length := Q.len
  have hlv := J.lv
  have hn2 := J.n2
  refine down (fun x B hB => ?_) fun i hi ih x B hB => ?_
  · rw [impl_ConePlan_l2_eq, spec_ConePlan_l2_eq]; unfold impl_ConePlan_l2K spec_ConePlan_l2K
    rw [lt_out (Nat.le_refl _), lt_out (by omega)]
    exact ⟨B, rfl, rfl, hB⟩
  · have hv : i < j.2.2.1.length := by omega
    rw [impl_ConePlan_l2_eq, spec_ConePlan_l2_eq]; unfold impl_ConePlan_l2K spec_ConePlan_l2K
    rw [lt_in hi, lt_in hv, ck_in hi, ck_in hi, getD_nat hi, wr_succ hi (by omega), jobEta]
    by_cases c1 : w[i] ≥ 0
    · simp only [c1, decide_true, cond_true]
      exact ih x B hB
    · obtain ⟨C, g1, g2, K⟩ := cone_ok j s J c w hlen i (by omega)
      have hCl := K.len
      have hCr : ∀ b ∈ C, 0 ≤ b ∧ b < (j.1.length : Int) := fun b hb => ⟨(K.mem b hb).1, (K.mem b hb).2.1⟩
      obtain ⟨v, v1, v2⟩ := sum_both j.2.2.1 C (by omega) (fun b hb => by have := hCr b hb; omega)
      have f1 := fitsIn_ok j s J c w C t Q (by omega) hCr ht
      have f3 := wiRoom_ok j s J c w C t Q (by omega) hCr ht
      rw [fit_cone j J w C (t : Int) hlen (by omega) K hwt] at f1
      simp only [c1, decide_false, cond_false, g1, g2, v1, v2, Option.bind_some]
      by_cases c2 : v > x
      · simp only [c2, decide_true, cond_true, f1, f3, Option.bind_some]
        cases roomB j w (t : Int) C with
        | false => exact ih x B hB
        | true => exact ih v C K
      · simp only [c2, decide_false, cond_false]
        exact ih x B hB
theorem cone_set (t : Int) (B : List Int) (hB : B.length ≤ 1048576) (n : Nat) (hb : ∀ b ∈ B, 0 ≤ b ∧ b < (n : Int)) : ∀ i, i ≤ B.length → ∀ w : List Int, w.length = n →
    impl_ConePlan_l3 t (B.length : Int) B (i : Int) w = some (setAll (B.drop i) t w) ∧ spec_ConePlan_l3 t (B.length : Int) B (i : Int) w = some (setAll (B.drop i) t w) := by
  refine down (fun w hw => ?_) fun i hi ih w hw => ?_
  · rw [impl_ConePlan_l3_eq, spec_ConePlan_l3_eq]; unfold impl_ConePlan_l3K spec_ConePlan_l3K
    rw [lt_out (Nat.le_refl _), lt_out (Nat.le_refl _), List.drop_length]; exact ⟨rfl, rfl⟩
  · have hx := hb _ (List.getElem_mem hi)
    rw [impl_ConePlan_l3_eq, spec_ConePlan_l3_eq]; unfold impl_ConePlan_l3K spec_ConePlan_l3K
    rw [lt_in hi, lt_in hi, ck_in hi, ck_in hi, getD_nat hi, ck_int hx.1 (by omega), ck_int hx.1 (by omega), wr_succ hi (by omega)]
    simp only [Option.bind_some, Nat.zero_add]
    have := ih (w.set B[i].toNat t) (by simp [hw])
    rw [this.1, this.2, drop_cons hi]; exact ⟨rfl, rfl⟩
theorem count_le (t : Int) (ht : 0 ≤ t) : ∀ (B w : List Int), (setAll B t w).countP (fun x => decide (x < 0)) ≤ w.countP (fun x => decide (x < 0))
  | [], w => Nat.le_refl _
  | b :: B, w => by
    refine Nat.le_trans (count_le t ht B (w.set b.toNat t)) ?_
    by_cases h : b.toNat < w.length
    · rw [List.countP_set h]
      have ct : ¬ t < 0 := by omega
      simp only [ct, decide_false]
      simp
    · rw [List.set_eq_of_length_le (by omega)]
      exact Nat.le_refl _
theorem cone_mid (j : DJob) (s : JobSm j) (J : JobOk j) (c : Int) (t : Nat) (ht : t < j.2.2.2.2.1.toNat) : ∀ (n : Nat) (w : List Int), PlanOk j (c, w, ()) → (∀ m, w.getD m 0 ≤ (t : Int)) → w.countP (fun x => decide (x < 0)) = n → ∃ w',
    impl_ConePlan_l1 (t : Int) j.1 j.2.1 j.2.2.1 j.2.2.2.1.1 j.2.2.2.1.2.1 j.2.2.2.2.1 j.2.2.2.2.2.1 j.2.2.2.2.2.2.1 c w = some w' ∧ spec_ConePlan_l1 (t : Int) j.1 j.2.1 j.2.2.1 j.2.2.2.1.1 j.2.2.2.1.2.1 j.2.2.2.2.1 j.2.2.2.2.2.1 j.2.2.2.2.2.2.1 c w = some w' ∧ PlanOk j (c, w', ()) ∧ (∀ m, w'.getD m 0 ≤ (t : Int)) := by
  intro n
  induction n using Nat.strongRecOn with
  | ind n ih =>
    intro w Q hwt hc
    have hlen : w.length = j.1.length := Q.len
    have hper := J.per
    obtain ⟨B, g1, g2, K⟩ := cone_inner j s J c w Q t ht hwt 0 (Nat.zero_le _) 0 [] ⟨List.nodup_nil, by simp, by simp, by simp⟩
    have g1 : impl_ConePlan_l2 (t : Int) (w.length : Int) j.1 j.2.1 j.2.2.1 j.2.2.2.1.1 j.2.2.2.1.2.1 j.2.2.2.2.1 j.2.2.2.2.2.1 j.2.2.2.2.2.2.1 c w 0 0 [] = some B := g1
    have g2 : spec_ConePlan_l2 (t : Int) (j.2.2.1.length : Int) j.1 j.2.1 j.2.2.1 j.2.2.2.1.1 j.2.2.2.1.2.1 j.2.2.2.2.1 j.2.2.2.2.2.1 j.2.2.2.2.2.2.1 c w 0 0 [] = some B := g2
    have hBl := K.len
    rw [impl_ConePlan_l1_eq, spec_ConePlan_l1_eq]; unfold impl_ConePlan_l1K spec_ConePlan_l1K
    simp only [g1, g2, Option.bind_some, len_beq]
    by_cases e : B = []
    · simp only [e, decide_true, cond_true]
      exact ⟨w, rfl, rfl, Q, hwt⟩
    · simp only [e, decide_false, cond_false]
      have hl := cone_set (t : Int) B (by omega) j.1.length (fun b hb => ⟨(K.mem b hb).1, (K.mem b hb).2.1⟩) 0 (Nat.zero_le _) w hlen
      have h1 : impl_ConePlan_l3 (t : Int) (B.length : Int) B 0 w = some (setAll B (t : Int) w) := hl.1
      have h2 : spec_ConePlan_l3 (t : Int) (B.length : Int) B 0 w = some (setAll B (t : Int) w) := hl.2
      simp only [h1, h2, Option.bind_some]
      refine ih _ ?_ (setAll B (t : Int) w) (setAll_ok (by omega) (by omega) B w Q) (fun m => ?_) rfl
      · cases B with
        | nil => exact absurd rfl e
        | cons b B =>
          have hm := K.mem b (List.mem_cons_self ..)
          have hb : b.toNat < w.length := by omega
          have hg : w.getD b.toNat 0 = w[b.toNat] := by simp [hb]
          have hneg := hm.2.2
          rw [hg] at hneg
          have ct : ¬ ((t : Int) < 0) := by omega
          have hpos : 0 < w.countP (fun x => decide (x < 0)) := List.countP_pos_iff.2 ⟨w[b.toNat], List.getElem_mem hb, by simpa using hneg⟩
          have hle := count_le (t : Int) (by omega) B (w.set b.toNat (t : Int))
          rw [List.countP_set hb] at hle
          simp only [hneg, ct, decide_true, decide_false, if_true] at hle
          show (setAll B (t : Int) (w.set b.toNat (t : Int))).countP _ < n
          simp at hle
          omega
      · by_cases hm : m < w.length
        · rw [setAll_get _ _ _ _ hm]
          split
          · exact Int.le_refl _
          · exact hwt m
        · have : (setAll B (t : Int) w).getD m 0 = 0 := by
            have : (setAll B (t : Int) w).length ≤ m := by rw [setAll_len]; omega
            simp [List.getElem?_eq_none this]
          omega
theorem cone_outer (j : DJob) (s : JobSm j) (J : JobOk j) (c : Int) : ∀ t, t ≤ j.2.2.2.2.1.toNat → ∀ w : List Int, PlanOk j (c, w, ()) → (∀ m, w.getD m 0 ≤ (t : Int)) → ∃ w',
    impl_ConePlan_l0 j.1 j.2.1 j.2.2.1 j.2.2.2.1.1 j.2.2.2.1.2.1 j.2.2.2.2.1 j.2.2.2.2.2.1 j.2.2.2.2.2.2.1 c (t : Int) w = some w' ∧ spec_ConePlan_l0 j.1 j.2.1 j.2.2.1 j.2.2.2.1.1 j.2.2.2.1.2.1 j.2.2.2.2.1 j.2.2.2.2.2.1 j.2.2.2.2.2.2.1 c (t : Int) w = some w' ∧ w'.length ≤ 1048576 := by
  have hper := J.per
  have hn2 := J.n2
  refine down (fun w Q hwt => ?_) fun t ht ih w Q hwt => ?_
  · have hlen : w.length = j.1.length := Q.len
    rw [impl_ConePlan_l0_eq, spec_ConePlan_l0_eq]; unfold impl_ConePlan_l0K spec_ConePlan_l0K
    have c1 : ¬ ((j.2.2.2.2.1.toNat : Nat) : Int) < j.2.2.2.2.1 := by omega
    simp only [c1, decide_false, cond_false]
    exact ⟨w, rfl, rfl, by omega⟩
  · obtain ⟨w1, g1, g2, g3, g4⟩ := cone_mid j s J c t ht _ w Q hwt rfl
    rw [impl_ConePlan_l0_eq, spec_ConePlan_l0_eq]; unfold impl_ConePlan_l0K spec_ConePlan_l0K
    have c1 : (t : Int) < j.2.2.2.2.1 := by omega
    rw [wr_succ ht (by omega)]
    simp only [c1, decide_true, cond_true, g1, g2, Option.bind_some]
    exact ih w1 g3 fun m => by have := g4 m; omega
theorem ConePlan_law (x0 : DJob) (w0 : TJob.wf x0) : laws_FnExactConePlan x0 = some true := by
  unfold laws_FnExactConePlan laws_FnExactConePlanK
  refine job_head x0 w0 fun s y1 hy0 hy1 => ?_
  obtain ⟨v, h1, h2, h3⟩ : ∃ v, impl_ConePlan x0 = some v ∧ spec_ConePlan x0 = some v ∧ v.1.2.length ≤ 1048576 := by
    unfold impl_ConePlan impl_ConePlanK spec_ConePlan spec_ConePlanK
    rw [IsJob_ok x0 s, plJob_ok x0 s]
    cases hk : jobB x0 with
    | false => exact ⟨_, rfl, rfl, by simp⟩
    | true =>
      have J := jobB_spec hk
      obtain ⟨w', g1, g2, g3⟩ := cone_outer x0 s J x0.2.2.2.2.1 0 (Nat.zero_le _) _ (emptyOk x0 J) fun m => by
        by_cases hm : m < x0.1.length
        · have : (List.replicate x0.1.length (-1 : Int)).getD m 0 = -1 := by simp [hm]
          omega
        · have : (List.replicate x0.1.length (-1 : Int)).getD m 0 = 0 := by simp [hm]
          omega
      have g1 : impl_ConePlan_l0 x0.1 x0.2.1 x0.2.2.1 x0.2.2.2.1.1 x0.2.2.2.1.2.1 x0.2.2.2.2.1 x0.2.2.2.2.2.1 x0.2.2.2.2.2.2.1 x0.2.2.2.2.1 0 (List.replicate x0.1.length (-1)) = some w' := g1
      have g2 : spec_ConePlan_l0 x0.1 x0.2.1 x0.2.2.1 x0.2.2.2.1.1 x0.2.2.2.1.2.1 x0.2.2.2.2.1 x0.2.2.2.2.2.1 x0.2.2.2.2.2.2.1 x0.2.2.2.2.1 0 (List.replicate x0.1.length (-1)) = some w' := g2
      obtain ⟨e1, e2⟩ := emptyPlan_ok x0 J
      simp only [Bool.not_true, cond_false, Option.bind_some, e1, e2, g1, g2]
      exact ⟨_, rfl, rfl, g3⟩
  obtain ⟨⟨c, w⟩, ok⟩ := v
  dsimp only at h3
  obtain ⟨k', m1, m2, m3⟩ := markJob_ok x0 s 1 (by omega) (by omega)
  obtain ⟨l2, o1, o2, o3⟩ := markPlan_ok c w h3 1 (by omega) (by omega)
  have c1 : ¬ k' < 0 := by omega
  have c2 : ¬ 1 + (w.length : Int) < 0 := by omega
  have er := eqPlan_refl (c, w, ()) h3
  simp only [toJob_ok x0 s, Option.bind_some, jobEta, planEta, h1, h2, er, eqJob_refl x0 s, m1, o1, o3, c1, c2]
  simp
end
end Go.OAI
