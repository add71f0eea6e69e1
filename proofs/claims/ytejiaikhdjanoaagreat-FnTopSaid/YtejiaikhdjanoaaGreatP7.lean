/- Templates, slopes and arcs in plain words. -/
import Derived.Test.YtejiaikhdjanoaaGreatP6
import Derived.Test.YtejiaikhdjanoaaGreatGS
import Derived.Test.YtejiaikhdjanoaaGreatGC
import Derived.Test.YtejiaikhdjanoaaGreatP5
namespace Go.OAI
set_option linter.unusedVariables false
noncomputable section
def tmpl (k : Int) : List DGrid :=
  if k = 1 then [(0, 0, 1, ())]
  else if k = 2 then [(0, -1, 1, ()), (-1, 0, 1, ()), (0, 0, 1, ()), (1, 0, 1, ()), (0, 1, 1, ())]
  else if k = 3 then [(-1, -1, 1, ()), (0, -1, 1, ()), (1, -1, 1, ()), (-1, 0, 1, ()), (0, 0, 1, ()), (1, 0, 1, ()), (-1, 1, 1, ()), (0, 1, 1, ()), (1, 1, 1, ())]
  else [(0, -1, 1, ()), (-1, 0, 1, ()), (0, 0, 1, ()), (1, 0, 1, ()), (0, 1, 1, ()), (0, -2, 2, ()), (-2, 0, 2, ()), (2, 0, 2, ()), (0, 2, 2, ())]
def preT (k up dy : Int) : List DGrid := (tmpl k).filter fun o => decide (o.2.2.1 < up) || (o.2.2.1 == up && decide (o.2.1 < dy))
theorem tI2 : ∀ k ∈ [(1 : Int), 2, 3, 4], ∀ up ∈ [(1 : Int), 2], ∀ dy ∈ [(-2 : Int), -1, 0, 1, 2], iter (fun r (x : Int × List DGrid) => impl_TemplateOf_l2K k up dy (fun a3 a4 => r (a3, a4)) some x.1 x.2) 6 (-2, preT k up dy) = some (preT k up (dy + 1)) := by decide +kernel
theorem tS2 : ∀ k ∈ [(1 : Int), 2, 3, 4], ∀ up ∈ [(1 : Int), 2], ∀ dy ∈ [(-2 : Int), -1, 0, 1, 2], iter (fun r (x : Int × List DGrid) => spec_slStandard_l2K k up dy (fun a3 a4 => r (a3, a4)) some x.1 x.2) 6 (-2, preT k up dy) = some (preT k up (dy + 1)) := by decide +kernel
theorem tmpl_i (k : Int) (hk : 1 ≤ k ∧ k ≤ 4) : impl_TemplateOf k = some (tmpl k, true) := by
  have hm : k ∈ [(1 : Int), 2, 3, 4] := by simp; omega
  have l2 : ∀ up ∈ [(1 : Int), 2], ∀ dy ∈ [(-2 : Int), -1, 0, 1, 2], impl_TemplateOf_l2 k up dy (-2) (preT k up dy) = some (preT k up (dy + 1)) := fun up hu dy hd => lim_of (fun x => CtI.ok (by unfold impl_TemplateOf_l2K; repeat' (first | constructor | intro _))) (tI2 k hm up hu dy hd)
  have l1 : ∀ up ∈ [(1 : Int), 2], impl_TemplateOf_l1 k up (-2) (preT k up (-2)) = some (preT k up 3) := fun up hu => by
    rw [impl_TemplateOf_l1_eq]; show ((impl_TemplateOf_l2 k up (-2) (-2) _).bind fun y => impl_TemplateOf_l1 k up (-1) y) = _; rw [l2 up hu _ (by simp)]
    show impl_TemplateOf_l1 k up (-1) _ = _
    rw [impl_TemplateOf_l1_eq]; show ((impl_TemplateOf_l2 k up (-1) (-2) _).bind fun y => impl_TemplateOf_l1 k up 0 y) = _; erw [l2 up hu (-1) (by simp)]
    show impl_TemplateOf_l1 k up 0 _ = _
    rw [impl_TemplateOf_l1_eq]; show ((impl_TemplateOf_l2 k up 0 (-2) _).bind fun y => impl_TemplateOf_l1 k up 1 y) = _; erw [l2 up hu 0 (by simp)]
    show impl_TemplateOf_l1 k up 1 _ = _
    rw [impl_TemplateOf_l1_eq]; show ((impl_TemplateOf_l2 k up 1 (-2) _).bind fun y => impl_TemplateOf_l1 k up 2 y) = _; erw [l2 up hu 1 (by simp)]
    show impl_TemplateOf_l1 k up 2 _ = _
    rw [impl_TemplateOf_l1_eq]; show ((impl_TemplateOf_l2 k up 2 (-2) _).bind fun y => impl_TemplateOf_l1 k up 3 y) = _; erw [l2 up hu 2 (by simp)]
    show impl_TemplateOf_l1 k up 3 _ = _
    rw [impl_TemplateOf_l1_eq]; rfl
  have e : ∀ k ∈ [(1 : Int), 2, 3, 4], preT k 1 (-2) = [] ∧ preT k 1 3 = preT k 2 (-2) ∧ preT k 2 3 = tmpl k := by decide +kernel
  obtain ⟨e1, e2, e3⟩ := e k hm
  have l0 : impl_TemplateOf_l0 k 1 [] = some (tmpl k) := by
    rw [← e1, impl_TemplateOf_l0_eq]; show ((impl_TemplateOf_l1 k 1 (-2) _).bind fun y => impl_TemplateOf_l0 k 2 y) = _; rw [l1 1 (by simp), e2]
    show impl_TemplateOf_l0 k 2 _ = _
    rw [impl_TemplateOf_l0_eq]; show ((impl_TemplateOf_l1 k 2 (-2) _).bind fun y => impl_TemplateOf_l0 k 3 y) = _; rw [l1 2 (by simp), e3]
    show impl_TemplateOf_l0 k 3 _ = _
    rw [impl_TemplateOf_l0_eq]; rfl
  unfold impl_TemplateOf impl_TemplateOfK
  have c1 : ¬ k < 1 := by omega
  have c2 : ¬ k > 4 := by omega
  simp only [c1, c2, decide_false, cond_false, l0, Option.bind_some]
theorem tmpl_s (k : Int) (hk : 1 ≤ k ∧ k ≤ 4) : spec_slStandard k = some (tmpl k) := by
  have hm : k ∈ [(1 : Int), 2, 3, 4] := by simp; omega
  have l2 : ∀ up ∈ [(1 : Int), 2], ∀ dy ∈ [(-2 : Int), -1, 0, 1, 2], spec_slStandard_l2 k up dy (-2) (preT k up dy) = some (preT k up (dy + 1)) := fun up hu dy hd => lim_of (fun x => CtI.ok (by unfold spec_slStandard_l2K; repeat' (first | constructor | intro _))) (tS2 k hm up hu dy hd)
  have l1 : ∀ up ∈ [(1 : Int), 2], spec_slStandard_l1 k up (-2) (preT k up (-2)) = some (preT k up 3) := fun up hu => by
    rw [spec_slStandard_l1_eq]; show ((spec_slStandard_l2 k up (-2) (-2) _).bind fun y => spec_slStandard_l1 k up (-1) y) = _; rw [l2 up hu _ (by simp)]
    show spec_slStandard_l1 k up (-1) _ = _
    rw [spec_slStandard_l1_eq]; show ((spec_slStandard_l2 k up (-1) (-2) _).bind fun y => spec_slStandard_l1 k up 0 y) = _; erw [l2 up hu (-1) (by simp)]
    show spec_slStandard_l1 k up 0 _ = _
    rw [spec_slStandard_l1_eq]; show ((spec_slStandard_l2 k up 0 (-2) _).bind fun y => spec_slStandard_l1 k up 1 y) = _; erw [l2 up hu 0 (by simp)]
    show spec_slStandard_l1 k up 1 _ = _
    rw [spec_slStandard_l1_eq]; show ((spec_slStandard_l2 k up 1 (-2) _).bind fun y => spec_slStandard_l1 k up 2 y) = _; erw [l2 up hu 1 (by simp)]
    show spec_slStandard_l1 k up 2 _ = _
    rw [spec_slStandard_l1_eq]; show ((spec_slStandard_l2 k up 2 (-2) _).bind fun y => spec_slStandard_l1 k up 3 y) = _; erw [l2 up hu 2 (by simp)]
    show spec_slStandard_l1 k up 3 _ = _
    rw [spec_slStandard_l1_eq]; rfl
  have e : ∀ k ∈ [(1 : Int), 2, 3, 4], preT k 1 (-2) = [] ∧ preT k 1 3 = preT k 2 (-2) ∧ preT k 2 3 = tmpl k := by decide +kernel
  obtain ⟨e1, e2, e3⟩ := e k hm
  have l0 : spec_slStandard_l0 k 1 [] = some (tmpl k) := by
    rw [← e1, spec_slStandard_l0_eq]; show ((spec_slStandard_l1 k 1 (-2) _).bind fun y => spec_slStandard_l0 k 2 y) = _; rw [l1 1 (by simp), e2]
    show spec_slStandard_l0 k 2 _ = _
    rw [spec_slStandard_l0_eq]; show ((spec_slStandard_l1 k 2 (-2) _).bind fun y => spec_slStandard_l0 k 3 y) = _; rw [l1 2 (by simp), e3]
    show spec_slStandard_l0 k 3 _ = _
    rw [spec_slStandard_l0_eq]; rfl
  unfold spec_slStandard spec_slStandardK
  rw [l0]; rfl
def bef (a b : DGrid) : Bool := decide (a.2.2.1 < b.2.2.1) || (decide (a.2.2.1 = b.2.2.1) && (decide (a.2.1 < b.2.1) || (decide (a.2.1 = b.2.1) && decide (a.1 < b.1))))
def offB (t : List DGrid) (i : Nat) (o : DGrid) : Bool := decide (-2 ≤ o.1) && (decide (o.1 ≤ 2) && (decide (-2 ≤ o.2.1) && (decide (o.2.1 ≤ 2) && (decide (1 ≤ o.2.2.1) && (decide (o.2.2.1 ≤ 2) && (decide (i = 0) || bef (t.getD (i - 1) (0, 0, 0, ())) o))))))
theorem Compare_ok (x y : Int) : cmp_Compare_int x y = some (if x < y then -1 else if x > y then 1 else 0) := by
  unfold cmp_Compare_int cmp_Compare_intK cmp_isNaN_int cmp_isNaN_intK
  by_cases h1 : x < y
  · simp [h1]
  · by_cases h2 : x > y
    · simp [h1, h2]
    · simp [h1, h2]
theorem Or_ok (a b c : Int) : cmp_Or_int [a, b, c] = some (if a ≠ 0 then a else if b ≠ 0 then b else c) := by
  unfold cmp_Or_int cmp_Or_intK
  have h3 : cmp_Or_int_l0 0 [a, b, c] 3 3 = some (.inr ()) := by
    rw [cmp_Or_int_l0_eq]; rfl
  have h2 : cmp_Or_int_l0 0 [a, b, c] 3 2 = some (if c ≠ 0 then .inl c else .inr ()) := by
    rw [cmp_Or_int_l0_eq]
    show cond (c != 0) (some (.inl c)) (cmp_Or_int_l0 0 [a, b, c] 3 3) = _
    rw [h3]; by_cases h : c = 0 <;> simp [h, bne_dec]
  have h1 : cmp_Or_int_l0 0 [a, b, c] 3 1 = some (if b ≠ 0 then .inl b else if c ≠ 0 then .inl c else .inr ()) := by
    rw [cmp_Or_int_l0_eq]
    show cond (b != 0) (some (.inl b)) (cmp_Or_int_l0 0 [a, b, c] 3 2) = _
    rw [h2]; by_cases h : b = 0 <;> simp [h, bne_dec]
  have h0 : cmp_Or_int_l0 0 [a, b, c] 3 0 = some (if a ≠ 0 then .inl a else if b ≠ 0 then .inl b else if c ≠ 0 then .inl c else .inr ()) := by
    rw [cmp_Or_int_l0_eq]
    show cond (a != 0) (some (.inl a)) (cmp_Or_int_l0 0 [a, b, c] 3 1) = _
    rw [h1]; by_cases h : a = 0 <;> simp [h, bne_dec]
  show ((cmp_Or_int_l0 0 [a, b, c] 3 0).bind _) = _
  rw [h0]
  by_cases ha : a = 0 <;> by_cases hb : b = 0 <;> by_cases hc : c = 0 <;> simp [ha, hb, hc, sumO]
theorem cmpOff_ok (a b : DGrid) : ∃ v, impl_compareOffsets a b = some v ∧ decide (v ≥ 0) = !bef a b := by
  unfold impl_compareOffsets impl_compareOffsetsK
  simp only [Compare_ok, Option.bind_some, Or_ok]
  refine ⟨_, rfl, ?_⟩
  unfold bef
  by_cases h1 : a.2.2.1 < b.2.2.1
  · simp [h1]
  · by_cases h2 : a.2.2.1 > b.2.2.1
    · have : ¬ a.2.2.1 = b.2.2.1 := by omega
      simp [h1, h2, this]
    · have : a.2.2.1 = b.2.2.1 := by omega
      by_cases h3 : a.2.1 < b.2.1
      · simp [h1, h2, h3, this]
      · by_cases h4 : a.2.1 > b.2.1
        · have h5 : ¬ a.2.1 = b.2.1 := by omega
          simp [h1, h2, h3, h4, h5, this]
        · have h5 : a.2.1 = b.2.1 := by omega
          by_cases h6 : a.1 < b.1
          · simp [h1, h2, h3, h4, h5, h6, this]
          · by_cases h7 : a.1 > b.1
            · simp [h1, h2, h3, h4, h5, h6, h7, this]
            · simp [h1, h2, h3, h4, h5, h6, h7, this]
theorem slBefore_ok (a b : DGrid) : spec_slBefore a b = some (bef a b) := by
  unfold spec_slBefore spec_slBeforeK bef
  simp only [bne_dec]
  by_cases h1 : a.2.2.1 = b.2.2.1
  · have : ¬ a.2.2.1 < b.2.2.1 := by omega
    by_cases h2 : a.2.1 = b.2.1
    · have h3 : ¬ a.2.1 < b.2.1 := by omega
      simp [h1, h2]
    · simp [h1, h2]
  · simp [h1]
theorem tmplI (t : List DGrid) (hl : 1 ≤ t.length ∧ t.length ≤ 12) (ht : allI (offB t) t = true) : impl_IsTemplate t = some true ∧ spec_slTemplate t = some true := by
  constructor
  · unfold impl_IsTemplate impl_IsTemplateK
    have h : impl_IsTemplate_l0 t t (t.length : Int) 0 = some (if allI (offB t) t then .inr () else .inl false) := by
      refine allI_loop (f := fun i => impl_IsTemplate_l0 t t (t.length : Int) i) ?_ fun i hi => ?_
      · show impl_IsTemplate_l0 _ _ _ _ = _
        rw [impl_IsTemplate_l0_eq]; unfold impl_IsTemplate_l0K
        rw [lt_out (Nat.le_refl _)]
      · show impl_IsTemplate_l0 _ _ _ _ = _
        rw [impl_IsTemplate_l0_eq]; unfold impl_IsTemplate_l0K
        rw [loop_step hi, wr_succ hi (by omega)]
        simp only [dec_lt, dec_gt, offB]
        by_cases h1 : -2 ≤ t[i].1
        · by_cases h2 : t[i].1 ≤ 2
          · by_cases h3 : -2 ≤ t[i].2.1
            · by_cases h4 : t[i].2.1 ≤ 2
              · by_cases h5 : 1 ≤ t[i].2.2.1
                · by_cases h6 : t[i].2.2.1 ≤ 2
                  · by_cases h7 : i = 0
                    · subst h7; simp [h1, h2, h3, h4, h5, h6]
                    · have c : ¬ (i : Int) ≤ 0 := by omega
                      have w : IntKind.i64.wrap ((i : Int) - 1) = ((i - 1 : Nat) : Int) := by rw [wr (by omega) (by omega)]; omega
                      have hi1 : i - 1 < t.length := by omega
                      obtain ⟨v, e1, e2⟩ := cmpOff_ok t[i - 1] t[i]
                      simp only [h1, h2, h3, h4, h5, h6, h7, c, w, lat_nat hi1, Option.bind_some, e1, e2, decide_true, decide_false, Bool.not_true, Bool.not_false, cond_true, cond_false, Bool.true_and, Bool.false_or, List.getD_eq_getElem?_getD, List.getElem?_eq_getElem hi1, Option.getD_some]
                      cases bef t[i - 1] t[i] <;> rfl
                  · simp [h1, h2, h3, h4, h5, h6]
                · simp [h1, h2, h3, h4, h5]
              · simp [h1, h2, h3, h4]
            · simp [h1, h2, h3]
          · simp [h1, h2]
        · simp [h1]
    have c1 : ¬ (t.length : Int) < 1 := by omega
    have c2 : ¬ (t.length : Int) > 12 := by omega
    rw [h, ht]
    simp only [c1, c2, decide_false, cond_false]; rfl
  · unfold spec_slTemplate spec_slTemplateK
    have h : spec_slTemplate_l0 t t (t.length : Int) 0 = some (if allI (offB t) t then .inr () else .inl false) := by
      refine allI_loop (f := fun i => spec_slTemplate_l0 t t (t.length : Int) i) ?_ fun i hi => ?_
      · show spec_slTemplate_l0 _ _ _ _ = _
        rw [spec_slTemplate_l0_eq]; unfold spec_slTemplate_l0K
        rw [lt_out (Nat.le_refl _)]
      · show spec_slTemplate_l0 _ _ _ _ = _
        rw [spec_slTemplate_l0_eq]; unfold spec_slTemplate_l0K
        rw [loop_step hi, wr_succ hi (by omega)]
        simp only [l1In_ok, Option.bind_some, offB]
        by_cases h1 : -2 ≤ t[i].1
        · by_cases h2 : t[i].1 ≤ 2
          · by_cases h3 : -2 ≤ t[i].2.1
            · by_cases h4 : t[i].2.1 ≤ 2
              · by_cases h5 : 1 ≤ t[i].2.2.1
                · by_cases h6 : t[i].2.2.1 ≤ 2
                  · by_cases h7 : i = 0
                    · subst h7; simp [h1, h2, h3, h4, h5, h6]
                    · have c : (i : Int) > 0 := by omega
                      have w : IntKind.i64.wrap ((i : Int) - 1) = ((i - 1 : Nat) : Int) := by rw [wr (by omega) (by omega)]; omega
                      have hi1 : i - 1 < t.length := by omega
                      simp only [h1, h2, h3, h4, h5, h6, h7, c, w, lat_nat hi1, Option.bind_some, slBefore_ok, decide_true, decide_false, Bool.not_true, Bool.not_false, cond_true, cond_false, Bool.true_and, Bool.false_or, Bool.and_self, List.getD_eq_getElem?_getD, List.getElem?_eq_getElem hi1, Option.getD_some]
                      cases bef t[i - 1] t[i] <;> rfl
                  · simp [h1, h2, h3, h4, h5, h6]
                · simp [h1, h2, h3, h4, h5]
              · simp [h1, h2, h3, h4]
            · simp [h1, h2, h3]
          · simp [h1, h2]
        · simp [h1]
    have c1 : 1 ≤ (t.length : Int) := by omega
    have c2 : (t.length : Int) ≤ 12 := by omega
    rw [h, ht]
    simp only [if_true, Option.bind_some, l1In_ok, sumO, c1, c2, decide_true, Bool.and_self]
theorem tmpl_good (k : Int) (hk : 1 ≤ k ∧ k ≤ 4) : (1 ≤ (tmpl k).length ∧ (tmpl k).length ≤ 12) ∧ allI (offB (tmpl k)) (tmpl k) = true ∧ (tmpl k).Nodup ∧ ∀ o ∈ tmpl k, 1 ≤ o.2.2.1 := by
  have h : ∀ k ∈ [(1 : Int), 2, 3, 4], (1 ≤ (tmpl k).length ∧ (tmpl k).length ≤ 12) ∧ allI (offB (tmpl k)) (tmpl k) = true ∧ (tmpl k).Nodup ∧ ∀ o ∈ tmpl k, 1 ≤ o.2.2.1 := by decide +kernel
  exact h k (by simp; omega)
def slp (g : DGrid) (k : Int) : DSlopes := (List.replicate (g.1 * g.2.1).toNat 0, [tmpl k], ())
theorem wr_xy {g : DGrid} (G : GridIn g) : IntKind.i64.wrap (g.1 * g.2.1) = g.1 * g.2.1 ∧ 0 ≤ g.1 * g.2.1 ∧ g.1 * g.2.1 ≤ 48 := by
  have h1 := G.x; have h2 := G.y
  have h7 := mul_le (a := g.1) (b := g.2.1) (x := 8) (y := 6) (by omega) (by omega) (by omega) (by omega)
  have h0 : 0 ≤ g.1 * g.2.1 := Int.mul_nonneg (by omega) (by omega)
  exact ⟨wr (by omega) (by omega), h0, by omega⟩
theorem slopes_both (g : DGrid) (k : Int) (hk : 1 ≤ k ∧ k ≤ 4) (G : gridB g = true) : impl_UniformSlopes g k = some (((slp g k).1, (slp g k).2.1), true) ∧ spec_UniformSlopes g k = some (((slp g k).1, (slp g k).2.1), true) := by
  obtain ⟨w1, w2, w3⟩ := wr_xy (gridB_in G)
  have c : (decide ((0 : Int) ≤ g.1 * g.2.1) && (decide (g.1 * g.2.1 ≤ g.1 * g.2.1) && decide (g.1 * g.2.1 ≤ 1099511627776))) = true := by
    have : g.1 * g.2.1 ≤ 1099511627776 := by omega
    simp [w2, this]
  constructor
  · unfold impl_UniformSlopes impl_UniformSlopesK
    rw [tmpl_i k hk, IsGrid_ok, G, w1]
    simp only [Option.bind_some, Bool.not_true, cond_false, c, cond_true]
    rfl
  · unfold spec_UniformSlopes spec_UniformSlopesK spec_slUniform spec_slUniformK
    rw [tmpl_s k hk, grGood_ok, G, w1, l1In_ok]
    simp only [Option.bind_some, Bool.not_true, cond_false, c, cond_true, hk.1, hk.2, decide_true, Bool.and_self]
    rfl
theorem slopes_none (g : DGrid) (k : Int) (hk : 1 ≤ k ∧ k ≤ 4) (G : gridB g = false) : impl_UniformSlopes g k = some (([], []), false) ∧ impl_ArcsOf g ([], [], ()) = some ([], false) := by
  unfold impl_UniformSlopes impl_UniformSlopesK impl_ArcsOf impl_ArcsOfK
  rw [tmpl_i k hk, IsGrid_ok, G]
  exact ⟨rfl, rfl⟩
theorem areSlopes_both (g : DGrid) (k : Int) (hk : 1 ≤ k ∧ k ≤ 4) (G : gridB g = true) : impl_areSlopes g (slp g k) = some true ∧ spec_slBoth g (slp g k) = some true := by
  obtain ⟨w1, w2, w3⟩ := wr_xy (gridB_in G)
  obtain ⟨t1, t2, _⟩ := tmpl_good k hk
  obtain ⟨i1, i2⟩ := tmplI (tmpl k) t1 t2
  have hl : (slp g k).1.length = (g.1 * g.2.1).toNat := by simp [slp]
  have hn : ((slp g k).1.length : Int) = g.1 * g.2.1 := by omega
  have hz : inB 0 0 (slp g k).1 = true := by
    unfold inB slp
    rw [List.all_eq_true]
    intro x hx
    rw [List.eq_of_mem_replicate hx]; rfl
  constructor
  · unfold impl_areSlopes impl_areSlopesK
    have e0 : impl_areSlopes_l0 (slp g k).2.1 ((slp g k).2.1.length : Int) 0 = some (.inr ()) := by
      have z0 : lat (slp g k).2.1 0 = some (tmpl k) := rfl
      rw [impl_areSlopes_l0_eq]; unfold impl_areSlopes_l0K
      rw [z0, Option.bind_some, i1]
      show impl_areSlopes_l0 (slp g k).2.1 ((slp g k).2.1.length : Int) 1 = _
      rw [impl_areSlopes_l0_eq]; rfl
    have e1 : impl_areSlopes_l1 (slp g k).1 ((slp g k).1.length : Int) (slp g k).2.1 0 = some (if inB 0 0 (slp g k).1 then .inr () else .inl false) := by
      refine allL_loop (f := fun i => impl_areSlopes_l1 (slp g k).1 ((slp g k).1.length : Int) (slp g k).2.1 i) ?_ fun i hi => ?_
      · show impl_areSlopes_l1 _ _ _ _ = _
        rw [impl_areSlopes_l1_eq]; unfold impl_areSlopes_l1K
        rw [lt_out (Nat.le_refl _)]
      · show impl_areSlopes_l1 _ _ _ _ = _
        rw [impl_areSlopes_l1_eq]; unfold impl_areSlopes_l1K
        rw [loop_step hi, wr_succ hi (by omega)]
        have e : ((slp g k).2.1.length : Int) = 1 := rfl
        rw [e]
        have d : ∀ x : Int, decide (x ≥ 1) = !decide (x ≤ 0) := fun x => by
          by_cases h : x ≤ 0
          · have : ¬ x ≥ 1 := by omega
            simp [h, this]
          · have : x ≥ 1 := by omega
            simp [h, this]
        simp only [dec_lt, d]
        by_cases h1 : 0 ≤ (slp g k).1[i] <;> by_cases h2 : (slp g k).1[i] ≤ 0 <;> simp [h1, h2]
    rw [e0, e1, hz, w1, hn]
    simp [slp, sumO]
  · unfold spec_slBoth spec_slBothK spec_slGood spec_slGoodK
    have e0 : spec_slGood_l0 (slp g k).2.1 ((slp g k).2.1.length : Int) 0 = some (.inr ()) := by
      have z0 : lat (slp g k).2.1 0 = some (tmpl k) := rfl
      rw [spec_slGood_l0_eq]; unfold spec_slGood_l0K
      rw [z0, Option.bind_some, i2]
      show spec_slGood_l0 (slp g k).2.1 ((slp g k).2.1.length : Int) 1 = _
      rw [spec_slGood_l0_eq]; rfl
    have e1 : IntKind.i64.wrap (((slp g k).2.1.length : Int) - 1) = 0 := rfl
    rw [grGood_ok, G, e0, w1, hn, e1, l1All_ok _ _ _ (by omega), hz]
    simp [l1In_ok, slp, sumO]
end
noncomputable section
def insL (n : Int) : List Int → List Int
  | [] => [n]
  | x :: r => if x < n then x :: insL n r else n :: x :: r
def idxL (n : Int) : List Int → Nat
  | [] => 0
  | x :: r => if x < n then idxL n r + 1 else 0
theorem idxL_le (n : Int) : ∀ l, idxL n l ≤ l.length
  | [] => Nat.le_refl _
  | x :: r => by
    unfold idxL; have := idxL_le n r
    split <;> simp only [List.length_cons] <;> omega
theorem insL_idx (n : Int) : ∀ l, l.take (idxL n l) ++ [n] ++ l.drop (idxL n l) = insL n l
  | [] => rfl
  | x :: r => by
    unfold idxL insL
    split
    · have := insL_idx n r
      simp only [List.take_succ_cons, List.drop_succ_cons, List.cons_append]
      rw [this]
    · rfl
theorem insL_perm (n : Int) : ∀ l, (insL n l).Perm (n :: l)
  | [] => .refl _
  | x :: r => by
    unfold insL
    split
    · exact ((insL_perm n r).cons x).trans (.swap n x r)
    · exact .refl _
theorem insL_sorted (n : Int) : ∀ l : List Int, l.Pairwise (· < ·) → n ∉ l → (insL n l).Pairwise (· < ·)
  | [], _, _ => by simp [insL]
  | x :: r, h, hn => by
    obtain ⟨h1, h2⟩ := List.pairwise_cons.1 h
    simp only [List.mem_cons, not_or] at hn
    unfold insL
    split
    · rename_i hx
      refine List.pairwise_cons.2 ⟨fun y hy => ?_, insL_sorted n r h2 hn.2⟩
      rcases List.mem_cons.1 ((insL_perm n r).mem_iff.1 hy) with rfl | hy
      · exact hx
      · exact h1 y hy
    · rename_i hx
      refine List.pairwise_cons.2 ⟨fun y hy => ?_, h⟩
      rcases List.mem_cons.1 hy with rfl | hy
      · have := hn.1; omega
      · have := h1 y hy; omega
theorem Put_loop (n : Int) (l : List Int) (hl : l.length ≤ 1000000) : ∀ i, i ≤ l.length → spec_l1Put_l0 l n (i : Int) = some ((i + idxL n (l.drop i) : Nat) : Int) := by
  refine down ?_ fun i hi ih => ?_
  · rw [spec_l1Put_l0_eq]; unfold spec_l1Put_l0K
    rw [lt_out (Nat.le_refl _), List.drop_length]; rfl
  · rw [spec_l1Put_l0_eq]; unfold spec_l1Put_l0K
    rw [loop_step hi, wr_succ hi (by omega), drop_cons hi]
    unfold idxL
    by_cases h : l[i] < n
    · simp only [h, decide_true, cond_true, if_true]
      rw [ih]; congr 2; omega
    · simp only [h, decide_false, cond_false, if_false]; rfl
theorem l1Put_ok (n : Int) (l : List Int) (hl : l.length ≤ 1000000) (hn : n ∉ l) : spec_l1Put l n = some (insL n l) := by
  unfold spec_l1Put spec_l1PutK
  have h := Put_loop n l hl 0 (Nat.zero_le _)
  rw [show ((0 : Nat) : Int) = 0 from rfl, List.drop_zero, Nat.zero_add] at h
  rw [h, Option.bind_some]
  have hk := idxL_le n l
  have hi := insL_idx n l
  generalize idxL n l = k at hk hi ⊢
  have e2 : ((l.length : Int)).toNat - k = (l.drop k).length := by rw [List.length_drop]; omega
  have e3 : ((k : Int)).toNat = k := by omega
  have c1 : (decide ((0 : Int) ≤ (k : Int)) && decide ((k : Int) ≤ (l.length : Int))) = true := by
    have : (k : Int) ≤ (l.length : Int) := by omega
    simp [this]
  have c2 : (decide ((0 : Int) ≤ (k : Int)) && (decide ((k : Int) ≤ (l.length : Int)) && decide ((l.length : Int) ≤ (l.length : Int)))) = true := by
    have : (k : Int) ≤ (l.length : Int) := by omega
    simp [this]
  have ht : (l.take k).length ≤ 1000000 := by rw [List.length_take]; omega
  have hd : (l.drop k).length ≤ 1000000 := by rw [List.length_drop]; omega
  have d1 : decide (([] : List Int).length + (l.take k).length ≤ 1099511627776) = true := decide_eq_true (by simp only [List.length_nil]; omega)
  have d2 : decide ((l.take k).length + [n].length ≤ 1099511627776) = true := decide_eq_true (by simp only [List.length_singleton]; omega)
  have d3 : decide ((l.take k ++ [n]).length + (l.drop k).length ≤ 1099511627776) = true := decide_eq_true (by simp only [List.length_append, List.length_singleton]; omega)
  simp only [e3, Nat.sub_zero, e2, c1, c2, List.drop_zero, List.nil_append, d1, d2, d3, cond_true, Option.bind_some, List.take_length, hi]
  by_cases hkl : k < l.length
  · have : (k : Int) < (l.length : Int) := by omega
    have hne : (l[k] == n) = false := by
      rw [beq_eq_false_iff_ne]
      exact fun e => hn (e ▸ List.getElem_mem hkl)
    simp only [this, decide_true, cond_true, lat_nat hkl, Option.bind_some, hne, cond_false]
  · have : ¬ (k : Int) < (l.length : Int) := by omega
    simp only [this, decide_false, cond_false]
theorem sorted_same {a b : List Int} (h1 : a.Pairwise (· < ·)) (h2 : a.Perm b) : (b.mergeSort fun x y => decide (x ≤ y)) = a := by
  refine List.Perm.eq_of_pairwise (le := fun x y : Int => x ≤ y) (fun x y _ _ p q => by omega) ?_ (h1.imp (by intro x y h; omega)) ((List.mergeSort_perm b _).trans h2.symm)
  have := List.pairwise_mergeSort (le := fun x y : Int => decide (x ≤ y)) (by intro x y z p q; simp at p q ⊢; omega) (by intro x y; simp; omega) b
  exact this.imp (by intro x y h; simpa using h)
def atG (g : DGrid) (x y z : Int) : Option Int :=
  if 0 ≤ x ∧ x < g.1 ∧ 0 ≤ y ∧ y < g.2.1 ∧ 0 ≤ z ∧ z < g.2.2.1 then some ((z * g.2.1 + y) * g.1 + x) else none
variable {g : DGrid}
theorem wr_at (G : GridIn g) {x y z : Int} (hx : 0 ≤ x ∧ x < g.1) (hy : 0 ≤ y ∧ y < g.2.1) (hz : 0 ≤ z ∧ z < g.2.2.1) :
    IntKind.i64.wrap (IntKind.i64.wrap (IntKind.i64.wrap (IntKind.i64.wrap (z * g.2.1) + y) * g.1) + x) = (z * g.2.1 + y) * g.1 + x := by
  have h1 := G.x; have h2 := G.y; have h3 := G.z
  have p1 := mul_le (a := z) (b := g.2.1) (x := 5) (y := 6) (by omega) (by omega) (by omega) (by omega)
  have p0 : 0 ≤ z * g.2.1 := Int.mul_nonneg (by omega) (by omega)
  have q1 := mul_le (a := z * g.2.1 + y) (b := g.1) (x := 36) (y := 8) (by omega) (by omega) (by omega) (by omega)
  have q0 : 0 ≤ (z * g.2.1 + y) * g.1 := Int.mul_nonneg (by omega) (by omega)
  rw [wr (n := z * g.2.1) (by omega) (by omega), wr (n := z * g.2.1 + y) (by omega) (by omega), wr (n := (z * g.2.1 + y) * g.1) (by omega) (by omega), wr (by omega) (by omega)]
theorem BlockAt_ok (hg : gridB g = true) (x y z : Int) : impl_BlockAt g x y z = some (match atG g x y z with | some k => (k, true) | none => (0, false)) := by
  have G := gridB_in hg
  unfold impl_BlockAt impl_BlockAtK atG
  rw [IsGrid_ok, hg]
  simp only [Option.bind_some, Bool.not_true, cond_false, dec_lt, dec_ge]
  by_cases h1 : 0 ≤ x
  · by_cases h2 : x < g.1
    · by_cases h3 : 0 ≤ y
      · by_cases h4 : y < g.2.1
        · by_cases h5 : 0 ≤ z
          · by_cases h6 : z < g.2.2.1
            · have c2 : ¬ g.1 ≤ x := by omega
              have c4 : ¬ g.2.1 ≤ y := by omega
              have c6 : ¬ g.2.2.1 ≤ z := by omega
              unfold impl_blockAt impl_blockAtK
              simp only [h1, h2, h3, h4, h5, h6, c2, c4, c6, decide_true, decide_false, Bool.not_true, cond_false, Option.bind_some, wr_at G ⟨h1, h2⟩ ⟨h3, h4⟩ ⟨h5, h6⟩, and_self, if_true]
            · have c2 : ¬ g.1 ≤ x := by omega
              have c4 : ¬ g.2.1 ≤ y := by omega
              have c6 : g.2.2.1 ≤ z := by omega
              simp [h1, h3, h5, h6, c2, c4, c6]
          · have c2 : ¬ g.1 ≤ x := by omega
            have c4 : ¬ g.2.1 ≤ y := by omega
            simp [h1, h3, h5, c2, c4]
        · have c2 : ¬ g.1 ≤ x := by omega
          have c4 : g.2.1 ≤ y := by omega
          simp [h1, h3, h4, c2, c4]
      · have c2 : ¬ g.1 ≤ x := by omega
        simp [h1, h3, c2]
    · have c2 : g.1 ≤ x := by omega
      simp [h1, h2, c2]
  · simp [h1]
theorem grAt_ok (hg : gridB g = true) (x y z : Int) : spec_grAt g x y z = some ((atG g x y z).getD (-1)) := by
  have G := gridB_in hg
  unfold spec_grAt spec_grAtK atG
  have g1 := G.x; have g2 := G.y; have g3 := G.z
  rw [wr (n := g.1 - 1) (by omega) (by omega), wr (n := g.2.1 - 1) (by omega) (by omega), wr (n := g.2.2.1 - 1) (by omega) (by omega)]
  simp only [l1In_ok, Option.bind_some]
  have d : ∀ a b : Int, decide (a ≤ b - 1) = decide (a < b) := fun a b => by
    by_cases h : a < b
    · have : a ≤ b - 1 := by omega
      simp [h, this]
    · have : ¬ a ≤ b - 1 := by omega
      simp [h, this]
  simp only [d]
  by_cases h1 : 0 ≤ x
  · by_cases h2 : x < g.1
    · by_cases h3 : 0 ≤ y
      · by_cases h4 : y < g.2.1
        · by_cases h5 : 0 ≤ z
          · by_cases h6 : z < g.2.2.1
            · simp [h1, h2, h3, h4, h5, h6, wr_at G ⟨h1, h2⟩ ⟨h3, h4⟩ ⟨h5, h6⟩]
            · simp [h1, h2, h3, h4, h5, h6]
          · simp [h1, h2, h3, h4, h5]
        · simp [h1, h2, h3, h4]
      · simp [h1, h2, h3]
    · simp [h1, h2]
  · simp [h1]
theorem atG_inj (G : GridIn g) {x y z x' y' z' k : Int} (h : atG g x y z = some k) (h' : atG g x' y' z' = some k) : x = x' ∧ y = y' ∧ z = z' := by
  unfold atG at h h'
  split at h
  · split at h'
    · rename_i a b
      have e := Option.some.inj h
      have e' := Option.some.inj h'
      have gx := G.x; have gy := G.y
      have p := (Int.ediv_emod_unique (a := k) (b := g.1) (r := x) (q := z * g.2.1 + y) (by omega)).2 ⟨by rw [← e, Int.mul_comm g.1]; omega, a.1, a.2.1⟩
      have p' := (Int.ediv_emod_unique (a := k) (b := g.1) (r := x') (q := z' * g.2.1 + y') (by omega)).2 ⟨by rw [← e', Int.mul_comm g.1]; omega, b.1, b.2.1⟩
      have q := (Int.ediv_emod_unique (a := k / g.1) (b := g.2.1) (r := y) (q := z) (by omega)).2 ⟨by rw [p.1, Int.mul_comm g.2.1]; omega, a.2.2.1, a.2.2.2.1⟩
      have q' := (Int.ediv_emod_unique (a := k / g.1) (b := g.2.1) (r := y') (q := z') (by omega)).2 ⟨by rw [p'.1, Int.mul_comm g.2.1]; omega, b.2.2.1, b.2.2.2.1⟩
      exact ⟨p.2.symm.trans p'.2, q.2.symm.trans q'.2, q.1.symm.trans q'.1⟩
    · cases h'
  · cases h
theorem atG_lt (G : GridIn g) {x y z i k : Int} (hi : 0 ≤ i) (hz : z < i / g.1 / g.2.1) (h : atG g x y z = some k) : 0 ≤ k ∧ k < i := by
  unfold atG at h
  split at h
  · rename_i a
    have e := Option.some.inj h
    have gx := G.x; have gy := G.y
    have q0 : 0 ≤ z * g.2.1 := Int.mul_nonneg (by omega) (by omega)
    have q1 : 0 ≤ (z * g.2.1 + y) * g.1 := Int.mul_nonneg (by omega) (by omega)
    have m1 : (z + 1) * g.2.1 ≤ i / g.1 / g.2.1 * g.2.1 := Int.mul_le_mul_of_nonneg_right (by omega) (by omega)
    rw [Int.add_mul, Int.one_mul] at m1
    have d1 := Int.mul_ediv_add_emod (i / g.1) g.2.1
    have d2 := Int.emod_nonneg (i / g.1) (b := g.2.1) (by omega)
    rw [Int.mul_comm] at d1
    have m2 : (z * g.2.1 + y + 1) * g.1 ≤ i / g.1 * g.1 := Int.mul_le_mul_of_nonneg_right (by omega) (by omega)
    rw [Int.add_mul (z * g.2.1 + y), Int.one_mul] at m2
    have d3 := Int.mul_ediv_add_emod i g.1
    have d4 := Int.emod_nonneg i (b := g.1) (by omega)
    rw [Int.mul_comm] at d3
    omega
  · cases h
structure TmOk (t : List DGrid) : Prop where
  len : t.length ≤ 12
  nd : t.Nodup
  b : ∀ o ∈ t, (-2 ≤ o.1 ∧ o.1 ≤ 2) ∧ (-2 ≤ o.2.1 ∧ o.2.1 ≤ 2) ∧ 1 ≤ o.2.2.1 ∧ o.2.2.1 ≤ 2
theorem tmpl_ok (k : Int) (hk : 1 ≤ k ∧ k ≤ 4) : TmOk (tmpl k) := by
  have h : ∀ k ∈ [(1 : Int), 2, 3, 4], ∀ o ∈ tmpl k, (-2 ≤ o.1 ∧ o.1 ≤ 2) ∧ (-2 ≤ o.2.1 ∧ o.2.1 ≤ 2) ∧ 1 ≤ o.2.2.1 ∧ o.2.2.1 ≤ 2 := by decide +kernel
  obtain ⟨t1, _, t3, _⟩ := tmpl_good k hk
  exact ⟨t1.2, t3, h k (by simp; omega)⟩
def offG (g : DGrid) (i : Int) (o : DGrid) : Option Int := atG g (i % g.1 + o.1) (i / g.1 % g.2.1 + o.2.1) (i / g.1 / g.2.1 - o.2.2.1)
def rowG (g : DGrid) (t : List DGrid) (i : Int) : List Int := t.filterMap (offG g i)
def srt (l : List Int) : List Int := l.mergeSort fun x y => decide (x ≤ y)
def arcG (g : DGrid) (t : List DGrid) : List (List Int) := (List.range (gN g)).map fun i : Nat => srt (rowG g t i)
theorem rowG_nodup (G : GridIn g) {t : List DGrid} (T : TmOk t) (i : Int) : (rowG g t i).Pairwise (· ≠ ·) := by
  unfold rowG
  rw [List.pairwise_filterMap]
  refine (List.nodup_iff_pairwise_ne.1 T.nd).imp ?_
  intro a b hab x hx y hy e
  subst e
  obtain ⟨h1, h2, h3⟩ := atG_inj G hx hy
  obtain ⟨a1, a2, a3, _⟩ := a
  obtain ⟨b1, b2, b3, _⟩ := b
  dsimp only at h1 h2 h3
  have e1 : a1 = b1 := by omega
  have e2 : a2 = b2 := by omega
  have e3 : a3 = b3 := by omega
  subst e1 e2 e3
  exact hab rfl
theorem rowG_lt (G : GridIn g) {t : List DGrid} (T : TmOk t) {i : Int} (hi : 0 ≤ i) : ∀ x ∈ rowG g t i, 0 ≤ x ∧ x < i := by
  intro x hx
  obtain ⟨o, ho, h⟩ := List.mem_filterMap.1 hx
  have := (T.b o ho).2.2
  exact atG_lt G hi (by omega) h
theorem rowG_len {t : List DGrid} (T : TmOk t) (i : Int) : (rowG g t i).length ≤ 12 := Nat.le_trans (List.length_filterMap_le _ _) T.len
structure PlaceIn (g : DGrid) (i : Int) : Prop where
  i0 : 0 ≤ i ∧ i ≤ 120
  x : 0 ≤ i % g.1 ∧ i % g.1 < g.1
  y : 0 ≤ i / g.1 % g.2.1 ∧ i / g.1 % g.2.1 < g.2.1
  z : 0 ≤ i / g.1 / g.2.1 ∧ i / g.1 / g.2.1 ≤ 120
  q : 0 ≤ i / g.1 ∧ i / g.1 ≤ 120
  s : i / g.1 % g.2.1 * g.1 + i % g.1 < g.1 * g.2.1
theorem place_in (G : GridIn g) {i : Nat} (hi : i < gN g) : PlaceIn g (i : Int) := by
  have g1 := G.x; have g2 := G.y; have g3 := gN_int G
  have a1 := Int.emod_nonneg (i : Int) (b := g.1) (by omega)
  have a2 := Int.emod_lt_of_pos (i : Int) (b := g.1) (by omega)
  have b0 := Int.ediv_nonneg (a := (i : Int)) (b := g.1) (by omega) (by omega)
  have a3 := Int.emod_nonneg ((i : Int) / g.1) (b := g.2.1) (by omega)
  have a4 := Int.emod_lt_of_pos ((i : Int) / g.1) (b := g.2.1) (by omega)
  have b1 := Int.ediv_nonneg (a := (i : Int) / g.1) (b := g.2.1) b0 (by omega)
  have c1 : (i : Int) / g.1 ≤ i := Int.ediv_le_self _ (by omega)
  have c2 : (i : Int) / g.1 / g.2.1 ≤ (i : Int) / g.1 := Int.ediv_le_self _ b0
  refine ⟨by omega, ⟨a1, a2⟩, ⟨a3, a4⟩, by omega, by omega, ?_⟩
  have m : ((i : Int) / g.1 % g.2.1 + 1) * g.1 ≤ g.2.1 * g.1 := Int.mul_le_mul_of_nonneg_right (by omega) (by omega)
  rw [Int.add_mul, Int.one_mul, Int.mul_comm g.2.1] at m
  omega
theorem placeOf_ok (G : GridIn g) {i : Nat} (hi : i < gN g) : impl_placeOf g (i : Int) = some ((i : Int) % g.1, (i : Int) / g.1 % g.2.1, (i : Int) / g.1 / g.2.1) ∧
    spec_grX g (i : Int) = some ((i : Int) % g.1) ∧ spec_grY g (i : Int) = some ((i : Int) / g.1 % g.2.1) ∧ spec_grZ g (i : Int) = some ((i : Int) / g.1 / g.2.1) := by
  have P := place_in G hi
  have g1 := G.x; have g2 := G.y
  have c1 : ¬ g.1 = 0 := by omega
  have c2 : ¬ g.2.1 = 0 := by omega
  have e1 : ((i : Int)).tmod g.1 = (i : Int) % g.1 := Int.tmod_eq_emod_of_nonneg (by omega)
  have e2 : ((i : Int)).tdiv g.1 = (i : Int) / g.1 := Int.tdiv_eq_ediv_of_nonneg (by omega)
  have q := P.q
  have z := P.z
  have e3 : ((i : Int) / g.1).tmod g.2.1 = (i : Int) / g.1 % g.2.1 := Int.tmod_eq_emod_of_nonneg (by omega)
  have e4 : ((i : Int) / g.1).tdiv g.2.1 = (i : Int) / g.1 / g.2.1 := Int.tdiv_eq_ediv_of_nonneg (by omega)
  have w1 : IntKind.i64.wrap ((i : Int) / g.1) = (i : Int) / g.1 := wr (by omega) (by omega)
  have w2 : IntKind.i64.wrap ((i : Int) / g.1 / g.2.1) = (i : Int) / g.1 / g.2.1 := wr (by omega) (by omega)
  unfold impl_placeOf impl_placeOfK spec_grX spec_grXK spec_grY spec_grYK spec_grZ spec_grZK
  simp only [c1, c2, decide_false, cond_false, e1, e2, e3, e4, w1, w2, and_self]
theorem off_wr {t : List DGrid} (T : TmOk t) {i : Int} (P : PlaceIn g i) (G : GridIn g) {o : DGrid} (ho : o ∈ t) : IntKind.i64.wrap (i % g.1 + o.1) = i % g.1 + o.1 ∧ IntKind.i64.wrap (i / g.1 % g.2.1 + o.2.1) = i / g.1 % g.2.1 + o.2.1 ∧ IntKind.i64.wrap (i / g.1 / g.2.1 - o.2.2.1) = i / g.1 / g.2.1 - o.2.2.1 := by
  have b := T.b o ho
  have x := P.x; have y := P.y; have z := P.z; have g1 := G.x; have g2 := G.y
  exact ⟨wr (by omega) (by omega), wr (by omega) (by omega), wr (by omega) (by omega)⟩
theorem row_i (hg : gridB g = true) {t : List DGrid} (T : TmOk t) {i : Nat} (hi : i < gN g) : ∀ (r j : Nat) (A : List (List Int)), j + r = t.length → A.length = gN g → (A.getD i []).length + r ≤ 1000 →
    impl_arcsOf_l1 (i : Int) ((i : Int) % g.1) ((i : Int) / g.1 % g.2.1) ((i : Int) / g.1 / g.2.1) t (t.length : Int) g.1 g.2.1 g.2.2.1 (j : Int) A = some (A.set i (A.getD i [] ++ (t.drop j).filterMap (offG g i))) := by
  have P := place_in (gridB_in hg) hi
  have Tl := T.len
  intro r
  induction r with
  | zero =>
    intro j A hj hA hr
    rw [impl_arcsOf_l1_eq]; unfold impl_arcsOf_l1K
    rw [lt_out (by omega), List.drop_eq_nil_of_le (by omega), List.filterMap_nil, List.append_nil, set_same (by omega)]
  | succ r ih =>
    intro j A hj hA hr
    have hj' : j < t.length := by omega
    rw [impl_arcsOf_l1_eq]; unfold impl_arcsOf_l1K
    rw [loop_step hj', wr_succ hj' (by omega), drop_cons hj', List.filterMap_cons]
    have hm := List.getElem_mem hj'
    obtain ⟨w1, w2, w3⟩ := off_wr T P (gridB_in hg) hm
    rw [w1, w2, w3]
    have eta : ((g.1, (g.2.1, (g.2.2.1, ()))) : DGrid) = g := rfl
    rw [eta, BlockAt_ok hg]
    have hoff : atG g ((i : Int) % g.1 + t[j].1) ((i : Int) / g.1 % g.2.1 + t[j].2.1) ((i : Int) / g.1 / g.2.1 - t[j].2.2.1) = offG g i t[j] := rfl
    rw [hoff]
    cases ho : offG g (i : Int) t[j] with
    | none =>
      simp only [Option.bind_some, cond_false]
      exact ih (j + 1) A (by omega) hA (by omega)
    | some k =>
      have hiA : i < A.length := by omega
      have hiI : (i : Int) < (A.length : Int) := by omega
      have d : decide ((A.getD i []).length + [k].length ≤ 1099511627776) = true := decide_eq_true (by simp only [List.length_singleton]; omega)
      simp only [Option.bind_some, cond_true, Int.natCast_nonneg, hiI, decide_true, Bool.and_self, Int.toNat_natCast, d, Nat.zero_add]
      have := ih (j + 1) (A.set i (A.getD i [] ++ [k])) (by omega) (by simpa using hA) (by rw [List.getD_eq_getElem?_getD, List.getElem?_set_self hiA, Option.getD_some, List.length_append, List.length_singleton]; omega)
      rw [this, List.set_set, List.getD_eq_getElem?_getD (l := A.set i _), List.getElem?_set_self hiA, Option.getD_some, List.append_assoc]
      rfl
theorem row_s (hg : gridB g = true) {t : List DGrid} (T : TmOk t) {i : Nat} (hi : i < gN g) : ∀ (r j : Nat) (acc : List Int), j + r = t.length → acc.length + r ≤ 1000 → acc.Pairwise (· < ·) → (acc ++ (t.drop j).filterMap (offG g i)).Pairwise (· ≠ ·) →
    ∃ R, spec_slArcs_l1 ((i : Int) % g.1) ((i : Int) / g.1 % g.2.1) ((i : Int) / g.1 / g.2.1) t (t.length : Int) g.1 g.2.1 g.2.2.1 acc (j : Int) = some R ∧ R.Pairwise (· < ·) ∧ R.Perm (acc ++ (t.drop j).filterMap (offG g i)) := by
  have P := place_in (gridB_in hg) hi
  have Tl := T.len
  intro r
  induction r with
  | zero =>
    intro j acc hj hr hp hn
    rw [spec_slArcs_l1_eq]; unfold spec_slArcs_l1K
    rw [lt_out (by omega), List.drop_eq_nil_of_le (by omega), List.filterMap_nil, List.append_nil]
    exact ⟨acc, rfl, hp, .refl _⟩
  | succ r ih =>
    intro j acc hj hr hp hn
    have hj' : j < t.length := by omega
    rw [spec_slArcs_l1_eq]; unfold spec_slArcs_l1K
    rw [drop_cons hj', List.filterMap_cons] at hn ⊢
    rw [loop_step hj', wr_succ hj' (by omega)]
    have hm := List.getElem_mem hj'
    obtain ⟨w1, w2, w3⟩ := off_wr T P (gridB_in hg) hm
    rw [w1, w2, w3]
    have eta : ((g.1, (g.2.1, (g.2.2.1, ()))) : DGrid) = g := rfl
    rw [eta, grAt_ok hg]
    have hoff : atG g ((i : Int) % g.1 + t[j].1) ((i : Int) / g.1 % g.2.1 + t[j].2.1) ((i : Int) / g.1 / g.2.1 - t[j].2.2.1) = offG g i t[j] := rfl
    rw [hoff]
    cases ho : offG g (i : Int) t[j] with
    | none =>
      rw [ho] at hn
      have c : ¬ (-1 : Int) ≥ 0 := by omega
      simp only [Option.bind_some, Option.getD_none, c, decide_false, cond_false]
      exact ih (j + 1) acc (by omega) (by omega) hp hn
    | some k =>
      rw [ho] at hn
      have c : k ≥ 0 := (atG_lt (gridB_in hg) (i := (i : Int)) (by omega) (by have := (T.b _ hm).2.2; omega) ho).1
      have hk : k ∉ acc := fun h => ((List.pairwise_append.1 hn).2.2 k h k (by simp)) rfl
      simp only [Option.bind_some, Option.getD_some, c, decide_true, cond_true]
      rw [l1Put_ok k acc (by omega) hk, Option.bind_some]
      have pm : (insL k acc ++ (t.drop (j + 1)).filterMap (offG g i)).Perm (acc ++ k :: (t.drop (j + 1)).filterMap (offG g i)) :=
        (List.Perm.append_right _ (insL_perm k acc)).trans List.perm_middle.symm
      obtain ⟨R, r1, r2, r3⟩ := ih (j + 1) (insL k acc) (by omega) (by have := (insL_perm k acc).length_eq; simp only [List.length_cons] at this; omega) (insL_sorted k acc hp hk)
        (List.nodup_iff_pairwise_ne.1 (pm.nodup_iff.2 (List.nodup_iff_pairwise_ne.2 hn)))
      exact ⟨R, r1, r2, r3.trans pm⟩
theorem row_s0 (hg : gridB g = true) {t : List DGrid} (T : TmOk t) {i : Nat} (hi : i < gN g) :
    spec_slArcs_l1 ((i : Int) % g.1) ((i : Int) / g.1 % g.2.1) ((i : Int) / g.1 / g.2.1) t (t.length : Int) g.1 g.2.1 g.2.2.1 [] 0 = some (srt (rowG g t i)) ∧ (srt (rowG g t i)).Pairwise (· < ·) := by
  have := T.len
  obtain ⟨R, r1, r2, r3⟩ := row_s hg T hi t.length 0 [] (by omega) (by simp; omega) .nil (by have h := rowG_nodup (gridB_in hg) T (i : Int); unfold rowG at h; simpa using h)
  simp only [List.nil_append, List.drop_zero] at r3
  have e : srt (rowG g t i) = R := sorted_same r2 r3
  rw [e]
  exact ⟨r1, r2⟩
theorem arcG_len (g : DGrid) (t : List DGrid) : (arcG g t).length = gN g := by simp [arcG]
theorem arcG_get {t : List DGrid} {i : Nat} (h : i < (arcG g t).length) : (arcG g t)[i] = srt (rowG g t i) := by simp [arcG]
theorem srt_len (l : List Int) : (srt l).length = l.length := List.length_mergeSort l
theorem sec_ok (G : GridIn g) {i : Nat} (hi : i < gN g) (k : Int) : lat (slp g k).1 (IntKind.i64.wrap (IntKind.i64.wrap ((i : Int) / g.1 % g.2.1 * g.1) + (i : Int) % g.1)) = some 0 := by
  have P := place_in G hi
  obtain ⟨w1, w2, w3⟩ := wr_xy G
  have x := P.x; have s := P.s; have y := P.y; have g1 := G.x
  have h0 : 0 ≤ (i : Int) / g.1 % g.2.1 * g.1 := Int.mul_nonneg y.1 (by omega)
  rw [wr (n := (i : Int) / g.1 % g.2.1 * g.1) (by omega) (by omega), wr (by omega) (by omega), lat_int (by omega) (by simp [slp]; omega)]
  simp [slp]
theorem arcs_i (hg : gridB g = true) (k : Int) (T : TmOk (tmpl k)) : ∀ (r i : Nat), i + r = gN g →
    impl_arcsOf_l0 (gN g : Int) g.1 g.2.1 g.2.2.1 (slp g k).1 (slp g k).2.1 (i : Int) ((arcG g (tmpl k)).take i ++ List.replicate r []) = some (arcG g (tmpl k)) := by
  have hl := arcG_len g (tmpl k)
  have hn := (gN_int (gridB_in hg)).2.2
  intro r
  induction r with
  | zero =>
    intro i hi
    rw [impl_arcsOf_l0_eq]; unfold impl_arcsOf_l0K
    rw [lt_out (by omega), List.replicate_zero, List.append_nil, List.take_of_length_le (by omega)]
  | succ r ih =>
    intro i hi
    have hi' : i < gN g := by omega
    rw [impl_arcsOf_l0_eq]; unfold impl_arcsOf_l0K
    have eta : ((g.1, (g.2.1, (g.2.2.1, ()))) : DGrid) = g := rfl
    rw [lt_in hi', wr_succ hi' (by omega), eta, (placeOf_ok (gridB_in hg) hi').1]
    simp only [Option.bind_some]
    rw [sec_ok (gridB_in hg) hi' k]
    have z0 : lat (slp g k).2.1 0 = some (tmpl k) := rfl
    simp only [Option.bind_some, z0]
    have hlen : ((arcG g (tmpl k)).take i ++ List.replicate (r + 1) []).length = gN g := by simp; omega
    have ht : ((arcG g (tmpl k)).take i).length = i := by simp; omega
    have hget : ((arcG g (tmpl k)).take i ++ List.replicate (r + 1) ([] : List Int)).getD i [] = [] := by
      rw [List.getD_eq_getElem?_getD, List.getElem?_append_right (by omega), ht, Nat.sub_self]; rfl
    have Tl := T.len
    have hrow := row_i hg T hi' (tmpl k).length 0 _ (by omega) hlen (by rw [hget]; simp; omega)
    rw [hget, List.nil_append, List.drop_zero] at hrow
    have hset : ∀ x : List Int, ((arcG g (tmpl k)).take i ++ List.replicate (r + 1) []).set i x = (arcG g (tmpl k)).take i ++ x :: List.replicate r [] := fun x => by
      rw [List.set_append, if_neg (by omega), ht, Nat.sub_self]; rfl
    rw [show ((0 : Nat) : Int) = 0 from rfl, hset] at hrow
    rw [hrow]
    have hl2 : ((arcG g (tmpl k)).take i ++ (rowG g (tmpl k) i) :: List.replicate r []).length = gN g := by simp; omega
    have hc : (i : Int) < (((arcG g (tmpl k)).take i ++ (rowG g (tmpl k) i) :: List.replicate r []).length : Int) := by omega
    have hg2 : ((arcG g (tmpl k)).take i ++ (rowG g (tmpl k) i) :: List.replicate r []).getD i [] = rowG g (tmpl k) i := by
      rw [List.getD_eq_getElem?_getD, List.getElem?_append_right (by omega), ht, Nat.sub_self]; rfl
    have hrl := rowG_len (g := g) T (i : Int)
    have hso : lib_Sort (rowG g (tmpl k) i) = some (srt (rowG g (tmpl k) i)) := by
      unfold lib_Sort
      have : decide ((rowG g (tmpl k) i).length ≤ 1000000) = true := decide_eq_true (by omega)
      rw [this]; rfl
    have hset2 : ∀ x : List Int, ((arcG g (tmpl k)).take i ++ (rowG g (tmpl k) i) :: List.replicate r []).set i x = (arcG g (tmpl k)).take i ++ x :: List.replicate r [] := fun x => by
      rw [List.set_append, if_neg (by omega), ht, Nat.sub_self]; rfl
    have hrow' : ((tmpl k).filterMap (offG g i)) = rowG g (tmpl k) i := rfl
    rw [hrow']
    simp only [Option.bind_some, Int.natCast_nonneg, hc, decide_true, Bool.and_self, cond_true, Int.toNat_natCast, Nat.zero_add, hg2, hso, hset2]
    have hnext := ih (i + 1) (by omega)
    rw [List.take_add_one, List.getElem?_eq_getElem (by omega), arcG_get] at hnext
    simp only [Option.toList_some, List.append_assoc, List.singleton_append] at hnext
    exact hnext
theorem arcs_s (hg : gridB g = true) (k : Int) (T : TmOk (tmpl k)) : ∀ (r i : Nat), i + r = gN g →
    spec_slArcs_l0 g.1 g.2.1 g.2.2.1 (slp g k).1 (slp g k).2.1 (i : Int) ((arcG g (tmpl k)).take i) = some (arcG g (tmpl k)) := by
  have hl := arcG_len g (tmpl k)
  have hn := (gN_int (gridB_in hg)).2.2
  have eta : ((g.1, (g.2.1, (g.2.2.1, ()))) : DGrid) = g := rfl
  intro r
  induction r with
  | zero =>
    intro i hi
    rw [spec_slArcs_l0_eq]; unfold spec_slArcs_l0K
    rw [eta, grCount_ok (gridB_in hg), Option.bind_some, lt_out (by omega), List.take_of_length_le (by omega)]
  | succ r ih =>
    intro i hi
    have hi' : i < gN g := by omega
    rw [spec_slArcs_l0_eq]; unfold spec_slArcs_l0K
    obtain ⟨_, p1, p2, p3⟩ := placeOf_ok (gridB_in hg) hi'
    rw [eta, grCount_ok (gridB_in hg), Option.bind_some, lt_in hi', wr_succ hi' (by omega), p1, p2, p3]
    simp only [Option.bind_some]
    rw [sec_ok (gridB_in hg) hi' k]
    have z0 : lat (slp g k).2.1 0 = some (tmpl k) := rfl
    simp only [Option.bind_some, z0]
    rw [(row_s0 hg T hi').1]
    have d : decide (((arcG g (tmpl k)).take i).length + [srt (rowG g (tmpl k) i)].length ≤ 1099511627776) = true := decide_eq_true (by rw [List.length_take]; simp only [List.length_singleton]; omega)
    simp only [Option.bind_some, d, cond_true]
    have hnext := ih (i + 1) (by omega)
    rw [List.take_add_one, List.getElem?_eq_getElem (by omega), arcG_get] at hnext
    exact hnext
theorem arcs_both (hg : gridB g = true) (k : Int) (hk : 1 ≤ k ∧ k ≤ 4) : impl_ArcsOf g (slp g k) = some (arcG g (tmpl k), true) ∧ spec_ArcsOf g (slp g k) = some (arcG g (tmpl k), true) := by
  obtain ⟨a1, a2⟩ := areSlopes_both g k hk hg
  have T := tmpl_ok k hk
  have G := gridB_in hg
  have hn := (gN_int G).2.2
  constructor
  · unfold impl_ArcsOf impl_ArcsOfK impl_arcsOf impl_arcsOfK
    rw [IsGrid_ok, hg, a1, blocksOf_ok G]
    simp only [Option.bind_some, Bool.not_true, cond_false, Int.toNat_natCast, List.length_replicate]
    rw [cap_ok (by omega)]
    have := arcs_i hg k T (gN g) 0 (by omega)
    rw [List.take_zero, List.nil_append, show ((0 : Nat) : Int) = 0 from rfl] at this
    rw [this]; rfl
  · unfold spec_ArcsOf spec_ArcsOfK spec_slArcs spec_slArcsK
    rw [a2]
    simp only [Option.bind_some, Bool.not_true, cond_false]
    have := arcs_s hg k T (gN g) 0 (by omega)
    rw [List.take_zero, show ((0 : Nat) : Int) = 0 from rfl] at this
    rw [this]; rfl
theorem risB_of {l : List Int} {n : Int} (h1 : ∀ x ∈ l, 0 ≤ x ∧ x < n) (h2 : l.Pairwise (· < ·)) : risB l n = true := by
  unfold risB
  refine allI_iff.2 fun i hi => ?_
  have := h1 _ (List.getElem_mem hi)
  rw [List.pairwise_iff_getElem] at h2
  by_cases h0 : i = 0
  · subst h0; simp [this.1, this.2]
  · have h3 := h2 (i - 1) i (by omega) hi (by omega)
    have hi1 : i - 1 < l.length := by omega
    simp [this.1, this.2, h0, hi1, h3]
theorem arcG_ok (hg : gridB g = true) (k : Int) (hk : 1 ≤ k ∧ k ≤ 4) : arcsB (arcG g (tmpl k)) = true ∧ ∀ r ∈ arcG g (tmpl k), r.length ≤ 12 := by
  have T := tmpl_ok k hk
  have G := gridB_in hg
  have hn := (gN_int G).2
  have hl := arcG_len g (tmpl k)
  constructor
  · unfold arcsB
    have c1 : 1 ≤ ((arcG g (tmpl k)).length : Int) := by omega
    have c2 : ((arcG g (tmpl k)).length : Int) ≤ 120 := by omega
    simp only [c1, c2, decide_true, Bool.true_and]
    refine allI_iff.2 fun i hi => ?_
    rw [arcG_get]
    refine risB_of (fun x hx => ?_) (row_s0 hg T (by omega)).2
    exact rowG_lt G T (by omega) x ((List.mergeSort_perm _ _).mem_iff.1 hx)
  · intro r hr
    obtain ⟨i, hi, rfl⟩ := List.getElem_of_mem hr
    rw [arcG_get, srt_len]
    exact rowG_len T _
end
end Go.OAI
