/- Plain words on loops, jobs, plans, worths. -/
import Derived.Test.YtejiaikhdjanoaaGreatGA
import Derived.Test.YtejiaikhdjanoaaGreatGX
import Derived.Test.YtejiaikhdjanoaaGreatGP
import Derived.Test.YtejiaikhdjanoaaGreatGO
namespace Go.OAI
abbrev DEdge : Type := DGrid
abbrev DLot : Type := DLimits
set_option linter.unusedVariables false
theorem wr {n : Int} (h1 : -9223372036854775808 ≤ n) (h2 : n ≤ 9223372036854775807) : IntKind.i64.wrap n = n := by
  rw [IntKind.wrap_i64]; omega
section
variable {α β R S Y : Type}
theorem lat_nat {l : List α} {i : Nat} (h : i < l.length) : lat l (i : Int) = some l[i] := by
  simp [lat, h]
theorem lat_int {l : List α} {i : Int} (h0 : 0 ≤ i) (h : i.toNat < l.length) : lat l i = some (l[i.toNat]'h) := by
  simp [lat, h0, h]
theorem lt_in {i n : Nat} {A F : Option R} (h : i < n) : cond (decide ((i : Int) < (n : Int))) A F = A := by
  have : (i : Int) < (n : Int) := by omega
  simp [this]
theorem lt_out {i n : Nat} {A F : Option R} (h : n ≤ i) : cond (decide ((i : Int) < (n : Int))) A F = F := by
  have : ¬ (i : Int) < (n : Int) := by omega
  simp [this]
theorem ck_in {i n : Nat} {A F : Option R} (h : i < n) : cond (decide ((0 : Int) ≤ (i : Int)) && decide ((i : Int) < (n : Int))) A F = A := by
  have : (i : Int) < (n : Int) := by omega
  simp [this]
theorem ck_int {i : Int} {n : Nat} {A F : Option R} (h0 : 0 ≤ i) (h : i < (n : Int)) : cond (decide ((0 : Int) ≤ i) && decide (i < (n : Int))) A F = A := by
  simp [h0, h]
theorem loop_step {l : List α} {i : Nat} {A : α → Option R} {F : Option R} (h : i < l.length) : cond (decide ((i : Int) < (l.length : Int))) ((lat l (i : Int)).bind A) F = A l[i] := by
  rw [lt_in h, lat_nat h]; rfl
theorem wr_succ {i n : Nat} (h : i < n) (hn : n ≤ 9223372036854775807) : IntKind.i64.wrap ((i : Int) + 1) = ((i + 1 : Nat) : Int) := by
  rw [wr (by omega) (by omega)]; simp
theorem down {n : Nat} {P : Nat → Prop} (h0 : P n) (hs : ∀ i, i < n → P (i + 1) → P i) : ∀ i, i ≤ n → P i := by
  have key : ∀ k i, i + k = n → P i := by
    intro k
    induction k with
    | zero => intro i hi; have : i = n := by omega
              subst this; exact h0
    | succ k ih => intro i hi; exact hs i (by omega) (ih (i + 1) (by omega))
  exact fun i hi => key (n - i) i (by omega)
theorem cap_ok {n : Nat} {A F : Option R} (h : n ≤ 1099511627776) : cond (decide ((0 : Int) ≤ (n : Int)) && (decide ((n : Int) ≤ (n : Int)) && decide ((n : Int) ≤ 1099511627776))) A F = A := by
  have : (n : Int) ≤ 1099511627776 := by omega
  simp [this]
theorem drop_cons {l : List α} {i : Nat} (h : i < l.length) : l.drop i = l[i] :: l.drop (i + 1) := List.drop_eq_getElem_cons h
theorem fill_loop {f : Int → List β → Option Y} {l : List β} {r : Y} (hl : l.length ≤ 1099511627776) (hend : f (l.length : Int) l = some r)
    (hstep : ∀ (i : Nat) (r : List β) (hi : i < l.length), r.length = l.length → f (i : Int) r = f ((i + 1 : Nat) : Int) (r.set i l[i])) (r0 : List β) (h0 : r0.length = l.length) : f 0 r0 = some r := by
  have key : ∀ i, i ≤ l.length → ∀ r1 : List β, r1.length = l.length → (∀ j, j < i → r1[j]? = l[j]?) → f (i : Int) r1 = some r := by
    refine down (fun r1 h1 h2 => ?_) fun i hi ih r1 h1 h2 => ?_
    · have : r1 = l := by
        apply List.ext_getElem?
        intro j
        by_cases hj : j < l.length
        · exact h2 j hj
        · rw [List.getElem?_eq_none (by omega), List.getElem?_eq_none (by omega)]
      rw [this]; exact hend
    · rw [hstep i r1 hi h1]
      refine ih _ (by simpa using h1) fun j hj => ?_
      by_cases e : j = i
      · subst e; rw [List.getElem?_set_self (by omega), List.getElem?_eq_getElem hi]
      · rw [List.getElem?_set_ne (Ne.symm e)]; exact h2 j (by omega)
  exact key 0 (Nat.zero_le _) r0 h0 (fun j hj => absurd hj (Nat.not_lt_zero _))
theorem all_loop {f : Int → Option Y} {l : List α} {good : Nat → α → Bool} {y n : Y} (hend : f (l.length : Int) = some y)
    (hstep : ∀ (i : Nat) (hi : i < l.length), f (i : Int) = if good i l[i] then f ((i + 1 : Nat) : Int) else some n) :
    f 0 = some (if ∀ i (hi : i < l.length), good i l[i] = true then y else n) := by
  have key : ∀ i, i ≤ l.length → f (i : Int) = some (if ∀ j (hj : j < l.length), i ≤ j → good j l[j] = true then y else n) := by
    refine down ?_ fun i hi ih => ?_
    · rw [hend, if_pos fun j hj h => by omega]
    · rw [hstep i hi]
      by_cases hg : good i l[i] = true
      · rw [if_pos hg, ih]
        congr 1
        by_cases ha : ∀ j (hj : j < l.length), i + 1 ≤ j → good j l[j] = true
        · rw [if_pos ha, if_pos fun j hj h => by
            by_cases e : j = i
            · subst e; exact hg
            · exact ha j hj (by omega)]
        · rw [if_neg ha, if_neg fun h => ha fun j hj hij => h j hj (by omega)]
      · rw [if_neg hg, if_neg fun h => hg (h i hi (Nat.le_refl _))]
  have := key 0 (Nat.zero_le _)
  simpa using this
theorem dec_lt (a b : Int) : decide (a < b) = !decide (b ≤ a) := by
  by_cases h : b ≤ a
  · have : ¬ a < b := by omega
    simp [h, this]
  · have : a < b := by omega
    simp [h, this]
theorem dec_gt (a b : Int) : decide (a > b) = !decide (a ≤ b) := dec_lt b a
theorem dec_ge (a b : Int) : decide (a ≥ b) = decide (b ≤ a) := rfl
theorem beq_dec (a b : Int) : (a == b) = decide (a = b) := by
  by_cases h : a = b <;> simp [h]
theorem bne_dec (a b : Int) : (a != b) = !decide (a = b) := by
  by_cases h : a = b <;> simp [h]
def allI (g : Nat → α → Bool) (l : List α) : Bool := (List.range l.length).all fun i => match l[i]? with
  | some x => g i x
  | none => true
theorem allI_iff {g : Nat → α → Bool} {l : List α} : allI g l = true ↔ ∀ i (h : i < l.length), g i l[i] = true := by
  unfold allI
  rw [List.all_eq_true]
  constructor
  · intro h i hi
    have := h i (by simpa using hi)
    simpa [hi] using this
  · intro h i hi
    have hi : i < l.length := by simpa using hi
    simpa [hi] using h i hi
theorem allI_loop {f : Int → Option Y} {l : List α} {good : Nat → α → Bool} {y n : Y} (hend : f (l.length : Int) = some y)
    (hstep : ∀ (i : Nat) (hi : i < l.length), f (i : Int) = if good i l[i] then f ((i + 1 : Nat) : Int) else some n) :
    f 0 = some (if allI good l then y else n) := by
  rw [all_loop hend hstep]
  congr 1
  by_cases h : allI good l = true
  · rw [if_pos h, if_pos (allI_iff.1 h)]
  · rw [if_neg h, if_neg fun e => h (allI_iff.2 e)]
theorem allL_loop {f : Int → Option Y} {l : List α} {good : α → Bool} {y n : Y} (hend : f (l.length : Int) = some y)
    (hstep : ∀ (i : Nat) (hi : i < l.length), f (i : Int) = if good l[i] then f ((i + 1 : Nat) : Int) else some n) :
    f 0 = some (if l.all good then y else n) := by
  rw [all_loop (good := fun _ x => good x) hend hstep]
  congr 1
  by_cases ha : l.all good = true
  · rw [if_pos ha, if_pos fun i hi => List.all_eq_true.1 ha _ (List.getElem_mem hi)]
  · rw [if_neg ha, if_neg fun hh => ha (List.all_eq_true.2 fun x hx => by
      obtain ⟨i, hi, rfl⟩ := List.getElem_of_mem hx
      exact hh i hi)]
end
noncomputable section
structure JobSm (j : DJob) : Prop where
  a : j.1.length ≤ 1048576
  r : ∀ r ∈ j.1, r.length ≤ 1048576
  t : j.2.1.length ≤ 1048576
  v : j.2.2.1.length ≤ 1048576
end
noncomputable section
def risB (l : List Int) (n : Int) : Bool := allI (fun i x => decide (0 ≤ x) && (decide (x < n) && (decide (i = 0) || decide (l.getD (i - 1) 0 < x)))) l
theorem areBlocks_ok (l : List Int) (n : Int) (hl : l.length ≤ 9223372036854775807) : impl_areBlocks l n = some (risB l n) := by
  unfold impl_areBlocks impl_areBlocksK
  have : impl_areBlocks_l0 l n l (l.length : Int) 0 = some (if risB l n then .inr () else .inl false) := by
    refine allI_loop (f := fun i => impl_areBlocks_l0 l n l (l.length : Int) i) ?_ fun i hi => ?_
    · show impl_areBlocks_l0 _ _ _ _ _ = _
      rw [impl_areBlocks_l0_eq]; unfold impl_areBlocks_l0K
      rw [lt_out (Nat.le_refl _)]
    · show impl_areBlocks_l0 _ _ _ _ _ = _
      rw [impl_areBlocks_l0_eq]; unfold impl_areBlocks_l0K
      rw [loop_step hi, wr_succ hi (by omega)]
      by_cases h1 : 0 ≤ l[i]
      · have h1' : ¬ l[i] < 0 := by omega
        by_cases h2 : l[i] < n
        · have h2' : ¬ l[i] ≥ n := by omega
          by_cases h3 : i = 0
          · subst h3
            simp [h1, h1', h2, h2']
          · have h3' : 0 < i := by omega
            have h3'' : (i : Int) > 0 := by omega
            have h4 : IntKind.i64.wrap ((i : Int) - 1) = ((i - 1 : Nat) : Int) := by rw [wr (by omega) (by omega)]; omega
            rw [h4, lat_nat (by omega)]
            have h5 : l.getD (i - 1) 0 = l[i - 1] := by simp [show i - 1 < l.length by omega]
            rw [h5]
            by_cases h6 : l[i] ≤ l[i - 1]
            · have h6' : ¬ l[i - 1] < l[i] := by omega
              simp [h1, h1', h2, h2', h3, h3', h3'', h6, h6']
            · have h6' : l[i - 1] < l[i] := by omega
              simp [h1, h1', h2, h2', h3, h3', h3'', h6, h6']
        · have h2' : l[i] ≥ n := by omega
          simp [h1, h1', h2, h2']
      · have h1' : l[i] < 0 := by omega
        simp [h1, h1']
  rw [this]
  cases risB l n <;> rfl
theorem l1Rising_ok (l : List Int) (n : Int) (hl : l.length ≤ 9223372036854775807) : spec_l1Rising l 0 (n - 1) = some (risB l n) := by
  unfold spec_l1Rising spec_l1RisingK
  have : spec_l1Rising_l0 l 0 (n - 1) l (l.length : Int) 0 = some (if risB l n then .inr () else .inl false) := by
    refine allI_loop (f := fun i => spec_l1Rising_l0 l 0 (n - 1) l (l.length : Int) i) ?_ fun i hi => ?_
    · show spec_l1Rising_l0 _ _ _ _ _ _ = _
      rw [spec_l1Rising_l0_eq]; unfold spec_l1Rising_l0K
      rw [lt_out (Nat.le_refl _)]
    · show spec_l1Rising_l0 _ _ _ _ _ _ = _
      rw [spec_l1Rising_l0_eq]; unfold spec_l1Rising_l0K
      rw [loop_step hi, wr_succ hi (by omega)]
      unfold spec_l1In spec_l1InK
      by_cases h1 : 0 ≤ l[i]
      · by_cases h2 : l[i] < n
        · have h2' : l[i] ≤ n - 1 := by omega
          by_cases h3 : i = 0
          · subst h3
            simp [h1, h2, h2']
          · have h3' : 0 < i := by omega
            have h3'' : (i : Int) > 0 := by omega
            have h4 : IntKind.i64.wrap ((i : Int) - 1) = ((i - 1 : Nat) : Int) := by rw [wr (by omega) (by omega)]; omega
            rw [h4, lat_nat (by omega)]
            have h5 : l.getD (i - 1) 0 = l[i - 1] := by simp [show i - 1 < l.length by omega]
            rw [h5]
            by_cases h6 : l[i - 1] ≥ l[i]
            · have h6' : ¬ l[i - 1] < l[i] := by omega
              simp [h1, h2, h2', h3, h3', h3'', h6, h6']
            · have h6' : l[i - 1] < l[i] := by omega
              simp [h1, h2, h2', h3, h3', h3'', h6, h6']
        · have h2' : ¬ l[i] ≤ n - 1 := by omega
          simp [h1, h2, h2']
      · simp [h1]
  rw [this]
  cases risB l n <;> rfl
theorem risB_spec {l : List Int} {n : Int} (h : risB l n = true) : (∀ x ∈ l, 0 ≤ x ∧ x < n) ∧ l.Pairwise (· < ·) := by
  have h := allI_iff.1 h
  have h1 : ∀ i (hi : i < l.length), 0 ≤ l[i] ∧ l[i] < n ∧ (0 < i → l.getD (i - 1) 0 < l[i]) := fun i hi => by
    have := h i hi
    simp only [Bool.and_eq_true, Bool.or_eq_true, decide_eq_true_eq] at this
    exact ⟨this.1, this.2.1, fun h0 => this.2.2.elim (fun e => absurd e (by omega)) id⟩
  refine ⟨fun x hx => ?_, ?_⟩
  · obtain ⟨i, hi, rfl⟩ := List.getElem_of_mem hx
    exact ⟨(h1 i hi).1, (h1 i hi).2.1⟩
  · rw [List.pairwise_iff_getElem]
    intro i j hi hj hij
    have step : ∀ k (hk : i + k + 1 < l.length), l[i] < l[i + k + 1] := by
      intro k
      induction k with
      | zero =>
        intro hk
        have := (h1 (i + 1) hk).2.2 (by omega)
        simpa [hi] using this
      | succ k ih =>
        intro hk
        have a := ih (by omega)
        have b := (h1 (i + (k + 1) + 1) hk).2.2 (by omega)
        have e : l.getD (i + (k + 1) + 1 - 1) 0 = l[i + k + 1] := by
          rw [show i + (k + 1) + 1 - 1 = i + k + 1 by omega]
          simp [show i + k + 1 < l.length by omega]
        rw [e] at b
        omega
    have := step (j - i - 1) (by omega)
    have e : i + (j - i - 1) + 1 = j := by omega
    simpa [e] using this
def arcsB (a : List (List Int)) : Bool := decide (1 ≤ (a.length : Int)) && (decide ((a.length : Int) ≤ 120) && allI (fun i r => risB r i) a)
theorem AreArcs_ok (a : List (List Int)) (hl : a.length ≤ 9223372036854775807) (hr : ∀ r ∈ a, r.length ≤ 9223372036854775807) : impl_AreArcs a = some (arcsB a) := by
  unfold impl_AreArcs impl_AreArcsK
  have : impl_AreArcs_l0 a (a.length : Int) 0 = some (if allI (fun i r => risB r i) a then .inr () else .inl false) := by
    refine allI_loop (f := fun i => impl_AreArcs_l0 a (a.length : Int) i) ?_ fun i hi => ?_
    · show impl_AreArcs_l0 _ _ _ = _
      rw [impl_AreArcs_l0_eq]; unfold impl_AreArcs_l0K
      rw [lt_out (Nat.le_refl _)]
    · show impl_AreArcs_l0 _ _ _ = _
      rw [impl_AreArcs_l0_eq]; unfold impl_AreArcs_l0K
      rw [loop_step hi, wr_succ hi (by omega), areBlocks_ok _ _ (hr _ (List.getElem_mem hi))]
      cases risB a[i] i <;> rfl
  rw [this]
  simp only [dec_lt, dec_gt, arcsB]
  by_cases h1 : 1 ≤ (a.length : Int) <;> by_cases h2 : (a.length : Int) ≤ 120 <;> cases allI (fun i r => risB r i) a <;> simp [h1, h2, sumO]
theorem clArcs_ok (a : List (List Int)) (hl : a.length ≤ 9223372036854775807) (hr : ∀ r ∈ a, r.length ≤ 9223372036854775807) : spec_clArcs a = some (arcsB a) := by
  unfold spec_clArcs spec_clArcsK
  have : spec_clArcs_l0 a (a.length : Int) 0 = some (if allI (fun i r => risB r i) a then .inr () else .inl false) := by
    refine allI_loop (f := fun i => spec_clArcs_l0 a (a.length : Int) i) ?_ fun i hi => ?_
    · show spec_clArcs_l0 _ _ _ = _
      rw [spec_clArcs_l0_eq]; unfold spec_clArcs_l0K
      rw [lt_out (Nat.le_refl _)]
    · show spec_clArcs_l0 _ _ _ = _
      rw [spec_clArcs_l0_eq]; unfold spec_clArcs_l0K
      rw [loop_step hi, wr_succ hi (by omega), wr (n := (i : Int) - 1) (by omega) (by omega), l1Rising_ok _ _ (hr _ (List.getElem_mem hi))]
      cases risB a[i] i <;> rfl
  rw [this]
  unfold spec_l1In spec_l1InK
  simp only [arcsB, dec_ge]
  by_cases h1 : 1 ≤ (a.length : Int) <;> by_cases h2 : (a.length : Int) ≤ 120 <;> cases allI (fun i r => risB r i) a <;> simp [h1, h2, sumO]
def inB (lo hi : Int) (l : List Int) : Bool := l.all fun x => decide (lo ≤ x) && decide (x ≤ hi)
theorem inB_spec {lo hi : Int} {l : List Int} (h : inB lo hi l = true) : ∀ x ∈ l, lo ≤ x ∧ x ≤ hi := fun x hx => by
  have := List.all_eq_true.1 h x hx
  simpa using this
theorem l1All_ok (l : List Int) (lo hi : Int) (hl : l.length ≤ 9223372036854775807) : spec_l1All l lo hi = some (inB lo hi l) := by
  unfold spec_l1All spec_l1AllK
  have : spec_l1All_l0 lo hi l (l.length : Int) 0 = some (if inB lo hi l then .inr () else .inl false) := by
    refine allL_loop (f := fun i => spec_l1All_l0 lo hi l (l.length : Int) i) ?_ fun i hi' => ?_
    · show spec_l1All_l0 _ _ _ _ _ = _
      rw [spec_l1All_l0_eq]; unfold spec_l1All_l0K
      rw [lt_out (Nat.le_refl _)]
    · show spec_l1All_l0 _ _ _ _ _ = _
      rw [spec_l1All_l0_eq]; unfold spec_l1All_l0K
      rw [loop_step hi', wr_succ hi' (by omega)]
      unfold spec_l1In spec_l1InK
      by_cases h1 : lo ≤ l[i] <;> by_cases h2 : l[i] ≤ hi <;> simp [h1, h2]
  rw [this]
  cases inB lo hi l <;> rfl
theorem goodValues_ok (l : List Int) (hl : l.length ≤ 9223372036854775807) : impl_goodValues l = some (decide (1 ≤ (l.length : Int)) && (decide ((l.length : Int) ≤ 120) && inB (-1000000) 1000000 l)) := by
  unfold impl_goodValues impl_goodValuesK
  have : impl_goodValues_l0 l (l.length : Int) 0 = some (if inB (-1000000) 1000000 l then .inr () else .inl false) := by
    refine allL_loop (f := fun i => impl_goodValues_l0 l (l.length : Int) i) ?_ fun i hi' => ?_
    · show impl_goodValues_l0 _ _ _ = _
      rw [impl_goodValues_l0_eq]; unfold impl_goodValues_l0K
      rw [lt_out (Nat.le_refl _)]
    · show impl_goodValues_l0 _ _ _ = _
      rw [impl_goodValues_l0_eq]; unfold impl_goodValues_l0K
      rw [loop_step hi', wr_succ hi' (by omega)]
      simp only [dec_lt, dec_gt]
      by_cases h1 : -1000000 ≤ l[i] <;> by_cases h2 : l[i] ≤ 1000000 <;> simp [h1, h2]
  rw [this]
  simp only [dec_lt, dec_gt]
  by_cases h1 : 1 ≤ (l.length : Int) <;> by_cases h2 : (l.length : Int) ≤ 120 <;> cases inB (-1000000) 1000000 l <;> simp [h1, h2, sumO]
def jobB (j : DJob) : Bool :=
  arcsB j.1 && (decide ((j.2.1.length : Int) = (j.1.length : Int)) && (decide ((j.2.2.1.length : Int) = (j.1.length : Int)) && (inB 0 10000 j.2.1 && (inB (-1000000) 1000000 j.2.2.1 &&
  (decide (0 ≤ j.2.2.2.1.1) && (decide (j.2.2.2.1.1 ≤ 1000000) && (decide (0 ≤ j.2.2.2.1.2.1) && (decide (j.2.2.2.1.2.1 ≤ 1000000) &&
  (decide (1 ≤ j.2.2.2.2.1) && (decide (j.2.2.2.2.1 ≤ 6) && (decide (1 ≤ j.2.2.2.2.2.1) && (decide (j.2.2.2.2.2.1 ≤ j.2.2.2.2.2.2.1) && decide (j.2.2.2.2.2.2.1 ≤ 20)))))))))))))
structure JobWf (j : DJob) : Prop where
  a : j.1.length ≤ 9223372036854775807
  r : ∀ r ∈ j.1, r.length ≤ 9223372036854775807
  t : j.2.1.length ≤ 9223372036854775807
  v : j.2.2.1.length ≤ 9223372036854775807
theorem JobSm.wf {j : DJob} (s : JobSm j) : JobWf j :=
  ⟨Nat.le_trans s.a (by decide), fun r hr => Nat.le_trans (s.r r hr) (by decide), Nat.le_trans s.t (by decide), Nat.le_trans s.v (by decide)⟩
theorem IsJob_okW (j : DJob) (s : JobWf j) : impl_IsJob j = some (jobB j) := by
  have := s.a
  have := s.t
  have := s.v
  have h1 : impl_IsJob_l0 j.2.1 (j.2.1.length : Int) 0 = some (if inB 0 10000 j.2.1 then .inr () else .inl false) := by
    refine allL_loop (f := fun i => impl_IsJob_l0 j.2.1 (j.2.1.length : Int) i) ?_ fun i hi' => ?_
    · show impl_IsJob_l0 _ _ _ = _
      rw [impl_IsJob_l0_eq]; unfold impl_IsJob_l0K
      rw [lt_out (Nat.le_refl _)]
    · show impl_IsJob_l0 _ _ _ = _
      rw [impl_IsJob_l0_eq]; unfold impl_IsJob_l0K
      rw [loop_step hi', wr_succ hi' (by omega)]
      simp only [dec_lt, dec_gt]
      by_cases h1 : 0 ≤ j.2.1[i] <;> by_cases h2 : j.2.1[i] ≤ 10000 <;> simp [h1, h2]
  have h2 : impl_areValued j.1 j.2.2.1 = some (arcsB j.1 && (decide ((j.2.2.1.length : Int) = (j.1.length : Int)) && inB (-1000000) 1000000 j.2.2.1)) := by
    unfold impl_areValued impl_areValuedK
    rw [AreArcs_ok _ (by omega) (fun r hr => by have := s.r r hr; omega), goodValues_ok _ (by omega)]
    cases ha : arcsB j.1 with
    | false => rfl
    | true =>
      simp only [arcsB, Bool.and_eq_true, decide_eq_true_eq] at ha
      obtain ⟨a1, a2, _⟩ := ha
      simp only [Option.bind_some, cond_true, Bool.true_and, beq_dec]
      by_cases e : (j.2.2.1.length : Int) = (j.1.length : Int)
      · rw [e]
        cases inB (-1000000) 1000000 j.2.2.1 <;> simp [a1, a2]
      · simp only [e, decide_false, Bool.false_and]
        cases (decide (1 ≤ (j.2.2.1.length : Int)) && (decide ((j.2.2.1.length : Int) ≤ 120) && inB (-1000000) 1000000 j.2.2.1)) <;> rfl
  unfold impl_IsJob impl_IsJobK jobB
  rw [h1, h2]
  simp only [bne_dec, dec_ge]
  cases arcsB j.1 <;> by_cases c1 : (j.2.2.1.length : Int) = (j.1.length : Int) <;> cases inB (-1000000) 1000000 j.2.2.1 <;> by_cases c2 : (j.2.1.length : Int) = (j.1.length : Int) <;> cases inB 0 10000 j.2.1 <;> simp [c1, c2, sumO]
  by_cases d1 : 0 ≤ j.2.2.2.1.1 <;> by_cases d2 : j.2.2.2.1.1 ≤ 1000000 <;> by_cases d3 : 0 ≤ j.2.2.2.1.2.1 <;> by_cases d4 : j.2.2.2.1.2.1 ≤ 1000000 <;> by_cases d5 : 1 ≤ j.2.2.2.2.1 <;> by_cases d6 : j.2.2.2.2.1 ≤ 6 <;> by_cases d7 : 1 ≤ j.2.2.2.2.2.1 <;> simp [d1, d2, d3, d4, d5, d6, d7]
  by_cases d8 : j.2.2.2.2.2.1 ≤ j.2.2.2.2.2.2.1 <;> simp [d8]
theorem IsJob_ok (j : DJob) (s : JobSm j) : impl_IsJob j = some (jobB j) := IsJob_okW j s.wf
theorem plJob_okW (j : DJob) (s : JobWf j) : spec_plJob j = some (jobB j) := by
  have := s.a
  have := s.t
  have := s.v
  unfold spec_plJob spec_plJobK jobB
  rw [clArcs_ok _ (by omega) (fun r hr => by have := s.r r hr; omega), l1All_ok _ _ _ (by omega), l1All_ok _ _ _ (by omega)]
  unfold spec_l1In spec_l1InK
  simp only [bne_dec, dec_ge]
  cases arcsB j.1 <;> by_cases c1 : (j.2.2.1.length : Int) = (j.1.length : Int) <;> cases inB (-1000000) 1000000 j.2.2.1 <;> by_cases c2 : (j.2.1.length : Int) = (j.1.length : Int) <;> cases inB 0 10000 j.2.1 <;> simp [c1, c2]
  by_cases d1 : 0 ≤ j.2.2.2.1.1 <;> by_cases d2 : j.2.2.2.1.1 ≤ 1000000 <;> by_cases d3 : 0 ≤ j.2.2.2.1.2.1 <;> by_cases d4 : j.2.2.2.1.2.1 ≤ 1000000 <;> by_cases d5 : 1 ≤ j.2.2.2.2.1 <;> by_cases d6 : j.2.2.2.2.1 ≤ 6 <;> by_cases d7 : 1 ≤ j.2.2.2.2.2.1 <;> simp [d1, d2, d3, d4, d5, d6, d7]
  all_goals
    by_cases d8 : j.2.2.2.2.2.1 ≤ j.2.2.2.2.2.2.1 <;> by_cases d9 : 1 ≤ j.2.2.2.2.2.2.1 <;> by_cases d10 : j.2.2.2.2.2.2.1 ≤ 20 <;> simp [d8, d9, d10] <;> omega
structure JobOk (j : DJob) : Prop where
  n1 : 1 ≤ j.1.length
  n2 : j.1.length ≤ 120
  arc : ∀ i (h : i < j.1.length), (∀ x ∈ j.1[i], 0 ≤ x ∧ x < (i : Int)) ∧ j.1[i].Pairwise (· < ·)
  lt : j.2.1.length = j.1.length
  lv : j.2.2.1.length = j.1.length
  t : ∀ x ∈ j.2.1, 0 ≤ x ∧ x ≤ 10000
  v : ∀ x ∈ j.2.2.1, -1000000 ≤ x ∧ x ≤ 1000000
  mine : 0 ≤ j.2.2.2.1.1 ∧ j.2.2.2.1.1 ≤ 1000000
  mill : 0 ≤ j.2.2.2.1.2.1 ∧ j.2.2.2.1.2.1 ≤ 1000000
  per : 1 ≤ j.2.2.2.2.1 ∧ j.2.2.2.2.1 ≤ 6
  num : 1 ≤ j.2.2.2.2.2.1
  den : j.2.2.2.2.2.1 ≤ j.2.2.2.2.2.2.1 ∧ j.2.2.2.2.2.2.1 ≤ 20
theorem jobB_spec {j : DJob} (h : jobB j = true) : JobOk j := by
  simp only [jobB, arcsB, Bool.and_eq_true, decide_eq_true_eq] at h
  obtain ⟨⟨a1, a2, a3⟩, b1, b2, b3, b4, b5, b6, b7, b8, b9, b10, b11, b12, b13⟩ := h
  exact ⟨by omega, by omega, fun i hi => risB_spec (allI_iff.1 a3 i hi), by omega, by omega, inB_spec b3, inB_spec b4, ⟨b5, b6⟩, ⟨b7, b8⟩, ⟨b9, b10⟩, b11, ⟨b12, b13⟩⟩
theorem rise_len : ∀ (l : List Int) (a b : Int), (∀ x ∈ l, a ≤ x ∧ x < b) → l.Pairwise (· < ·) → a ≤ b → (l.length : Int) ≤ b - a
  | [], a, b, _, _, h => by simp; omega
  | x :: l, a, b, h, hp, _ => by
    have hx := h x (List.mem_cons_self ..)
    rw [List.pairwise_cons] at hp
    have := rise_len l (x + 1) b (fun y hy => by have := hp.1 y hy; have := h y (List.mem_cons_of_mem _ hy); omega) hp.2 (by omega)
    rw [List.length_cons]; omega
theorem jobB_sm {j : DJob} (h : jobB j = true) : JobSm j := by
  have J := jobB_spec h
  have := J.n2
  have := J.lt
  have := J.lv
  refine ⟨by omega, fun r hr => ?_, by omega, by omega⟩
  obtain ⟨i, hi, rfl⟩ := List.getElem_of_mem hr
  obtain ⟨h1, h2⟩ := J.arc i hi
  have := rise_len j.1[i] 0 (i : Int) h1 h2 (by omega)
  omega
def planB (j : DJob) (p : DPlan) : Bool := decide (p.1 = j.2.2.2.2.1) && (decide ((p.2.1.length : Int) = (j.1.length : Int)) && inB (-1) (j.2.2.2.2.1 - 1) p.2.1)
theorem isPlan_ok (j : DJob) (p : DPlan) (hl : p.2.1.length ≤ 1048576) : impl_isPlan j p = some (planB j p) := by
  have h1 : impl_isPlan_l0 p.2.1 (p.2.1.length : Int) j.2.2.2.2.1 0 = some (if inB (-1) (j.2.2.2.2.1 - 1) p.2.1 then .inr () else .inl false) := by
    refine allL_loop (f := fun i => impl_isPlan_l0 p.2.1 (p.2.1.length : Int) j.2.2.2.2.1 i) ?_ fun i hi' => ?_
    · show impl_isPlan_l0 _ _ _ _ = _
      rw [impl_isPlan_l0_eq]; unfold impl_isPlan_l0K
      rw [lt_out (Nat.le_refl _)]
    · show impl_isPlan_l0 _ _ _ _ = _
      rw [impl_isPlan_l0_eq]; unfold impl_isPlan_l0K
      rw [loop_step hi', wr_succ hi' (by omega)]
      by_cases h1 : -1 ≤ p.2.1[i]
      · have h1' : ¬ p.2.1[i] < -1 := by omega
        by_cases h2 : p.2.1[i] ≤ j.2.2.2.2.1 - 1
        · have h2' : ¬ p.2.1[i] ≥ j.2.2.2.2.1 := by omega
          simp [h1, h1', h2, h2']
        · have h2' : p.2.1[i] ≥ j.2.2.2.2.1 := by omega
          simp [h1, h1', h2, h2']
      · have h1' : p.2.1[i] < -1 := by omega
        simp [h1, h1']
  unfold impl_isPlan impl_isPlanK planB
  rw [h1]
  simp only [bne_dec]
  by_cases c1 : p.1 = j.2.2.2.2.1 <;> by_cases c2 : (p.2.1.length : Int) = (j.1.length : Int) <;> cases inB (-1) (j.2.2.2.2.1 - 1) p.2.1 <;> simp [c1, c2, sumO]
structure PlanOk (j : DJob) (p : DPlan) : Prop where
  per : p.1 = j.2.2.2.2.1
  len : p.2.1.length = j.1.length
  w : ∀ x ∈ p.2.1, -1 ≤ x ∧ x < j.2.2.2.2.1
theorem planB_spec {j : DJob} {p : DPlan} (h : planB j p = true) : PlanOk j p := by
  simp only [planB, Bool.and_eq_true, decide_eq_true_eq] at h
  exact ⟨h.1, by omega, fun x hx => by have := inB_spec h.2.2 x hx; omega⟩
theorem jobEta (j : DJob) : ((j.1, (j.2.1, (j.2.2.1, ((j.2.2.2.1.1, (j.2.2.2.1.2.1, ())), (j.2.2.2.2.1, (j.2.2.2.2.2.1, (j.2.2.2.2.2.2.1, ()))))))) : DJob) = j := rfl
end
noncomputable section
theorem getD_nat {α : Type} {l : List α} {i : Nat} {d : α} (h : i < l.length) : l.getD (0 + ((i : Nat) : Int).toNat) d = l[i] := by simp [h]
theorem pow_pos' : ∀ n : Nat, (1 : Int) ≤ 20 ^ n
  | 0 => by simp
  | n + 1 => by have := pow_pos' n; rw [Int.pow_succ]; omega
theorem impl_power_l0_ok (b : Int) (h0 : 0 ≤ b) (h20 : b ≤ 20) : ∀ (n : Nat) (a : Int), 0 ≤ a → a * 20 ^ n ≤ 64000000 → n ≤ 6 → impl_power_l0 b (n : Int) a = some (a * b ^ n) := by
  intro n
  induction n with
  | zero =>
    intro a h1 h2 h3
    rw [impl_power_l0_eq]; unfold impl_power_l0K
    simp
  | succ n ih =>
    intro a h1 h2 h3
    have h4 : a * 20 ^ (n + 1) = a * 20 * 20 ^ n := by rw [Int.pow_succ, Int.mul_comm (20 ^ n) 20, Int.mul_assoc]
    have h5 : a * b ≤ a * 20 := Int.mul_le_mul_of_nonneg_left h20 h1
    have h6 : 0 ≤ a * b := Int.mul_nonneg h1 h0
    have hp : (1 : Int) ≤ 20 ^ n := pow_pos' n
    have h7 : a * b * 20 ^ n ≤ a * 20 * 20 ^ n := Int.mul_le_mul_of_nonneg_right h5 (by omega)
    have h8 : a * b * 1 ≤ a * b * 20 ^ n := Int.mul_le_mul_of_nonneg_left hp h6
    rw [impl_power_l0_eq]; unfold impl_power_l0K
    have e1 : ((n + 1 : Nat) : Int) > 0 := by omega
    have e2 : IntKind.i64.wrap (((n + 1 : Nat) : Int) - 1) = (n : Int) := by rw [wr (by omega) (by omega)]; omega
    rw [e2, wr (by omega) (by omega)]
    simp only [e1, decide_true, cond_true]
    rw [ih (a * b) h6 (by omega) (by omega), Int.pow_succ, Int.mul_comm (b ^ n) b, Int.mul_assoc]
theorem impl_power_ok (b : Int) (h0 : 0 ≤ b) (h20 : b ≤ 20) (n : Nat) (hn : n ≤ 6) : impl_power b (n : Int) = some (b ^ n) := by
  have hp : (20 : Int) ^ n ≤ 64000000 := by
    rcases (by omega : n = 0 ∨ n = 1 ∨ n = 2 ∨ n = 3 ∨ n = 4 ∨ n = 5 ∨ n = 6) with e | e | e | e | e | e | e <;> subst e <;> decide
  unfold impl_power impl_powerK
  rw [impl_power_l0_ok b h0 h20 n 1 (by omega) (by omega) hn]; simp
theorem spec_srPower_l0_ok (b : Int) (h0 : 0 ≤ b) (h20 : b ≤ 20) : ∀ (n : Nat) (a : Int), 0 ≤ a → a * 20 ^ n ≤ 64000000 → n ≤ 6 → spec_srPower_l0 b (n : Int) a = some (a * b ^ n) := by
  intro n
  induction n with
  | zero =>
    intro a h1 h2 h3
    rw [spec_srPower_l0_eq]; unfold spec_srPower_l0K
    simp
  | succ n ih =>
    intro a h1 h2 h3
    have h4 : a * 20 ^ (n + 1) = a * 20 * 20 ^ n := by rw [Int.pow_succ, Int.mul_comm (20 ^ n) 20, Int.mul_assoc]
    have h5 : a * b ≤ a * 20 := Int.mul_le_mul_of_nonneg_left h20 h1
    have h6 : 0 ≤ a * b := Int.mul_nonneg h1 h0
    have hp : (1 : Int) ≤ 20 ^ n := pow_pos' n
    have h7 : a * b * 20 ^ n ≤ a * 20 * 20 ^ n := Int.mul_le_mul_of_nonneg_right h5 (by omega)
    have h8 : a * b * 1 ≤ a * b * 20 ^ n := Int.mul_le_mul_of_nonneg_left hp h6
    rw [spec_srPower_l0_eq]; unfold spec_srPower_l0K
    have e1 : ((n + 1 : Nat) : Int) > 0 := by omega
    have e2 : IntKind.i64.wrap (((n + 1 : Nat) : Int) - 1) = (n : Int) := by rw [wr (by omega) (by omega)]; omega
    rw [e2, wr (by omega) (by omega)]
    simp only [e1, decide_true, cond_true]
    rw [ih (a * b) h6 (by omega) (by omega), Int.pow_succ, Int.mul_comm (b ^ n) b, Int.mul_assoc]
theorem spec_srPower_ok (b : Int) (h0 : 0 ≤ b) (h20 : b ≤ 20) (n : Nat) (hn : n ≤ 6) : spec_srPower b (n : Int) = some (b ^ n) := by
  have hp : (20 : Int) ^ n ≤ 64000000 := by
    rcases (by omega : n = 0 ∨ n = 1 ∨ n = 2 ∨ n = 3 ∨ n = 4 ∨ n = 5 ∨ n = 6) with e | e | e | e | e | e | e <;> subst e <;> decide
  unfold spec_srPower spec_srPowerK
  rw [spec_srPower_l0_ok b h0 h20 n 1 (by omega) (by omega) hn]; simp
def fac (j : DJob) (t : Int) : Int := if t < 0 then 0 else j.2.2.2.2.2.1 ^ t.toNat * j.2.2.2.2.2.2.1 ^ (j.2.2.2.2.1 - 1 - t).toNat
theorem pow_le20 {b : Int} (h0 : 0 ≤ b) (h20 : b ≤ 20) : ∀ n : Nat, 0 ≤ b ^ n ∧ b ^ n ≤ 20 ^ n
  | 0 => by simp
  | n + 1 => by
    obtain ⟨h1, h2⟩ := pow_le20 h0 h20 n
    rw [Int.pow_succ, Int.pow_succ]
    exact ⟨Int.mul_nonneg h1 h0, Int.le_trans (Int.mul_le_mul_of_nonneg_left h20 h1) (Int.mul_le_mul_of_nonneg_right h2 (by omega))⟩
theorem pow20 {n : Nat} (h : n ≤ 5) : (20 : Int) ^ n ≤ 3200000 := by
  rcases (by omega : n = 0 ∨ n = 1 ∨ n = 2 ∨ n = 3 ∨ n = 4 ∨ n = 5) with e | e | e | e | e | e <;> subst e <;> decide
theorem fac_bound {j : DJob} (J : JobOk j) {t : Int} (h : t < j.2.2.2.2.1) : 0 ≤ fac j t ∧ fac j t ≤ 3200000 := by
  have h1 := J.num
  have h2 := J.den
  have h3 := J.per
  unfold fac
  split
  · omega
  · rename_i h0
    obtain ⟨a1, a2⟩ := pow_le20 (b := j.2.2.2.2.2.1) (by omega) (by omega) t.toNat
    obtain ⟨b1, b2⟩ := pow_le20 (b := j.2.2.2.2.2.2.1) (by omega) (by omega) (j.2.2.2.2.1 - 1 - t).toNat
    refine ⟨Int.mul_nonneg a1 b1, Int.le_trans (Int.mul_le_mul_of_nonneg_right a2 b1) (Int.le_trans (Int.mul_le_mul_of_nonneg_left b2 (Int.le_trans a1 a2)) ?_)⟩
    rw [← Int.pow_add]
    exact pow20 (by omega)
theorem mul_bound {v f : Int} (hv : -1000000 ≤ v ∧ v ≤ 1000000) (hf : 0 ≤ f ∧ f ≤ 3200000) : -3200000000000 ≤ v * f ∧ v * f ≤ 3200000000000 := by
  have h1 : v * f ≤ 1000000 * f := Int.mul_le_mul_of_nonneg_right hv.2 hf.1
  have h2 : -1000000 * f ≤ v * f := Int.mul_le_mul_of_nonneg_right hv.1 hf.1
  omega
theorem srFactor_ok (j : DJob) (J : JobOk j) (t : Int) (h0 : 0 ≤ t) (h : t < j.2.2.2.2.1) : spec_srFactor j t = some (fac j t) := by
  have h1 := J.num
  have h2 := J.den
  have h3 := J.per
  have hb := fac_bound J h
  unfold spec_srFactor spec_srFactorK
  rw [wr (n := j.2.2.2.2.1 - 1) (by omega) (by omega), wr (n := j.2.2.2.2.1 - 1 - t) (by omega) (by omega)]
  have e1 : t = ((t.toNat : Nat) : Int) := by omega
  have e2 : j.2.2.2.2.1 - 1 - t = (((j.2.2.2.2.1 - 1 - t).toNat : Nat) : Int) := by omega
  have p1 : spec_srPower j.2.2.2.2.2.1 t = some (j.2.2.2.2.2.1 ^ t.toNat) := by
    have := spec_srPower_ok j.2.2.2.2.2.1 (by omega) (by omega) t.toNat (by omega)
    rwa [← e1] at this
  have p2 : spec_srPower j.2.2.2.2.2.2.1 (j.2.2.2.2.1 - 1 - t) = some (j.2.2.2.2.2.2.1 ^ (j.2.2.2.2.1 - 1 - t).toNat) := by
    have := spec_srPower_ok j.2.2.2.2.2.2.1 (by omega) (by omega) (j.2.2.2.2.1 - 1 - t).toNat (by omega)
    rwa [← e2] at this
  rw [p1, p2]
  have hn : ¬ t < 0 := by omega
  simp only [fac, hn, if_false] at hb ⊢
  simp only [Option.bind_some]
  rw [wr (by omega) (by omega)]
theorem scaledFactor_ok (j : DJob) (J : JobOk j) (t : Int) (h : t < j.2.2.2.2.1) : impl_scaledFactor j t = some (fac j t) := by
  have h1 := J.num
  have h2 := J.den
  have h3 := J.per
  have hb := fac_bound J h
  unfold impl_scaledFactor impl_scaledFactorK
  by_cases h0 : t < 0
  · simp [h0, fac]
  · have e1 : t = ((t.toNat : Nat) : Int) := by omega
    have e2 : j.2.2.2.2.1 - 1 - t = (((j.2.2.2.2.1 - 1 - t).toNat : Nat) : Int) := by omega
    have p1 : impl_power j.2.2.2.2.2.1 t = some (j.2.2.2.2.2.1 ^ t.toNat) := by
      have := impl_power_ok j.2.2.2.2.2.1 (by omega) (by omega) t.toNat (by omega)
      rwa [← e1] at this
    by_cases hm : -9223372036854775808 ≤ j.2.2.2.2.1 - 1 - t
    · rw [wr (n := j.2.2.2.2.1 - 1) (by omega) (by omega), wr (n := j.2.2.2.2.1 - 1 - t) hm (by omega)]
      have p2 : impl_power j.2.2.2.2.2.2.1 (j.2.2.2.2.1 - 1 - t) = some (j.2.2.2.2.2.2.1 ^ (j.2.2.2.2.1 - 1 - t).toNat) := by
        have := impl_power_ok j.2.2.2.2.2.2.1 (by omega) (by omega) (j.2.2.2.2.1 - 1 - t).toNat (by omega)
        rwa [← e2] at this
      rw [p1, p2]
      simp only [fac, h0, if_false] at hb ⊢
      simp only [decide_false, cond_false, Option.bind_some]
      rw [wr (by omega) (by omega)]
    · omega
end
noncomputable section
def pre (L : List Int) (i : Nat) : Int := (L.take i).sum
def worth (j : DJob) : List Int → List Int → Int
  | t :: w, v :: r => v * fac j t + worth j w r
  | _, _ => 0
theorem worth_bound {j : DJob} (J : JobOk j) : ∀ (w v : List Int), (∀ t ∈ w, t < j.2.2.2.2.1) → (∀ x ∈ v, -1000000 ≤ x ∧ x ≤ 1000000) → -(3200000000000 * (w.length : Int)) ≤ worth j w v ∧ worth j w v ≤ 3200000000000 * (w.length : Int)
  | [], v, _, _ => by simp [worth]
  | t :: w, [], _, _ => by simp [worth]; omega
  | t :: w, v :: r, hw, hv => by
    have h1 := worth_bound J w r (fun t ht => hw t (by simp [ht])) (fun x hx => hv x (by simp [hx]))
    have h2 := mul_bound (v := v) (f := fac j t) (hv v (by simp)) (fac_bound J (hw t (by simp)))
    simp only [worth, List.length_cons]
    omega
theorem worth_drop {j : DJob} {w v : List Int} {i : Nat} (hw : i < w.length) (hv : i < v.length) : worth j (w.drop i) (v.drop i) = v[i] * fac j w[i] + worth j (w.drop (i + 1)) (v.drop (i + 1)) := by
  rw [drop_cons hw, drop_cons hv]; rfl
theorem srWorth_ok (j : DJob) (w : List Int) (J : JobOk j) (hl : w.length ≤ j.1.length) (hw : ∀ t ∈ w, t < j.2.2.2.2.1) : spec_srWorth j w = some (worth j w j.2.2.1) := by
  have h120 := J.n2
  have hlv := J.lv
  have key : ∀ i, i ≤ w.length → ∀ a : Int, -(3200000000000 * (i : Int)) ≤ a → a ≤ 3200000000000 * (i : Int) →
      spec_srWorth_l0 w (w.length : Int) j.1 j.2.1 j.2.2.1 j.2.2.2.1.1 j.2.2.2.1.2.1 j.2.2.2.2.1 j.2.2.2.2.2.1 j.2.2.2.2.2.2.1 a i = some (a + worth j (w.drop i) (j.2.2.1.drop i)) := by
    refine down (fun a h1 h2 => ?_) fun i hi ih a h1 h2 => ?_
    · rw [spec_srWorth_l0_eq]; unfold spec_srWorth_l0K
      rw [lt_out (Nat.le_refl _)]
      simp [worth]
    · have hiv : i < j.2.2.1.length := by omega
      have hwi := hw _ (List.getElem_mem hi)
      have hv := J.v _ (List.getElem_mem hiv)
      have hf := fac_bound J hwi
      have hm := mul_bound hv hf
      rw [spec_srWorth_l0_eq]; unfold spec_srWorth_l0K
      rw [loop_step hi, wr_succ hi (by omega), worth_drop hi hiv]
      simp only [dec_ge]
      by_cases h0 : 0 ≤ w[i]
      · have ej : ((j.1, (j.2.1, (j.2.2.1, ((j.2.2.2.1.1, (j.2.2.2.1.2.1, ())), (j.2.2.2.2.1, (j.2.2.2.2.2.1, (j.2.2.2.2.2.2.1, ()))))))) : DJob) = j := rfl
        rw [lat_nat hiv]
        simp only [h0, decide_true, cond_true, Option.bind_some]
        rw [ej, srFactor_ok j J _ h0 hwi]
        simp only [Option.bind_some]
        rw [wr (n := j.2.2.1[i] * fac j w[i]) (by omega) (by omega), wr (by omega) (by omega), ih _ (by omega) (by omega)]
        congr 1; omega
      · have hz : fac j w[i] = 0 := by simp [fac, show w[i] < 0 by omega]
        simp only [h0, decide_false, cond_false]
        rw [ih a (by omega) (by omega), hz]
        congr 1; omega
  have := key 0 (Nat.zero_le _) 0 (by simp) (by simp)
  unfold spec_srWorth spec_srWorthK
  have e : spec_srWorth_l0 w (w.length : Int) j.1 j.2.1 j.2.2.1 j.2.2.2.1.1 j.2.2.2.1.2.1 j.2.2.2.2.1 j.2.2.2.2.2.1 j.2.2.2.2.2.2.1 0 0 = some (worth j w j.2.2.1) := by
    simpa using this
  rw [e]; rfl
end
noncomputable section
def ton : List (Int × Int × Int) → Int → Int × Int
  | [], _ => (0, 0)
  | (w, x, v) :: r, t => if w = t then (x + (ton r t).1, (if v > 0 then x else 0) + (ton r t).2) else ton r t
def zip3 (w x v : List Int) : List (Int × Int × Int) := w.zip (x.zip v)
def tab (n : Nat) (f : Nat → Int × Int) : List (List Int) := (List.range n).map fun t => [(f t).1, (f t).2]
theorem tab_len (n : Nat) (f : Nat → Int × Int) : (tab n f).length = n := by simp [tab]
theorem tab_get {n : Nat} {f : Nat → Int × Int} {t : Nat} (h : t < n) : (tab n f).getD (0 + ((t : Nat) : Int).toNat) [] = [(f t).1, (f t).2] := by
  simp [tab, h]
theorem tab_set {n : Nat} {f g : Nat → Int × Int} {t : Nat} (hg : ∀ k, k ≠ t → g k = f k) : (tab n f).set (0 + ((t : Nat) : Int).toNat) [(g t).1, (g t).2] = tab n g := by
  refine List.ext_getElem (by simp [tab]) fun i h1 h2 => ?_
  simp only [tab, List.getElem_set, Nat.zero_add, Int.toNat_natCast, List.getElem_map, List.getElem_range]
  by_cases c : t = i
  · subst c; simp
  · rw [if_neg c, hg i (Ne.symm c)]
def tonnes (j : DJob) (p : DPlan) : List (List Int) := tab j.2.2.2.2.1.toNat fun t => ton (zip3 p.2.1 j.2.1 j.2.2.1) (t : Int)
theorem ton_bound : ∀ (L : List (Int × Int × Int)) (t : Int), (∀ y ∈ L, 0 ≤ y.2.1 ∧ y.2.1 ≤ 10000) → 0 ≤ (ton L t).2 ∧ (ton L t).2 ≤ (ton L t).1 ∧ (ton L t).1 ≤ 10000 * (L.length : Int)
  | [], _, _ => by simp [ton]
  | (w, x, v) :: r, t, h => by
    have ih := ton_bound r t fun y hy => h y (List.mem_cons_of_mem _ hy)
    have hx := h (w, x, v) (List.mem_cons_self ..)
    dsimp only at hx
    unfold ton
    simp only [List.length_cons]
    by_cases c : w = t
    · rw [if_pos c]
      dsimp only
      split <;> omega
    · rw [if_neg c]
      omega
theorem zip3_drop {w x v : List Int} {i : Nat} (hw : i < w.length) (hx : i < x.length) (hv : i < v.length) :
    zip3 (w.drop i) (x.drop i) (v.drop i) = (w[i], x[i], v[i]) :: zip3 (w.drop (i + 1)) (x.drop (i + 1)) (v.drop (i + 1)) := by
  rw [drop_cons hw, drop_cons hx, drop_cons hv]; rfl
theorem tonnesIn_loop (j : DJob) (p : DPlan) (J : JobOk j) (Q : PlanOk j p) : ∀ i, i ≤ p.2.1.length → ∀ f : Nat → Int × Int, (∀ t, 0 ≤ (f t).1 ∧ (f t).1 ≤ 10000 * (i : Int) ∧ 0 ≤ (f t).2 ∧ (f t).2 ≤ 10000 * (i : Int)) →
    impl_tonnesIn_l1 p.2.1 (p.2.1.length : Int) j.2.1 j.2.2.1 (i : Int) (tab j.2.2.2.2.1.toNat f) =
      some (tab j.2.2.2.2.1.toNat fun t => ((f t).1 + (ton (zip3 (p.2.1.drop i) (j.2.1.drop i) (j.2.2.1.drop i)) (t : Int)).1, (f t).2 + (ton (zip3 (p.2.1.drop i) (j.2.1.drop i) (j.2.2.1.drop i)) (t : Int)).2)) := by
  have hlen := Q.len
  have hn := J.n2
  refine down (fun f hf => ?_) fun i hi ih f hf => ?_
  · rw [impl_tonnesIn_l1_eq]; unfold impl_tonnesIn_l1K
    rw [lt_out (Nat.le_refl _), List.drop_length]
    have e : ∀ a b, zip3 [] a b = [] := fun a b => by simp [zip3]
    simp [e, ton]
  · have hx : i < j.2.1.length := by have := J.lt; omega
    have hv : i < j.2.2.1.length := by have := J.lv; omega
    have hw := Q.w _ (List.getElem_mem hi)
    have hxb := J.t _ (List.getElem_mem hx)
    rw [impl_tonnesIn_l1_eq]; unfold impl_tonnesIn_l1K
    rw [loop_step hi, wr_succ hi (by omega), zip3_drop hi hx hv]
    simp only [lat_nat hx, lat_nat hv, Option.bind_some]
    by_cases c : p.2.1[i] < 0
    · simp only [c, decide_true, cond_true]
      rw [ih f fun t => by have := hf t; omega]
      congr 2
      funext t
      have ct : ¬ p.2.1[i] = (t : Int) := by omega
      simp only [ton, if_neg ct]
    · obtain ⟨k, hk⟩ := Int.eq_ofNat_of_zero_le (Int.not_lt.1 c)
      have hkn : k < j.2.2.2.2.1.toNat := by omega
      have c0 : ¬ (k : Int) < 0 := by omega
      have l0 : (0 : Int) < (([((f k).1), (f k).2] : List Int).length : Int) := by simp
      have hfk := hf k
      rw [hk]
      simp only [c0, decide_false, cond_false]
      rw [ck_in (by rw [tab_len]; exact hkn)]
      simp only [tab_get hkn]
      simp only [l0, decide_true, cond_true, Option.bind_some]
      have s1 : (([((f k).1), (f k).2] : List Int).set (0 + 0) (IntKind.i64.wrap ((([((f k).1), (f k).2] : List Int).getD (0 + 0) 0) + j.2.1[i]))) = [(f k).1 + j.2.1[i], (f k).2] := by
        show [IntKind.i64.wrap ((f k).1 + j.2.1[i]), (f k).2] = _
        rw [wr (by omega) (by omega)]
      rw [s1]
      let g1 : Nat → Int × Int := fun t => if t = k then ((f k).1 + j.2.1[i], (f k).2) else f t
      have g1k : g1 k = ((f k).1 + j.2.1[i], (f k).2) := if_pos rfl
      have t1 := tab_set (n := j.2.2.2.2.1.toNat) (f := f) (g := g1) (t := k) fun t ht => if_neg ht
      rw [g1k] at t1
      rw [t1]
      by_cases c2 : j.2.2.1[i] > 0
      · simp only [c2, decide_true, cond_true]
        rw [ck_in (by rw [tab_len]; exact hkn)]
        simp only [tab_get hkn, g1k]
        have l1 : (1 : Int) < (([((f k).1 + j.2.1[i]), (f k).2] : List Int).length : Int) := by simp
        simp only [l1, decide_true, cond_true]
        have s2 : (([((f k).1 + j.2.1[i]), (f k).2] : List Int).set (0 + 1) (IntKind.i64.wrap ((([((f k).1 + j.2.1[i]), (f k).2] : List Int).getD (0 + 1) 0) + j.2.1[i]))) = [(f k).1 + j.2.1[i], (f k).2 + j.2.1[i]] := by
          show [(f k).1 + j.2.1[i], IntKind.i64.wrap ((f k).2 + j.2.1[i])] = _
          rw [wr (by omega) (by omega)]
        rw [s2]
        let g2 : Nat → Int × Int := fun t => if t = k then ((f k).1 + j.2.1[i], (f k).2 + j.2.1[i]) else f t
        have g2k : g2 k = ((f k).1 + j.2.1[i], (f k).2 + j.2.1[i]) := if_pos rfl
        have t2 := tab_set (n := j.2.2.2.2.1.toNat) (f := g1) (g := g2) (t := k) fun t ht => by simp [g1, g2, ht]
        rw [g2k] at t2
        rw [t2, ih g2 fun t => by
          by_cases ht : t = k
          · subst ht; rw [g2k]; dsimp only; omega
          · have e : g2 t = f t := if_neg ht
            rw [e]; have := hf t; omega]
        congr 2
        funext t
        by_cases ht : t = k
        · subst ht
          simp only [g2k, ton, if_true, c2]
          exact Prod.ext (by dsimp only; omega) (by dsimp only; omega)
        · have e : g2 t = f t := if_neg ht
          have ct : ¬ (k : Int) = (t : Int) := by omega
          simp only [e, ton, if_neg ct]
      · simp only [c2, decide_false, cond_false]
        rw [ih g1 fun t => by
          by_cases ht : t = k
          · subst ht; rw [g1k]; dsimp only; omega
          · have e : g1 t = f t := if_neg ht
            rw [e]; have := hf t; omega]
        congr 2
        funext t
        by_cases ht : t = k
        · subst ht
          simp only [g1k, ton, if_true, c2, if_false]
          exact Prod.ext (by dsimp only; omega) (by dsimp only; omega)
        · have e : g1 t = f t := if_neg ht
          have ct : ¬ (k : Int) = (t : Int) := by omega
          simp only [e, ton, if_neg ct]
theorem tonnesIn_ok (j : DJob) (p : DPlan) (J : JobOk j) (Q : PlanOk j p) : impl_tonnesIn j p = some (tonnes j p) := by
  have hper := J.per
  have hc : (decide ((0 : Int) ≤ j.2.2.2.2.1) && (decide (j.2.2.2.2.1 ≤ j.2.2.2.2.1) && decide (j.2.2.2.2.1 ≤ 1099511627776))) = true := by
    simp only [Bool.and_eq_true, decide_eq_true_eq]; omega
  unfold impl_tonnesIn impl_tonnesInK
  simp only [hc, cond_true, Option.bind_some]
  have h0 : impl_tonnesIn_l0 (((List.replicate j.2.2.2.2.1.toNat [] : List (List Int)).length : Nat) : Int) 0 (List.replicate j.2.2.2.2.1.toNat []) = some (tab j.2.2.2.2.1.toNat fun _ => (0, 0)) := by
    refine fill_loop (f := fun i r => impl_tonnesIn_l0 (((List.replicate j.2.2.2.2.1.toNat [] : List (List Int)).length : Nat) : Int) i r) (l := tab j.2.2.2.2.1.toNat fun _ => (0, 0)) (by rw [tab_len]; omega) ?_ ?_ _ (by simp [tab_len])
    · show impl_tonnesIn_l0 _ _ _ = _
      rw [impl_tonnesIn_l0_eq]; unfold impl_tonnesIn_l0K
      rw [lt_out (by simp [tab_len])]
    · intro i r hi hr
      show impl_tonnesIn_l0 _ _ _ = impl_tonnesIn_l0 _ _ _
      rw [tab_len] at hi hr
      rw [impl_tonnesIn_l0_eq]; unfold impl_tonnesIn_l0K
      rw [lt_in (by simp; omega)]
      simp only [Option.bind_some]
      rw [ck_in (by omega), wr_succ hi (by omega)]
      simp [tab, List.replicate]
  rw [h0]
  have := tonnesIn_loop j p J Q 0 (Nat.zero_le _) (fun _ => (0, 0)) (by simp)
  simp only [Option.bind_some]
  have this : impl_tonnesIn_l1 p.2.1 (p.2.1.length : Int) j.2.1 j.2.2.1 0 (tab j.2.2.2.2.1.toNat fun _ => (0, 0)) = _ := this
  rw [this]
  simp [tonnes]
end
noncomputable section
theorem emptyL {f : Int → List Int → Option (List Int)} (n : Nat) (hn : n ≤ 1048576) (hend : f (n : Int) (List.replicate n (-1)) = some (List.replicate n (-1)))
    (hstep : ∀ (i : Nat) (r : List Int), i < n → r.length = n → f (i : Int) r = f ((i + 1 : Nat) : Int) (r.set i (-1))) : f 0 (List.replicate n 0) = some (List.replicate n (-1)) := by
  refine fill_loop (l := List.replicate n (-1)) (by simp; omega) (by simpa using hend) (fun i r hi hr => ?_) _ (by simp)
  have hi : i < n := by simpa using hi
  have hr : r.length = n := by simpa using hr
  rw [hstep i r hi hr]; simp
theorem implEmpty_ok (j : DJob) (J : JobOk j) : impl_emptyPlan j = some (j.2.2.2.2.1, List.replicate j.1.length (-1)) := by
  have hn := J.n2
  have hl : (((List.replicate j.1.length 0 : List Int).length : Nat) : Int) = (j.1.length : Int) := by simp
  unfold impl_emptyPlan impl_emptyPlanK
  rw [cap_ok (by omega)]
  simp only [Option.bind_some, Int.toNat_natCast, hl]
  have := emptyL (f := fun i r => impl_emptyPlan_l0 (j.1.length : Int) i r) j.1.length (by omega) (by
    show impl_emptyPlan_l0 _ _ _ = _
    rw [impl_emptyPlan_l0_eq]; unfold impl_emptyPlan_l0K
    rw [lt_out (Nat.le_refl _)]) fun i r hi hr => by
    show impl_emptyPlan_l0 _ _ _ = impl_emptyPlan_l0 _ _ _
    rw [impl_emptyPlan_l0_eq]; unfold impl_emptyPlan_l0K
    rw [lt_in hi, ck_in (by omega), wr_succ hi (by omega)]
    simp
  have this : impl_emptyPlan_l0 (j.1.length : Int) 0 (List.replicate j.1.length 0) = _ := this
  simp only [this, Option.bind_some]
theorem emptyPlanOk (j : DJob) (J : JobOk j) : PlanOk j (j.2.2.2.2.1, List.replicate j.1.length (-1), ()) :=
  ⟨rfl, by simp, fun x hx => by have := List.eq_of_mem_replicate hx; have := J.per; omega⟩
end
noncomputable section
def searchB (j : DJob) : Bool := jobB j && (decide ((j.1.length : Int) ≤ 12) && decide (j.2.2.2.2.1 ≤ 3))
theorem IsSearchable_okW (j : DJob) (s : JobWf j) : impl_IsSearchable j = some (searchB j) := by
  unfold impl_IsSearchable impl_IsSearchableK searchB
  rw [IsJob_okW j s]
  cases jobB j <;> by_cases c1 : (j.1.length : Int) ≤ 12 <;> simp [c1]
theorem srGood_okW (j : DJob) (s : JobWf j) : spec_srGood j = some (searchB j) := by
  unfold spec_srGood spec_srGoodK searchB
  rw [plJob_okW j s]
  cases jobB j <;> by_cases c1 : (j.1.length : Int) ≤ 12 <;> simp [c1]
structure SearchOk (j : DJob) : Prop extends JobOk j where
  n12 : j.1.length ≤ 12
  p3 : j.2.2.2.2.1 ≤ 3
theorem searchB_spec {j : DJob} (h : searchB j = true) : SearchOk j ∧ jobB j = true := by
  simp only [searchB, Bool.and_eq_true, decide_eq_true_eq] at h
  exact ⟨⟨jobB_spec h.1, by omega, h.2.2⟩, h.1⟩
end
noncomputable section
theorem copyPlan_ok (p : DPlan) (hl : p.2.1.length ≤ 1048576) : impl_copyPlan p = some (p.1, p.2.1) := by
  unfold impl_copyPlan impl_copyPlanK
  have hcap : ([] : List Int).length + p.2.1.length ≤ 1099511627776 := by simp; omega
  simp only [hcap, decide_true, cond_true, List.nil_append]
def arcB (w : List Int) (i : Nat) (a : Int) : Bool := decide (w.getD i 0 < 0) || (decide (0 ≤ w.getD a.toNat 0) && decide (w.getD a.toNat 0 ≤ w.getD i 0))
def ordB (j : DJob) (w : List Int) : Bool := allI (fun i r => r.all (arcB w i)) j.1
theorem keepsOrder_ok (j : DJob) (p : DPlan) (s : JobSm j) (J : JobOk j) (Q : PlanOk j p) (i : Nat) (hi : i < j.1.length) : impl_keepsOrder j p (i : Int) = some (j.1[i].all (arcB p.2.1 i)) := by
  have hlen := Q.len
  have hr : j.1[i].length ≤ 1048576 := s.r _ (List.getElem_mem hi)
  have hiw : i < p.2.1.length := by omega
  have hgi : p.2.1.getD i 0 = p.2.1[i] := by simp [hiw]
  have h1 : impl_keepsOrder_l0 (i : Int) j.1[i] (j.1[i].length : Int) p.2.1 0 = some (if j.1[i].all (arcB p.2.1 i) then .inr () else .inl false) := by
    refine allL_loop (f := fun k => impl_keepsOrder_l0 (i : Int) j.1[i] (j.1[i].length : Int) p.2.1 k) ?_ fun k hk => ?_
    · show impl_keepsOrder_l0 _ _ _ _ _ = _
      rw [impl_keepsOrder_l0_eq]; unfold impl_keepsOrder_l0K
      rw [lt_out (Nat.le_refl _)]
    · show impl_keepsOrder_l0 _ _ _ _ _ = _
      have ha := (J.arc i hi).1 _ (List.getElem_mem hk)
      have haw : j.1[i][k].toNat < p.2.1.length := by omega
      have hga : p.2.1.getD j.1[i][k].toNat 0 = p.2.1[j.1[i][k].toNat] := by simp [haw]
      rw [impl_keepsOrder_l0_eq]; unfold impl_keepsOrder_l0K
      rw [loop_step hk, wr_succ hk (by omega)]
      simp only [lat_nat hiw, lat_int ha.1 haw, Option.bind_some, arcB, hgi, hga]
      by_cases c1 : p.2.1[i] < 0
      · have c1' : ¬ p.2.1[i] ≥ 0 := by omega
        simp [c1, c1']
      · have c1' : p.2.1[i] ≥ 0 := by omega
        by_cases c2 : p.2.1[j.1[i][k].toNat] < 0
        · have c2' : ¬ 0 ≤ p.2.1[j.1[i][k].toNat] := by omega
          simp [c1, c1', c2, c2']
        · have c2' : 0 ≤ p.2.1[j.1[i][k].toNat] := by omega
          by_cases c3 : p.2.1[j.1[i][k].toNat] > p.2.1[i]
          · have c3' : ¬ p.2.1[j.1[i][k].toNat] ≤ p.2.1[i] := by omega
            simp [c1, c1', c2, c2', c3, c3']
          · have c3' : p.2.1[j.1[i][k].toNat] ≤ p.2.1[i] := by omega
            simp [c1, c1', c2, c2', c3, c3']
  unfold impl_keepsOrder impl_keepsOrderK
  rw [lat_nat hi]
  simp only [Option.bind_some, h1]
  cases j.1[i].all (arcB p.2.1 i) <;> simp [sumO]
def capB (j : DJob) (w : List Int) : Bool := (List.range j.2.2.2.2.1.toNat).all fun t => decide ((ton (zip3 w j.2.1 j.2.2.1) (t : Int)).1 ≤ j.2.2.2.1.1) && decide ((ton (zip3 w j.2.1 j.2.2.1) (t : Int)).2 ≤ j.2.2.2.1.2.1)
def feasB (j : DJob) (w : List Int) : Bool := ordB j w && capB j w
theorem l1In_ok (x a b : Int) : spec_l1In x a b = some (decide (a ≤ x) && decide (x ≤ b)) := by
  unfold spec_l1In spec_l1InK
  by_cases h1 : a ≤ x <;> by_cases h2 : x ≤ b <;> simp [h1, h2]
end
noncomputable section
def top (D : Int) (V : List Int) : Int := (V.map fun v => (if v > 0 then v else 0) * D).sum
theorem top_bound {D : Int} (h0 : 0 ≤ D) (h1 : D ≤ 3200000) : ∀ V : List Int, (∀ v ∈ V, -1000000 ≤ v ∧ v ≤ 1000000) → 0 ≤ top D V ∧ top D V ≤ 3200000000000 * (V.length : Int)
  | [], _ => by simp [top]
  | v :: V, h => by
    have ih := top_bound h0 h1 V fun x hx => h x (List.mem_cons_of_mem _ hx)
    have hv := h v (List.mem_cons_self ..)
    have e : top D (v :: V) = (if v > 0 then v else 0) * D + top D V := by simp [top]
    have hm := mul_bound (v := if v > 0 then v else 0) (f := D) (by split <;> omega) ⟨h0, h1⟩
    have h2 : 0 ≤ (if v > 0 then v else 0) * D := Int.mul_nonneg (by split <;> omega) h0
    rw [e]
    simp only [List.length_cons]
    omega
theorem rest_loop (j : DJob) (S : SearchOk j) (D : Int) (hD : j.2.2.2.2.2.2.1 ^ (j.2.2.2.2.1 - 1).toNat = D) (h0 : 0 ≤ D) (h1 : D ≤ 3200000) : ∀ k, k ≤ j.2.2.1.length → ∀ R : List Int, R.length = j.2.2.1.length + 1 → R.getD k 0 = top D (j.2.2.1.drop k) → (∀ m, m < k → R.getD m 0 = 0) → ∃ R',
    impl_newSearch_l0 j.2.2.1 j.2.2.2.2.1 j.2.2.2.2.2.2.1 ((k : Int) - 1) R = some R' ∧ R'.length = j.2.2.1.length + 1 ∧ R'.getD 0 0 = top D j.2.2.1 ∧ (∀ m, k ≤ m → R'.getD m 0 = R.getD m 0) ∧ (∀ m, m ≤ k → R'.getD m 0 = top D (j.2.2.1.drop m)) := by
  have hlv := S.lv
  have hn := S.n12
  have hper := S.per
  have hden := S.den
  have hnum := S.num
  intro k
  induction k with
  | zero =>
    intro _ R hR hk _
    rw [impl_newSearch_l0_eq]; unfold impl_newSearch_l0K
    have c1 : ¬ (((0 : Nat) : Int) - 1 ≥ 0) := by omega
    simp only [c1, decide_false, cond_false]
    refine ⟨R, rfl, hR, by rw [hk]; simp, fun _ _ => rfl, fun m hm => ?_⟩
    have : m = 0 := by omega
    subst this; exact hk
  | succ k ih =>
    intro hkn R hR hk hz
    have hi : k < j.2.2.1.length := hkn
    have hv := S.v _ (List.getElem_mem hi)
    have e : j.2.2.2.2.1 - 1 = (((j.2.2.2.2.1 - 1).toNat : Nat) : Int) := by omega
    have p2 : impl_power j.2.2.2.2.2.2.1 (j.2.2.2.2.1 - 1) = some D := by
      have := impl_power_ok j.2.2.2.2.2.2.1 (by omega) (by omega) (j.2.2.2.2.1 - 1).toNat (by omega)
      rw [← e, hD] at this; exact this
    have hm := mul_bound (v := if j.2.2.1[k] > 0 then j.2.2.1[k] else 0) (f := D) (by split <;> omega) ⟨h0, h1⟩
    have ht := top_bound h0 h1 (j.2.2.1.drop (k + 1)) fun x hx => S.v x (List.mem_of_mem_drop hx)
    rw [List.length_drop] at ht
    have e1 : ((k + 1 : Nat) : Int) - 1 = (k : Int) := by omega
    have c1 : (k : Int) ≥ 0 := by omega
    rw [e1, impl_newSearch_l0_eq]; unfold impl_newSearch_l0K
    rw [wr (n := (k : Int) + 1) (by omega) (by omega), wr (n := j.2.2.2.2.1 - 1) (by omega) (by omega), p2, wr (n := (k : Int) - 1) (by omega) (by omega)]
    have hin : k + 1 < R.length := by omega
    have e2 : (k : Int) + 1 = ((k + 1 : Nat) : Int) := by omega
    rw [e2, ck_in hin, lat_nat hi]
    have hkR : (k : Int) < (R.length : Int) := by omega
    have e3 : R.getD (0 + ((k + 1 : Nat) : Int).toNat) 0 = top D (j.2.2.1.drop (k + 1)) := by
      rw [← hk]
      congr 1
      omega
    simp only [c1, hkR, Bool.true_and, decide_true, cond_true, Option.bind_some, e3]
    rw [wr (n := (if j.2.2.1[k] > 0 then j.2.2.1[k] else 0) * D) (by omega) (by omega), wr (by omega) (by omega)]
    have e4 : (0 : Nat) + ((k : Int)).toNat = k := by omega
    rw [e4]
    have ed : top D (j.2.2.1.drop k) = (if j.2.2.1[k] > 0 then j.2.2.1[k] else 0) * D + top D (j.2.2.1.drop (k + 1)) := by
      rw [drop_cons hi]; simp only [top, List.map_cons, List.sum_cons]
    obtain ⟨R', g1, g2, g3, g4, g5⟩ := ih (by omega) (R.set k (top D (j.2.2.1.drop (k + 1)) + (if j.2.2.1[k] > 0 then j.2.2.1[k] else 0) * D)) (by simp [hR]) (by
      have : k < R.length := by omega
      rw [ed, List.getD_eq_getElem?_getD, List.getElem?_set_self this, Option.getD_some, Int.add_comm]) (fun m hm => by
      have hne : k ≠ m := by omega
      have := hz m (by omega)
      simpa [hne] using this)
    refine ⟨R', g1, g2, g3, fun m hm => ?_, fun m hm => ?_⟩
    · rw [g4 m (by omega)]
      have hne : k ≠ m := by omega
      simp [hne]
    · by_cases c : m ≤ k
      · exact g5 m c
      · have : m = k + 1 := by omega
        subst this
        rw [g4 _ (by omega)]
        have hne : k ≠ k + 1 := by omega
        rw [← hk]
        simp
end
end Go.OAI
