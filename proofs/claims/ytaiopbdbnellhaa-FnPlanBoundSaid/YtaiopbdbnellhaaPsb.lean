/- The search's bound: no plan in order within the limits is worth more. -/
import Derived.Test.YtaiopbdbnellhaaPsz
import Derived.Test.YtaiopbdbnellhaaGFnPlanBound
namespace Go.OAI
set_option linter.unusedVariables false
noncomputable section

/-! ### Prefixes whose periods fit -/
def Okp (j : DJob) (w : List Int) : Prop := ∀ k (h : k < w.length), w[k] < 0 ∨ fitB j (w.take k) w[k] = true
theorem Okp.nil (j : DJob) : Okp j [] := fun k h => absurd h (by simp)
theorem Okp.snoc {j : DJob} {w : List Int} (h : Okp j w) {t : Int} (ht : t < 0 ∨ fitB j w t = true) : Okp j (w ++ [t]) := fun k hk => by
  by_cases c : k < w.length
  · rw [List.getElem_append_left c, List.take_append_of_le_length (by omega)]
    exact h k c
  · have e : k = w.length := by simp at hk; omega
    subst e
    rw [List.getElem_append_right (Nat.le_refl _), List.take_append_of_le_length (Nat.le_refl _), List.take_length]
    simpa using ht
theorem take_snoc {w : List Int} {k : Nat} (h : k < w.length) : w.take (k + 1) = w.take k ++ [w[k]] := by simp
theorem WOk.take {j : DJob} {w : List Int} (W : WOk j w) (k : Nat) : WOk j (w.take k) :=
  ⟨by have := W.len; simp; omega, fun x hx => W.w x (List.mem_of_mem_take hx)⟩
theorem us_take {j : DJob} (J : JobOk j) {w : List Int} (hl : w.length ≤ j.1.length) {k : Nat} (h : k < w.length) (y : Int) :
    us j (w.take (k + 1)) y = if w[k] = y then ((us j (w.take k) y).1 + j.2.1[k]'(by have := J.lt; omega), (us j (w.take k) y).2 + if j.2.2.1[k]'(by have := J.lv; omega) > 0 then j.2.1[k]'(by have := J.lt; omega) else 0) else us j (w.take k) y := by
  have e : (w.take k).length = k := by simp; omega
  have hx : (w.take k).length < j.2.1.length := by have := J.lt; omega
  have hv : (w.take k).length < j.2.2.1.length := by have := J.lv; omega
  rw [take_snoc h, us_snoc J (by omega) w[k] y hx hv]
  simp only [e]
theorem caps_take {j : DJob} (J : JobOk j) {w : List Int} (hl : w.length ≤ j.1.length) (h : Okp j w) (y : Int) (hy : 0 ≤ y) : ∀ k, k ≤ w.length → (us j (w.take k) y).1 ≤ j.2.2.2.1.1 ∧ (us j (w.take k) y).2 ≤ j.2.2.2.1.2.1
  | 0, _ => by have := J.mine; have := J.mill; simp [us, zip3, ton]; omega
  | k + 1, hk => by
    have ih := caps_take J hl h y hy k (by omega)
    have hkl : k < w.length := hk
    by_cases c : w[k] = y
    · rcases h k hkl with h1 | h1
      · omega
      · rw [c] at h1
        simp only [fitB, Bool.and_eq_true, decide_eq_true_eq] at h1
        rw [take_snoc hkl, c]
        exact h1.2
    · rw [us_take J hl hkl, if_neg c]; exact ih
theorem us_mono {j : DJob} (J : JobOk j) {w : List Int} (hl : w.length ≤ j.1.length) (y : Int) : ∀ d k, k + d ≤ w.length → (us j (w.take k) y).1 ≤ (us j (w.take (k + d)) y).1 ∧ (us j (w.take k) y).2 ≤ (us j (w.take (k + d)) y).2
  | 0, k, _ => ⟨Int.le_refl _, Int.le_refl _⟩
  | d + 1, k, h => by
    have ih := us_mono J hl y d k (by omega)
    have hkl : k + d < w.length := by omega
    have ht := J.t _ (List.getElem_mem (l := j.2.1) (n := k + d) (by have := J.lt; omega))
    rw [← Nat.add_assoc, us_take J hl hkl]
    split
    · dsimp only
      split <;> omega
    · exact ih
theorem getD_take {w : List Int} {i k : Nat} (h : i < k) : (w.take k).getD i 0 = w.getD i 0 := by
  simp [List.getElem?_take, h]
theorem feas_okp {j : DJob} (J : JobOk j) {w : List Int} (W : WOk j w) (hn : w.length = j.1.length) : feasB j w = true ↔ Okp j w := by
  have key : ∀ k (h : k < w.length), j.1.getD (w.take k).length [] = j.1[k]'(by omega) := fun k h => by
    have : k < j.1.length := by omega
    have e : (w.take k).length = k := by simp; omega
    rw [e]; simp [this]
  have hgk : ∀ k (h : k < w.length), w.getD k 0 = w[k] := fun k h => by simp [h]
  constructor
  · intro hf k hk
    have hkj : k < j.1.length := by omega
    simp only [feasB, Bool.and_eq_true] at hf
    obtain ⟨h1, h2⟩ := hf
    by_cases c : w[k] < 0
    · exact .inl c
    · right
      have hwk := W.w _ (List.getElem_mem hk)
      have ho := allI_iff.1 h1 k hkj
      have hc := (List.all_eq_true.1 h2) (w[k].toNat) (List.mem_range.2 (by omega))
      have ew : ((w[k].toNat : Nat) : Int) = w[k] := by omega
      simp only [Bool.and_eq_true, decide_eq_true_eq, ew] at hc
      have hm := us_mono J W.len w[k] (w.length - (k + 1)) (k + 1) (by omega)
      rw [show k + 1 + (w.length - (k + 1)) = w.length by omega, List.take_length] at hm
      have hc1 : (us j w w[k]).1 ≤ j.2.2.2.1.1 := hc.1
      have hc2 : (us j w w[k]).2 ≤ j.2.2.2.1.2.1 := hc.2
      simp only [fitB, Bool.and_eq_true, decide_eq_true_eq, key k hk, ← take_snoc hk]
      refine ⟨?_, by omega, by omega⟩
      rw [List.all_eq_true] at ho ⊢
      intro a ha
      have hb := (J.arc k hkj).1 a ha
      have := ho a ha
      simp only [arcB, hgk k hk, c, decide_false, Bool.false_or] at this
      simp only [arcT, getD_take (show a.toNat < k by omega)]
      exact this
  · intro h
    simp only [feasB, Bool.and_eq_true]
    constructor
    · refine allI_iff.2 fun k hk => ?_
      have hkw : k < w.length := by omega
      rw [List.all_eq_true]
      intro a ha
      have hb := (J.arc k hk).1 a ha
      simp only [arcB, hgk k hkw]
      rcases h k hkw with h1 | h1
      · simp [h1]
      · simp only [fitB, Bool.and_eq_true, key k hkw, List.all_eq_true] at h1
        have := h1.1 a ha
        simp only [arcT, getD_take (show a.toNat < k by omega)] at this
        rw [this, Bool.or_true]
    · refine List.all_eq_true.2 fun t _ => ?_
      have := caps_take J W.len h (t : Int) (by omega) w.length (Nat.le_refl _)
      rw [List.take_length] at this
      simp only [Bool.and_eq_true, decide_eq_true_eq]
      exact this

/-! ### The plan that is found -/
structure FOk (j : DJob) (s : AS) : Prop extends BOk j s where
  okp : Okp j s.best
  val : s.worth = worth j s.best j.2.2.1
theorem kids_fit {j : DJob} {w : List Int} {t : Int} (h : t ∈ kidsT j w) : t < 0 ∨ fitB j w t = true := by
  rcases List.mem_append.1 h with h | h
  · exact .inr (List.mem_filter.1 h).2
  · have := List.mem_singleton.1 h; exact .inl (by omega)
theorem go_feas {j : DJob} (J : JobOk j) (most : Int) : ∀ m w s, WOk j w → Okp j w → w.length + m = j.1.length → FOk j s → FOk j (go j most m w s)
  | 0, w, s, W, O, hl, h => by
    unfold go
    split
    · exact ⟨⟨h.w, h.len⟩, h.okp, h.val⟩
    · split
      · exact ⟨⟨h.w, h.len⟩, h.okp, h.val⟩
      · refine ⟨⟨W, by simpa using hl⟩, O, ?_⟩
        have e : j.2.2.1.drop w.length = [] := List.drop_eq_nil_of_le (by have := J.lv; omega)
        show bnd j w = worth j w j.2.2.1
        unfold bnd
        rw [e]; simp [top]
  | m + 1, w, s, W, O, hl, h => by
    unfold go
    split
    · exact ⟨⟨h.w, h.len⟩, h.okp, h.val⟩
    · split
      · exact ⟨⟨h.w, h.len⟩, h.okp, h.val⟩
      · have key : ∀ (K : List Int) (s : AS), (∀ t ∈ K, t ∈ kidsT j w) → FOk j s → FOk j (K.foldl (fun s t => go j most m (w ++ [t]) s) s) := by
          intro K
          induction K with
          | nil => exact fun s _ h => h
          | cons t K ih =>
            intro s hK h
            have ht := hK t (List.mem_cons_self ..)
            exact ih _ (fun x hx => hK x (List.mem_cons_of_mem _ hx)) (go_feas J most m _ s (W.snoc (by omega) (kids_mem J.per.1 ht)) (O.snoc (kids_fit ht)) (by simp; omega) h)
        exact key _ _ (fun t ht => ht) ⟨⟨h.w, h.len⟩, h.okp, h.val⟩
theorem worth_none {j : DJob} : ∀ (m : Nat) (v : List Int), worth j (List.replicate m (-1)) v = 0
  | 0, v => by cases v <;> rfl
  | m + 1, [] => rfl
  | m + 1, a :: v => by
    rw [List.replicate_succ]
    show a * fac j (-1) + worth j (List.replicate m (-1)) v = 0
    rw [worth_none m v]; simp [fac]
theorem done_feas {j : DJob} (J : JobOk j) (most : Int) : FOk j (done j most) :=
  go_feas J most _ _ _ (WOk.nil j) (Okp.nil j) (by simp)
    ⟨⟨⟨by simp [s0], fun x hx => by have := List.eq_of_mem_replicate hx; have := J.per; omega⟩, by simp [s0]⟩, fun k hk => by simp [s0], by simp [s0, worth_none]⟩

/-! ### The bound -/
theorem pow_mono {a b : Int} (h0 : 0 ≤ a) (h : a ≤ b) : ∀ n : Nat, 0 ≤ a ^ n ∧ a ^ n ≤ b ^ n
  | 0 => by simp
  | n + 1 => by
    obtain ⟨h1, h2⟩ := pow_mono h0 h n
    rw [Int.pow_succ, Int.pow_succ]
    exact ⟨Int.mul_nonneg h1 h0, Int.le_trans (Int.mul_le_mul_of_nonneg_left h h1) (Int.mul_le_mul_of_nonneg_right h2 (by omega))⟩
theorem fac_dpow {j : DJob} (J : JobOk j) {t : Int} (h : t < j.2.2.2.2.1) : fac j t ≤ dpow j := by
  have hd := dpow_bound J
  have hnum := J.num
  have hden := J.den
  unfold fac
  split
  · exact hd.1
  · obtain ⟨_, h2⟩ := pow_mono (a := j.2.2.2.2.2.1) (b := j.2.2.2.2.2.2.1) (by omega) hden.1 t.toNat
    obtain ⟨h3, _⟩ := pow_mono (a := j.2.2.2.2.2.2.1) (b := j.2.2.2.2.2.2.1) (by omega) (Int.le_refl _) (j.2.2.2.2.1 - 1 - t).toNat
    refine Int.le_trans (Int.mul_le_mul_of_nonneg_right h2 h3) ?_
    rw [← Int.pow_add]
    unfold dpow
    rw [show t.toNat + (j.2.2.2.2.1 - 1 - t).toNat = (j.2.2.2.2.1 - 1).toNat by omega]
    exact Int.le_refl _
theorem mul_le_top {v f D : Int} (h0 : 0 ≤ f) (h1 : f ≤ D) : v * f ≤ (if v > 0 then v else 0) * D := by
  by_cases c : v > 0
  · rw [if_pos c]; exact Int.mul_le_mul_of_nonneg_left h1 (by omega)
  · rw [if_neg c]
    have : v * f ≤ 0 := by
      have := Int.mul_le_mul_of_nonneg_right (show v ≤ 0 by omega) h0
      omega
    omega
theorem worth_top {j : DJob} (J : JobOk j) : ∀ (w v : List Int), (∀ t ∈ w, t < j.2.2.2.2.1) → worth j w v ≤ top (dpow j) v
  | [], v, _ => by
    have hd := (dpow_bound J).1
    have key : ∀ v : List Int, 0 ≤ top (dpow j) v := by
      intro v
      induction v with
      | nil => simp [top]
      | cons a v ih =>
        have e : top (dpow j) (a :: v) = (if a > 0 then a else 0) * dpow j + top (dpow j) v := by simp [top]
        have : 0 ≤ (if a > 0 then a else 0) * dpow j := Int.mul_nonneg (by split <;> omega) hd
        omega
    have e : worth j [] v = 0 := by cases v <;> rfl
    rw [e]; exact key v
  | t :: w, [], _ => by simp [worth, top]
  | t :: w, a :: v, h => by
    have ih := worth_top J w v fun x hx => h x (List.mem_cons_of_mem _ hx)
    have ht := h t (List.mem_cons_self ..)
    have e : top (dpow j) (a :: v) = (if a > 0 then a else 0) * dpow j + top (dpow j) v := by simp [top]
    have := mul_le_top (v := a) (fac_bound J ht).1 (fac_dpow J ht)
    show a * fac j t + worth j w v ≤ _
    omega
theorem worth_split {j : DJob} : ∀ (k : Nat) (w v : List Int), k ≤ w.length → worth j w v = worth j (w.take k) v + worth j (w.drop k) (v.drop k)
  | 0, w, v, _ => by
    have : worth j [] v = 0 := by cases v <;> rfl
    simp [this]
  | k + 1, [], v, h => absurd h (by simp)
  | k + 1, t :: w, [], h => by
    have : ∀ u : List Int, worth j u [] = 0 := fun u => by cases u <;> rfl
    simp [this]
  | k + 1, t :: w, a :: v, h => by
    have ih := worth_split (j := j) k w v (by simpa using h)
    show a * fac j t + worth j w v = a * fac j t + worth j (w.take k) v + worth j (w.drop k) (v.drop k)
    omega
theorem worth_bnd {j : DJob} (J : JobOk j) {w : List Int} (W : WOk j w) (k : Nat) (h : k ≤ w.length) : worth j w j.2.2.1 ≤ bnd j (w.take k) := by
  have e := worth_split (j := j) k w j.2.2.1 h
  have := worth_top J (w.drop k) (j.2.2.1.drop k) fun t ht => (W.w t (List.mem_of_mem_drop ht)).2
  have el : (w.take k).length = k := by simp; omega
  unfold bnd
  rw [el]; omega
theorem go_mono (j : DJob) (most : Int) : ∀ m w s, s.worth ≤ (go j most m w s).worth ∧ s.opn ≤ (go j most m w s).opn
  | 0, w, s => by
    unfold go
    split
    · refine ⟨Int.le_refl _, ?_⟩
      show s.opn ≤ if bnd j w > s.opn then bnd j w else s.opn
      split <;> omega
    · split
      · exact ⟨Int.le_refl _, Int.le_refl _⟩
      · refine ⟨?_, Int.le_refl _⟩
        show s.worth ≤ bnd j w
        omega
  | m + 1, w, s => by
    unfold go
    split
    · refine ⟨Int.le_refl _, ?_⟩
      show s.opn ≤ if bnd j w > s.opn then bnd j w else s.opn
      split <;> omega
    · split
      · exact ⟨Int.le_refl _, Int.le_refl _⟩
      · have key : ∀ (K : List Int) (s : AS), s.worth ≤ (K.foldl (fun s t => go j most m (w ++ [t]) s) s).worth ∧ s.opn ≤ (K.foldl (fun s t => go j most m (w ++ [t]) s) s).opn := by
          intro K
          induction K with
          | nil => exact fun s => ⟨Int.le_refl _, Int.le_refl _⟩
          | cons t K ih =>
            intro s
            have h1 := go_mono j most m (w ++ [t]) s
            have h2 := ih (go j most m (w ++ [t]) s)
            exact ⟨Int.le_trans h1.1 h2.1, Int.le_trans h1.2 h2.2⟩
        exact key _ s.up
theorem fold_mono (j : DJob) (most : Int) (m : Nat) (w : List Int) : ∀ (K : List Int) (s : AS), s.worth ≤ (K.foldl (fun s t => go j most m (w ++ [t]) s) s).worth ∧ s.opn ≤ (K.foldl (fun s t => go j most m (w ++ [t]) s) s).opn
  | [], s => ⟨Int.le_refl _, Int.le_refl _⟩
  | t :: K, s => by
    have h1 := go_mono j most m (w ++ [t]) s
    have h2 := fold_mono j most m w K (go j most m (w ++ [t]) s)
    exact ⟨Int.le_trans h1.1 h2.1, Int.le_trans h1.2 h2.2⟩
theorem kid_in {j : DJob} (J : JobOk j) {w : List Int} (W : WOk j w) (O : Okp j w) {k : Nat} (h : k < w.length) : w[k] ∈ kidsT j (w.take k) := by
  have hb := W.w _ (List.getElem_mem h)
  by_cases c : w[k] < 0
  · have : w[k] = -1 := by omega
    rw [this]; exact List.mem_append.2 (.inr (by simp))
  · rcases O k h with h1 | h1
    · exact absurd h1 c
    · refine List.mem_append.2 (.inl (List.mem_filter.2 ⟨?_, h1⟩))
      exact List.mem_map.2 ⟨w[k].toNat, List.mem_range.2 (by omega), by omega⟩
theorem go_bound {j : DJob} (J : JobOk j) (most : Int) {p : List Int} (W : WOk j p) (O : Okp j p) (hn : p.length = j.1.length) : ∀ m k s, k + m = j.1.length →
    worth j p j.2.2.1 ≤ (go j most m (p.take k) s).worth ∨ worth j p j.2.2.1 ≤ (go j most m (p.take k) s).opn
  | 0, k, s, hk => by
    have hb := worth_bnd J W k (by omega)
    unfold go
    split
    · right
      show _ ≤ if bnd j (p.take k) > s.opn then bnd j (p.take k) else s.opn
      split <;> omega
    · split
      · left; show _ ≤ s.worth; omega
      · left; exact hb
  | m + 1, k, s, hk => by
    have hb := worth_bnd J W k (by omega)
    have hkp : k < p.length := by omega
    unfold go
    split
    · right
      show _ ≤ if bnd j (p.take k) > s.opn then bnd j (p.take k) else s.opn
      split <;> omega
    · split
      · left; show _ ≤ s.worth; omega
      · have key : ∀ (K : List Int) (s : AS), p[k] ∈ K → worth j p j.2.2.1 ≤ (K.foldl (fun s t => go j most m (p.take k ++ [t]) s) s).worth ∨ worth j p j.2.2.1 ≤ (K.foldl (fun s t => go j most m (p.take k ++ [t]) s) s).opn := by
          intro K
          induction K with
          | nil => exact fun s h => absurd h (by simp)
          | cons t K ih =>
            intro s h
            rw [List.foldl_cons]
            by_cases c : p[k] = t
            · have hm := fold_mono j most m (p.take k) K (go j most m (p.take k ++ [t]) s)
              have hg := go_bound J most W O hn m (k + 1) s (by omega)
              rw [take_snoc hkp, c] at hg
              rcases hg with hg | hg
              · left; omega
              · right; omega
            · rcases List.mem_cons.1 h with h | h
              · exact absurd h c
              · exact ih _ h
        exact key _ _ (kid_in J W O hkp)
theorem done_bound {j : DJob} (J : JobOk j) (most : Int) {p : List Int} (W : WOk j p) (O : Okp j p) (hn : p.length = j.1.length) : worth j p j.2.2.1 ≤ (planOut j most).2.2.1 := by
  have h := go_bound J most W O hn j.1.length 0 (s0 j) (by simp)
  rw [List.take_zero] at h
  show _ ≤ if (done j most).opn > (done j most).worth then (done j most).opn else (done j most).worth
  have h : worth j p j.2.2.1 ≤ (done j most).worth ∨ worth j p j.2.2.1 ≤ (done j most).opn := h
  rcases h with h | h <;> split <;> omega

/-! ### What the program tells of faults -/
theorem pFaults_inner (j : DJob) (p : DPlan) (s : JobSm j) (J : JobOk j) (Q : PlanOk j p) (i : Nat) (hi : i < j.1.length) (hi2 : i < p.2.1.length) :
    ∀ k, k ≤ j.1[i].length → ∀ acc : List (List Int), acc.length ≤ 1048576 * i + k → ∃ F, impl_OrderFaults_l1 (i : Int) p.2.1[i] j.1[i] (j.1[i].length : Int) p.2.1 (k : Int) acc = some F ∧ F.length ≤ 1048576 * i + j.1[i].length ∧
      (F = [] ↔ acc = [] ∧ ∀ x ∈ j.1[i].drop k, arcB p.2.1 i x = true) := by
  have hlen := Q.len
  have hn := J.n2
  have hr : j.1[i].length ≤ 1048576 := s.r _ (List.getElem_mem hi)
  have hgi : p.2.1.getD i 0 = p.2.1[i] := by simp [hi2]
  refine down (fun acc hacc => ?_) fun k hk ih acc hacc => ?_
  · rw [impl_OrderFaults_l1_eq]; unfold impl_OrderFaults_l1K
    rw [lt_out (Nat.le_refl _)]
    exact ⟨acc, rfl, hacc, by simp⟩
  · have ha := (J.arc i hi).1 _ (List.getElem_mem hk)
    have haw : j.1[i][k].toNat < p.2.1.length := by omega
    have hga : p.2.1.getD j.1[i][k].toNat 0 = p.2.1[j.1[i][k].toNat] := by simp [haw]
    have hl : acc.length + [[(i : Int), j.1[i][k]]].length ≤ 1099511627776 := by simp; omega
    have good : arcB p.2.1 i j.1[i][k] = true → ∃ F, impl_OrderFaults_l1 (i : Int) p.2.1[i] j.1[i] (j.1[i].length : Int) p.2.1 ((k + 1 : Nat) : Int) acc = some F ∧ F.length ≤ 1048576 * i + j.1[i].length ∧
        (F = [] ↔ acc = [] ∧ ∀ x ∈ j.1[i].drop k, arcB p.2.1 i x = true) := fun hb => by
      obtain ⟨F, g1, g2, g3⟩ := ih acc (by omega)
      rw [drop_cons hk]
      refine ⟨F, g1, g2, g3.trans ⟨fun ⟨h1, h2⟩ => ⟨h1, fun x hx => ?_⟩, fun ⟨h1, h2⟩ => ⟨h1, fun x hx => h2 x (List.mem_cons_of_mem _ hx)⟩⟩⟩
      rcases List.mem_cons.1 hx with h | h
      · rw [h]; exact hb
      · exact h2 x h
    have bad : arcB p.2.1 i j.1[i][k] = false → ∃ F, impl_OrderFaults_l1 (i : Int) p.2.1[i] j.1[i] (j.1[i].length : Int) p.2.1 ((k + 1 : Nat) : Int) (acc ++ [[(i : Int), j.1[i][k]]]) = some F ∧ F.length ≤ 1048576 * i + j.1[i].length ∧
        (F = [] ↔ acc = [] ∧ ∀ x ∈ j.1[i].drop k, arcB p.2.1 i x = true) := fun hb => by
      obtain ⟨F, g1, g2, g3⟩ := ih (acc ++ [[(i : Int), j.1[i][k]]]) (by simp; omega)
      rw [drop_cons hk]
      refine ⟨F, g1, g2, g3.trans ⟨fun ⟨h1, h2⟩ => absurd h1 (by simp), fun ⟨h1, h2⟩ => ?_⟩⟩
      have := h2 _ (List.mem_cons_self ..)
      rw [hb] at this; exact absurd this (by simp)
    rw [impl_OrderFaults_l1_eq]; unfold impl_OrderFaults_l1K
    rw [loop_step hk, wr_succ hk (by omega)]
    by_cases c1 : p.2.1[i] < 0
    · have c1' : ¬ p.2.1[i] ≥ 0 := by omega
      simp only [c1', decide_false, cond_false]
      exact good (by simp only [arcB, hgi, c1, decide_true, Bool.true_or])
    · have c1' : p.2.1[i] ≥ 0 := by omega
      simp only [c1', decide_true, cond_true, lat_int ha.1 haw, Option.bind_some]
      by_cases c2 : p.2.1[j.1[i][k].toNat] < 0
      · have c2' : ¬ 0 ≤ p.2.1[j.1[i][k].toNat] := by omega
        simp only [c2, decide_true, cond_true, hl]
        exact bad (by simp only [arcB, hgi, hga, c1, c2', decide_false, Bool.false_or, Bool.false_and])
      · have c2' : 0 ≤ p.2.1[j.1[i][k].toNat] := by omega
        simp only [c2, decide_false, cond_false]
        by_cases c3 : p.2.1[j.1[i][k].toNat] > p.2.1[i]
        · have c3' : ¬ p.2.1[j.1[i][k].toNat] ≤ p.2.1[i] := by omega
          simp only [c3, decide_true, cond_true, hl]
          exact bad (by simp only [arcB, hgi, hga, c1, c2', c3', decide_false, decide_true, Bool.false_or, Bool.and_false])
        · have c3' : p.2.1[j.1[i][k].toNat] ≤ p.2.1[i] := by omega
          simp only [c3, decide_false, cond_false]
          exact good (by simp only [arcB, hgi, hga, c1, c2', c3', decide_false, decide_true, Bool.false_or, Bool.and_true])
theorem pFaults_outer (j : DJob) (p : DPlan) (s : JobSm j) (J : JobOk j) (Q : PlanOk j p) : ∀ i, i ≤ p.2.1.length → ∀ acc : List (List Int), acc.length ≤ 1048576 * i →
    ∃ F, impl_OrderFaults_l0 p.2.1 (p.2.1.length : Int) j.1 p.2.1 (i : Int) acc = some F ∧ F.length ≤ 1048576 * p.2.1.length ∧ (F = [] ↔ acc = [] ∧ ∀ m (h : m < j.1.length), i ≤ m → j.1[m].all (arcB p.2.1 m) = true) := by
  have hlen := Q.len
  have hn := J.n2
  refine down (fun acc hacc => ?_) fun i hi ih acc hacc => ?_
  · rw [impl_OrderFaults_l0_eq]; unfold impl_OrderFaults_l0K
    rw [lt_out (Nat.le_refl _)]
    exact ⟨acc, rfl, hacc, fun h => ⟨h, fun m hm h2 => by omega⟩, fun h => h.1⟩
  · have hij : i < j.1.length := by omega
    have hr : j.1[i].length ≤ 1048576 := s.r _ (List.getElem_mem hij)
    rw [impl_OrderFaults_l0_eq]; unfold impl_OrderFaults_l0K
    rw [loop_step hi, wr_succ hi (by omega)]
    simp only [lat_nat hij, Option.bind_some]
    obtain ⟨F, f1, f2, f3⟩ := pFaults_inner j p s J Q i hij hi 0 (Nat.zero_le _) acc (by omega)
    have f1 : impl_OrderFaults_l1 (i : Int) p.2.1[i] j.1[i] (j.1[i].length : Int) p.2.1 0 acc = some F := f1
    simp only [f1, Option.bind_some]
    obtain ⟨F', g1, g2, g3⟩ := ih F (by omega)
    refine ⟨F', g1, g2, g3.trans ⟨fun ⟨h1, h2⟩ => ?_, fun ⟨h1, h2⟩ => ⟨f3.2 ⟨h1, ?_⟩, fun m hm hmi => h2 m hm (by omega)⟩⟩⟩
    · obtain ⟨k1, k2⟩ := f3.1 h1
      refine ⟨k1, fun m hm hmi => ?_⟩
      by_cases e : m = i
      · subst e
        rw [List.all_eq_true]
        simpa using k2
      · exact h2 m hm (by omega)
    · have := h2 i hij (Nat.le_refl _)
      rw [List.all_eq_true] at this
      simpa using this
theorem OrderFaults_ok (j : DJob) (p : DPlan) (hj : jobB j = true) (hl : p.2.1.length ≤ 1048576) : ∃ F : List (List Int), impl_OrderFaults j p = some (F, planB j p) ∧ (planB j p = true → decide (F = []) = ordB j p.2.1) := by
  have s := jobB_sm hj
  have J := jobB_spec hj
  unfold impl_OrderFaults impl_OrderFaultsK
  rw [IsJob_ok j s, hj, isPlan_ok j p hl]
  cases hp : planB j p with
  | false => exact ⟨[], rfl, fun h => absurd h (by simp)⟩
  | true =>
    have Q := planB_spec hp
    obtain ⟨F, g1, g2, g3⟩ := pFaults_outer j p s J Q 0 (Nat.zero_le _) [] (by simp)
    have g1 : impl_OrderFaults_l0 p.2.1 (p.2.1.length : Int) j.1 p.2.1 0 [] = some F := g1
    refine ⟨F, ?_, fun _ => ?_⟩
    · simp only [Option.bind_some, Bool.not_true, cond_false, g1]
    · rw [Bool.eq_iff_iff, decide_eq_true_eq, ordB, allI_iff, g3]
      exact ⟨fun h m hm => h.2 m hm (Nat.zero_le _), fun h => ⟨rfl, fun m hm _ => h m hm⟩⟩
theorem pOver_loop (j : DJob) (n : Nat) (hn : n ≤ 6) (f : Nat → Int × Int) : ∀ i, i ≤ n → ∀ acc : List Int, acc.length ≤ i →
    ∃ F, impl_OverLimits_l0 (n : Int) j.2.2.2.1.1 j.2.2.2.1.2.1 (tab n f) (i : Int) acc = some F ∧ (F = [] ↔ acc = [] ∧ ∀ t, t < n → i ≤ t → (decide ((f t).1 ≤ j.2.2.2.1.1) && decide ((f t).2 ≤ j.2.2.2.1.2.1)) = true) := by
  refine down (fun acc hacc => ?_) fun i hi ih acc hacc => ?_
  · rw [impl_OverLimits_l0_eq]; unfold impl_OverLimits_l0K
    rw [lt_out (Nat.le_refl _)]
    exact ⟨acc, rfl, fun h => ⟨h, fun m hm h2 => by omega⟩, fun h => h.1⟩
  · rw [impl_OverLimits_l0_eq]; unfold impl_OverLimits_l0K
    rw [lt_in hi, ck_in (by rw [tab_len]; exact hi), wr_succ hi (by omega), tab_get hi]
    have l0 : (0 : Int) < (([(f i).1, (f i).2] : List Int).length : Int) := by simp
    have l1 : (1 : Int) < (([(f i).1, (f i).2] : List Int).length : Int) := by simp
    have v0 : ([(f i).1, (f i).2] : List Int).getD (0 + 0) 0 = (f i).1 := rfl
    have v1 : ([(f i).1, (f i).2] : List Int).getD (0 + 1) 0 = (f i).2 := rfl
    have hl : acc.length + [(i : Int)].length ≤ 1099511627776 := by simp; omega
    simp only [l0, l1, v0, v1, hl, decide_true, cond_true]
    have bad : (decide ((f i).1 ≤ j.2.2.2.1.1) && decide ((f i).2 ≤ j.2.2.2.1.2.1)) = false → ∃ F, impl_OverLimits_l0 (n : Int) j.2.2.2.1.1 j.2.2.2.1.2.1 (tab n f) ((i + 1 : Nat) : Int) (acc ++ [(i : Int)]) = some F ∧
        (F = [] ↔ acc = [] ∧ ∀ t, t < n → i ≤ t → (decide ((f t).1 ≤ j.2.2.2.1.1) && decide ((f t).2 ≤ j.2.2.2.1.2.1)) = true) := fun hb => by
      obtain ⟨F, g1, g3⟩ := ih (acc ++ [(i : Int)]) (by simp; omega)
      refine ⟨F, g1, g3.trans ⟨fun ⟨h1, h2⟩ => absurd h1 (by simp), fun ⟨h1, h2⟩ => ?_⟩⟩
      have := h2 i hi (Nat.le_refl _)
      rw [hb] at this; exact absurd this (by simp)
    by_cases c1 : (f i).1 > j.2.2.2.1.1
    · simp only [c1, decide_true, cond_true]
      exact bad (by have : ¬ (f i).1 ≤ j.2.2.2.1.1 := by omega
                    simp [this])
    · by_cases c2 : (f i).2 > j.2.2.2.1.2.1
      · simp only [c1, c2, decide_true, decide_false, cond_true, cond_false]
        exact bad (by have : ¬ (f i).2 ≤ j.2.2.2.1.2.1 := by omega
                      simp [this])
      · simp only [c1, c2, decide_false, cond_false]
        obtain ⟨F, g1, g3⟩ := ih acc (by omega)
        refine ⟨F, g1, g3.trans ⟨fun ⟨h1, h2⟩ => ⟨h1, fun m hm hmi => ?_⟩, fun ⟨h1, h2⟩ => ⟨h1, fun m hm hmi => h2 m hm (by omega)⟩⟩⟩
        by_cases e : m = i
        · subst e
          have d1 : (f m).1 ≤ j.2.2.2.1.1 := by omega
          have d2 : (f m).2 ≤ j.2.2.2.1.2.1 := by omega
          simp [d1, d2]
        · exact h2 m hm (by omega)
theorem OverLimits_ok (j : DJob) (p : DPlan) (hj : jobB j = true) (hl : p.2.1.length ≤ 1048576) : ∃ F : List Int, impl_OverLimits j p = some (F, planB j p) ∧ (planB j p = true → decide (F = []) = capB j p.2.1) := by
  have s := jobB_sm hj
  have J := jobB_spec hj
  have hper := J.per
  unfold impl_OverLimits impl_OverLimitsK
  rw [IsJob_ok j s, hj, isPlan_ok j p hl]
  cases hp : planB j p with
  | false => exact ⟨[], rfl, fun h => absurd h (by simp)⟩
  | true =>
    have Q := planB_spec hp
    obtain ⟨G, g1, g2⟩ := pOver_loop j j.2.2.2.2.1.toNat (by omega) (fun t => ton (zip3 p.2.1 j.2.1 j.2.2.1) (t : Int)) 0 (Nat.zero_le _) [] (by simp)
    have g1 : impl_OverLimits_l0 ((tonnes j p).length : Int) j.2.2.2.1.1 j.2.2.2.1.2.1 (tonnes j p) 0 [] = some G := by
      rw [show (tonnes j p).length = j.2.2.2.2.1.toNat from tab_len _ _]; exact g1
    refine ⟨G, ?_, fun _ => ?_⟩
    · simp only [Option.bind_some, Bool.not_true, cond_false, tonnesIn_ok j p J Q, g1]
    · rw [Bool.eq_iff_iff, decide_eq_true_eq, capB, List.all_eq_true, g2]
      exact ⟨fun h m hm => h.2 m (List.mem_range.1 hm) (Nat.zero_le _), fun h => ⟨rfl, fun m hm _ => h m (List.mem_range.2 hm)⟩⟩
theorem ScaledWorth_ok (j : DJob) (p : DPlan) (hj : searchB j = true) (hl : p.2.1.length ≤ 1048576) : impl_ScaledWorth j p = some (if planB j p then worth j p.2.1 j.2.2.1 else 0, planB j p) := by
  obtain ⟨S, hjb⟩ := searchB_spec hj
  have s := jobB_sm hjb
  unfold impl_ScaledWorth impl_ScaledWorthK
  rw [IsSearchable_ok j s, hj, isPlan_ok j p hl]
  cases hp : planB j p with
  | false => rfl
  | true =>
    have Q := planB_spec hp
    simp only [Option.bind_some, Bool.not_true, cond_false, scaledWorth_ok j p S.toJobOk Q, if_true]
theorem sameInts_refl (l : List Int) (h : l.length ≤ 1099511627776) : laws_sameInts l l = some true := by
  unfold laws_sameInts laws_sameIntsK
  have : laws_sameInts_l0 l l (l.length : Int) 0 = some (if l.all (fun _ => true) then .inr () else .inl false) := by
    refine allL_loop (f := fun i => laws_sameInts_l0 l l (l.length : Int) i) ?_ fun i hi => ?_
    · show laws_sameInts_l0 _ _ _ _ = _
      rw [laws_sameInts_l0_eq]; unfold laws_sameInts_l0K
      rw [lt_out (Nat.le_refl _)]
    · show laws_sameInts_l0 _ _ _ _ = _
      rw [laws_sameInts_l0_eq]; unfold laws_sameInts_l0K
      rw [loop_step hi, wr_succ hi (by omega), lat_nat hi]
      simp
  rw [this]
  simp [sumO]
theorem pSamePlan_refl (p : DPlan) (h : p.2.1.length ≤ 1099511627776) : laws_pSamePlan p p = some true := by
  unfold laws_pSamePlan laws_pSamePlanK
  rw [sameInts_refl _ h]; simp
theorem planB_of {j : DJob} {w : List Int} (W : WOk j w) (h : w.length = j.1.length) : planB j (j.2.2.2.2.1, w, ()) = true := by
  have : inB (-1) (j.2.2.2.2.1 - 1) w = true := by
    unfold inB
    rw [List.all_eq_true]
    intro x hx
    have := W.w x hx
    simp; omega
  simp [planB, this, h]
end
end Go.OAI
