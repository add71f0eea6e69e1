/- Sums of worths. -/
import Derived.Test.YtokaffjipngphaaPw
namespace Go.OAI
set_option linter.unusedVariables false
noncomputable section

/-! ### Bounds -/
def Bd (B : Int) (L : List Int) : Prop := ∀ x ∈ L, -B ≤ x ∧ x ≤ B
theorem Bd.set {B : Int} {L : List Int} (h : Bd B L) {k : Nat} {y : Int} (hy : -B ≤ y ∧ y ≤ B) : Bd B (L.set k y) := fun x hx => by
  rcases List.mem_or_eq_of_mem_set hx with hx | hx
  · exact h x hx
  · rw [hx]; exact hy
theorem Bd.mono {B C : Int} {L : List Int} (h : Bd B L) (hc : B ≤ C) : Bd C L := fun x hx => by have := h x hx; omega
theorem Bd.getD {B : Int} (hB : 0 ≤ B) {L : List Int} (h : Bd B L) (k : Nat) : -B ≤ L.getD k 0 ∧ L.getD k 0 ≤ B := by
  by_cases hk : k < L.length
  · have := h _ (List.getElem_mem hk)
    simpa [hk] using this
  · simp [hk]; omega
theorem pwF_bound {j : DJob} (J : JobOk j) : ∀ (r : List (Int × Int)) (B : Int) (L : List Int), 0 ≤ B → Bd B L → (∀ x ∈ r, x.1 < j.2.2.2.2.1 ∧ -1000000 ≤ x.2 ∧ x.2 ≤ 1000000) → Bd (B + 3200000000000 * (r.length : Int)) (pwF j r L)
  | [], B, L, hB, hL, hr => by simpa [pwF] using hL
  | (t, v) :: r, B, L, hB, hL, hr => by
    have h1 := hr (t, v) (by simp)
    have h2 := mul_bound (v := v) (f := fac j t) h1.2 (fac_bound J h1.1)
    have := pwF_bound J r (B + 3200000000000) (if 0 ≤ t then L.set t.toNat (L.getD t.toNat 0 + v * fac j t) else L) (by omega) (by
      split
      · have := hL.getD hB t.toNat
        exact (hL.mono (by omega)).set (by omega)
      · exact hL.mono (by omega)) fun x hx => hr x (by simp [hx])
    unfold pwF
    refine this.mono ?_
    simp only [List.length_cons]
    omega
theorem zip_mem {j : DJob} {p : DPlan} (J : JobOk j) (Q : PlanOk j p) : ∀ x ∈ p.2.1.zip j.2.2.1, x.1 < j.2.2.2.2.1 ∧ -1000000 ≤ x.2 ∧ x.2 ≤ 1000000 := fun x hx => by
  obtain ⟨a, b⟩ := x
  obtain ⟨h1, h2⟩ := List.of_mem_zip hx
  exact ⟨(Q.w a h1).2, J.v b h2⟩
theorem pws_bound {j : DJob} {p : DPlan} (J : JobOk j) (Q : PlanOk j p) : Bd 384000000000000 (pws j p) := by
  have := pwF_bound J (p.2.1.zip j.2.2.1) 0 (List.replicate j.2.2.2.2.1.toNat 0) (by omega) (fun x hx => by rw [List.eq_of_mem_replicate hx]; omega) (zip_mem J Q)
  refine this.mono ?_
  have h1 := J.n2
  have h2 := Q.len
  have : (p.2.1.zip j.2.2.1).length ≤ 120 := by simp; omega
  omega

/-! ### Sums of the first elements -/
def pre (L : List Int) (i : Nat) : Int := (L.take i).sum
theorem pre_zero (L : List Int) : pre L 0 = 0 := by simp [pre]
theorem pre_succ {L : List Int} {i : Nat} (h : i < L.length) : pre L (i + 1) = pre L i + L[i] := by
  unfold pre
  rw [List.take_succ_eq_append_getElem h, List.sum_append]
  simp
theorem pre_all (L : List Int) : pre L L.length = L.sum := by simp [pre]
theorem pre_bound {B : Int} (hB : 0 ≤ B) {L : List Int} (h : Bd B L) : ∀ i, i ≤ L.length → -(B * (i : Int)) ≤ pre L i ∧ pre L i ≤ B * (i : Int)
  | 0, _ => by simp [pre]
  | i + 1, hi => by
    have h1 := pre_bound hB h i (by omega)
    have h2 := h _ (List.getElem_mem (show i < L.length by omega))
    rw [pre_succ (by omega)]
    have e : B * ((i + 1 : Nat) : Int) = B * (i : Int) + B := by rw [Int.natCast_add, Int.mul_add]; simp
    omega
theorem mul_small {B : Int} (h0 : 0 ≤ B) (hB : B ≤ 384000000000000) {n : Nat} (hn : n ≤ 6) : 0 ≤ B * (n : Int) ∧ B * (n : Int) ≤ 2304000000000000 := by
  have h1 : B * (n : Int) ≤ 384000000000000 * (n : Int) := Int.mul_le_mul_of_nonneg_right hB (by omega)
  have h2 : 0 ≤ B * (n : Int) := Int.mul_nonneg h0 (by omega)
  omega
theorem pre_small {L : List Int} (h : Bd 384000000000000 L) (hn : L.length ≤ 6) {i : Nat} (hi : i ≤ L.length) : -2304000000000000 ≤ pre L i ∧ pre L i ≤ 2304000000000000 := by
  have h1 := pre_bound (by omega) h i hi
  have h2 := mul_small (B := 384000000000000) (by omega) (by omega) (n := i) (by omega)
  omega
def sums (L : List Int) : List Int := (List.range L.length).map fun i => pre L (i + 1)
theorem sums_len (L : List Int) : (sums L).length = L.length := by simp [sums]
theorem sums_get {L : List Int} {i : Nat} (h : i < (sums L).length) : (sums L)[i] = pre L (i + 1) := by simp [sums]
/-! ### A plan's worth -/
def worth (j : DJob) : List Int → List Int → Int
  | t :: w, v :: r => v * fac j t + worth j w r
  | _, _ => 0
theorem sum_set : ∀ (L : List Int) (k : Nat) (x : Int), k < L.length → (L.set k (L.getD k 0 + x)).sum = L.sum + x
  | [], k, x, h => by simp at h
  | y :: L, 0, x, h => by simp; omega
  | y :: L, k + 1, x, h => by
    have := sum_set L k x (by simpa using h)
    simp only [List.set_cons_succ, List.getD_cons_succ, List.sum_cons, this]
    omega
theorem pwF_sum {j : DJob} : ∀ (w v : List Int) (L : List Int), (∀ t ∈ w, t < (L.length : Int)) → (pwF j (w.zip v) L).sum = L.sum + worth j w v
  | [], v, L, h => by simp [pwF, worth]
  | t :: w, [], L, h => by simp [pwF, worth]
  | t :: w, v :: r, L, h => by
    simp only [List.zip_cons_cons, pwF, worth]
    have ht := h t (by simp)
    split
    · rename_i h0
      rw [pwF_sum w r _ (fun t' ht' => by simpa using h t' (by simp [ht'])), sum_set _ _ _ (by omega)]
      omega
    · rename_i h0
      rw [pwF_sum w r _ (fun t' ht' => h t' (by simp [ht']))]
      have : fac j t = 0 := by simp [fac, show t < 0 by omega]
      rw [this]; omega
theorem pws_sum {j : DJob} {p : DPlan} (J : JobOk j) (Q : PlanOk j p) : (pws j p).sum = worth j p.2.1 j.2.2.1 := by
  have := J.per
  unfold pws
  rw [pwF_sum _ _ _ (fun t ht => by have := Q.w t ht; simp; omega)]
  simp
theorem worth_bound {j : DJob} (J : JobOk j) : ∀ (w v : List Int), (∀ t ∈ w, t < j.2.2.2.2.1) → (∀ x ∈ v, -1000000 ≤ x ∧ x ≤ 1000000) → -(3200000000000 * (w.length : Int)) ≤ worth j w v ∧ worth j w v ≤ 3200000000000 * (w.length : Int)
  | [], v, _, _ => by simp [worth]
  | t :: w, [], _, _ => by simp [worth]; omega
  | t :: w, v :: r, hw, hv => by
    have h1 := worth_bound J w r (fun t ht => hw t (by simp [ht])) (fun x hx => hv x (by simp [hx]))
    have h2 := mul_bound (v := v) (f := fac j t) (hv v (by simp)) (fac_bound J (hw t (by simp)))
    simp only [worth, List.length_cons]
    omega
theorem worth_set {j : DJob} : ∀ (w v : List Int) (i : Nat) (t : Int) (hw : i < w.length) (hv : i < v.length), worth j (w.set i t) v = worth j w v + v[i] * (fac j t - fac j w[i])
  | [], v, i, t, hw, hv => by simp at hw
  | a :: w, [], i, t, hw, hv => by simp at hv
  | a :: w, b :: v, 0, t, hw, hv => by
    simp only [List.set_cons_zero, worth, List.getElem_cons_zero, Int.mul_sub]
    omega
  | a :: w, b :: v, i + 1, t, hw, hv => by
    simp only [List.set_cons_succ, worth, List.getElem_cons_succ]
    rw [worth_set w v i t (by simpa using hw) (by simpa using hv)]
    omega
theorem scaledWorth_ok (j : DJob) (p : DPlan) (J : JobOk j) (Q : PlanOk j p) : impl_scaledWorth j p = some (worth j p.2.1 j.2.2.1) := by
  have hb := pws_bound J Q
  have hn : (pws j p).length ≤ 6 := by rw [pws_len]; have := J.per; omega
  have key : ∀ i, i ≤ (pws j p).length → impl_scaledWorth_l0 ((pws j p).length : Int) (pws j p) (pre (pws j p) i) i = some (pws j p).sum := by
    refine down ?_ fun i hi ih => ?_
    · rw [impl_scaledWorth_l0_eq]; unfold impl_scaledWorth_l0K
      rw [lt_out (Nat.le_refl _), pre_all]
    · have hs := pre_small hb hn (i := i + 1) (by omega)
      rw [pre_succ hi] at hs
      rw [impl_scaledWorth_l0_eq]; unfold impl_scaledWorth_l0K
      rw [lt_in hi, ck_in hi, getD_nat hi, wr_succ hi (by omega), wr (by omega) (by omega), ← pre_succ hi]
      exact ih
  have := key 0 (Nat.zero_le _)
  rw [pre_zero] at this
  unfold impl_scaledWorth impl_scaledWorthK
  rw [impl_periodWorths_ok j p J Q]
  have e : impl_scaledWorth_l0 ((pws j p).length : Int) (pws j p) 0 0 = some (pws j p).sum := this
  simp only [Option.bind_some, e, pws_sum J Q]
theorem worth_drop {j : DJob} {w v : List Int} {i : Nat} (hw : i < w.length) (hv : i < v.length) : worth j (w.drop i) (v.drop i) = v[i] * fac j w[i] + worth j (w.drop (i + 1)) (v.drop (i + 1)) := by
  rw [drop_cons hw, drop_cons hv]; rfl
theorem srWorth_ok (j : DJob) (w : List Int) (J : JobOk j) (hl : w.length ≤ j.1.length) (hw : ∀ t ∈ w, t < j.2.2.2.2.1) : spec_srWorth j w = some (worth j w j.2.2.1) := by
  have h120 := J.n2
  have hlv := J.lv
  have key : ∀ i, i ≤ w.length → ∀ a : Int, -(3200000000000 * (i : Int)) ≤ a → a ≤ 3200000000000 * (i : Int) →
      spec_srWorth_l0 w (w.length : Int) j.1 j.2.1 j.2.2.1 j.2.2.2.1.1 j.2.2.2.1.2.1 j.2.2.2.2.1 j.2.2.2.2.2.1 j.2.2.2.2.2.2.1 a i = some (a + worth j (w.drop i) (j.2.2.1.drop i)) := by
    refine down (fun a h1 h2 => ?_) fun i hi ih a h1 h2 => ?_
    · rw [spec_srWorth_l0_eq]; unfold spec_srWorth_l0K
      rw [lt_out (Nat.le_refl _)]
      simp [worth]
    · have hiv : i < j.2.2.1.length := by omega
      have hwi := hw _ (List.getElem_mem hi)
      have hv := J.v _ (List.getElem_mem hiv)
      have hf := fac_bound J hwi
      have hm := mul_bound hv hf
      rw [spec_srWorth_l0_eq]; unfold spec_srWorth_l0K
      rw [loop_step hi, wr_succ hi (by omega), worth_drop hi hiv]
      simp only [dec_ge]
      by_cases h0 : 0 ≤ w[i]
      · have ej : ((j.1, (j.2.1, (j.2.2.1, ((j.2.2.2.1.1, (j.2.2.2.1.2.1, ())), (j.2.2.2.2.1, (j.2.2.2.2.2.1, (j.2.2.2.2.2.2.1, ()))))))) : DJob) = j := rfl
        rw [lat_nat hiv]
        simp only [h0, decide_true, cond_true, Option.bind_some]
        rw [ej, srFactor_ok j J _ h0 hwi]
        simp only [Option.bind_some]
        rw [wr (n := j.2.2.1[i] * fac j w[i]) (by omega) (by omega), wr (by omega) (by omega), ih _ (by omega) (by omega)]
        congr 1; omega
      · have hz : fac j w[i] = 0 := by simp [fac, show w[i] < 0 by omega]
        simp only [h0, decide_false, cond_false]
        rw [ih a (by omega) (by omega), hz]
        congr 1; omega
  have := key 0 (Nat.zero_le _) 0 (by simp) (by simp)
  unfold spec_srWorth spec_srWorthK
  have e : spec_srWorth_l0 w (w.length : Int) j.1 j.2.1 j.2.2.1 j.2.2.2.1.1 j.2.2.2.1.2.1 j.2.2.2.2.1 j.2.2.2.2.2.1 j.2.2.2.2.2.2.1 0 0 = some (worth j w j.2.2.1) := by
    simpa using this
  rw [e]; rfl
end
end Go.OAI
